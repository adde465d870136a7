-- Laid by pp.py (a program of this session, over the kit's printer) out of the translation. Not trusted: Lean checks it.
import Derived.Test.YthicmbhldjebfaaDoorPAx0
import Derived.Test.YthicmbhldjebfaaDoorPAx2
import Derived.Test.YthicmbhldjebfaaDoorPAx6
import Derived.Test.YthicmbhldjebfaaDoorPAx14
import Derived.Test.YthicmbhldjebfaaDoorHD
namespace Go.Proofs.YthicmbhldjebfaaDoor.PA
open Go.RowKit Go.Proofs.YthicmbhldjebfaaDoorW.PrintWords Go.Proofs.YthicmbhldjebfaaDoorW.PrintLast Go.Proofs.YthicmbhldjebfaaDoorW.PrintMore
attribute [local go_sem] max2_int min2_int max_two min_two max_three min_three max_four min_four   -- for this text's walks alone
set_option linter.unusedVariables false
set_option linter.unusedSimpArgs false

/-! ### bits_ReadFields: function 51 -/
mutual
def bits_ReadFields.l0 : Nat → ByteArray → List (S66) → Int → List (S66) → Int → Int → Option ((List (S66)) × Int × Int)
  | 0, _, _, _, _, _, _ => none
  | k + 1, x0, x8, x9, x22, x23, x24 => if x24 < x23 then (if 0 ≤ x24 then (if x24 < (x22.length : Int) then ((bits_within.f ((rd_T66 x22 x24).f0) 0 3).bind fun t416 => (if t416 = true then ((bits_mostWidth.f ((rd_T66 x22 x24).f0)).bind fun t417 => ((bits_within.f ((rd_T66 x22 x24).f1) 0 t417).bind fun t418 => (if t418 = true then (if ((rd_T66 x22 x24).f0) = 2 then (bits_ReadFields.j1 k x0 x8 x9 x24 (wrap64 (8 * ((rd_T66 x22 x24).f1))) x22 x23 x24 ((rd_T66 x22 x24).f0) ((rd_T66 x22 x24).f1) ((rd_T66 x22 x24).f2) ((rd_T66 x22 x24).f3)) else (if ((rd_T66 x22 x24).f0) = 3 then (bits_ReadFields.j1 k x0 x8 x9 x24 (Go.bits .and .i64 (wrap64 (-x9)) 7) x22 x23 x24 ((rd_T66 x22 x24).f0) ((rd_T66 x22 x24).f1) ((rd_T66 x22 x24).f2) ((rd_T66 x22 x24).f3)) else (bits_ReadFields.j1 k x0 x8 x9 x24 ((rd_T66 x22 x24).f1) x22 x23 x24 ((rd_T66 x22 x24).f0) ((rd_T66 x22 x24).f1) ((rd_T66 x22 x24).f2) ((rd_T66 x22 x24).f3)))) else (some (([] : List (S66)), x24, 3))))) else (some (([] : List (S66)), x24, 4)))) else (none)) else (none)) else (some (x8, x9, 0))
def bits_ReadFields.j1 : Nat → ByteArray → List (S66) → Int → Int → Int → List (S66) → Int → Int → Int → Int → Int → ByteArray → Option ((List (S66)) × Int × Int)
  | 0, _, _, _, _, _, _, _, _, _, _, _, _ => none
  | k + 1, x0, x8, x9, x10, x12, x22, x23, x24, x416000, x416001, x416002, x416003 => if x12 > (wrap64 ((x0.size : Int) - x9)) then (some (([] : List (S66)), x10, 9)) else (if 0 ≤ x9 then (if x9 ≤ (wrap64 (x9 + x12)) then (if (wrap64 (x9 + x12)) ≤ (x0.size : Int) then (if x416000 = 0 then ((bits_number.f k (x0.extract (x9 : Int).toNat ((wrap64 (x9 + x12)) : Int).toNat)).bind fun t419 => (if t419 > 1152921504606846976 then (some (([] : List (S66)), x10, 25)) else (if x8.length < 3518437208883 then (bits_ReadFields.l0 k x0 (x8 ++ [(⟨x416000, x416001, t419, (⟨#[]⟩ : ByteArray)⟩ : S66)]) (wrap64 (x9 + x12)) x22 x23 (wrap64 (x24 + 1))) else (none)))) else (if x416000 = 1 then (if x8.length < 3518437208883 then (bits_ReadFields.l0 k x0 (x8 ++ [(⟨x416000, x416001, 0, x0.extract (x9 : Int).toNat ((wrap64 (x9 + x12)) : Int).toNat⟩ : S66)]) (wrap64 (x9 + x12)) x22 x23 (wrap64 (x24 + 1))) else (none)) else (if x416000 = 2 then ((bits_pack.f k (x0.extract (x9 : Int).toNat ((wrap64 (x9 + x12)) : Int).toNat)).bind fun t426 => (if x8.length < 3518437208883 then (bits_ReadFields.l0 k x0 (x8 ++ [(⟨x416000, x416001, 0, t426⟩ : S66)]) (wrap64 (x9 + x12)) x22 x23 (wrap64 (x24 + 1))) else (none))) else (if x416000 = 3 then ((strings_Contains.f (x0.extract (x9 : Int).toNat ((wrap64 (x9 + x12)) : Int).toNat) (⟨#[49]⟩ : ByteArray)).bind fun t430 => (if t430 = true then (some (([] : List (S66)), x10, 5)) else (if x8.length < 3518437208883 then (bits_ReadFields.l0 k x0 (x8 ++ [(⟨x416000, x416001, 0, (⟨#[]⟩ : ByteArray)⟩ : S66)]) (wrap64 (x9 + x12)) x22 x23 (wrap64 (x24 + 1))) else (none)))) else (if x8.length < 3518437208883 then (bits_ReadFields.l0 k x0 (x8 ++ [(⟨x416000, x416001, 0, (⟨#[]⟩ : ByteArray)⟩ : S66)]) (wrap64 (x9 + x12)) x22 x23 (wrap64 (x24 + 1))) else (none)))))) else (none)) else (none)) else (none))
end
def bits_ReadFields.f (k : Nat) (a0 : ByteArray) (l1 : List (S66)) : Option ((List (S66)) × Int × Int) := (bits_CheckBits.f a0).bind fun t413 => (if t413 = 0 then (if (l1.length : Int) > 1000 then (some (([] : List (S66)), 0, 2)) else (bits_ReadFields.l0 k a0 ([] : List (S66)) 0 l1 (l1.length : Int) 0)) else (some (([] : List (S66)), 0, t413)))
set_option maxHeartbeats 8000000 in
set_option maxRecDepth 100000 in
theorem bits_ReadFields.calls (k : Nat) (a0 : ByteArray) (A1 : Option Addr) (c1 : Nat) (l1 : List (S66)) (r1 : List (S66)) (r2 : Int) (r3 : Int) (w : World) (hr1 : Kd.C k66 w A1 l1.length l1) (hc1 : l1.length ≤ c1) (h : bits_ReadFields.f k a0 l1 = some (r1, r2, r3)) :
    Calls Tryd.prog 51 #[.string a0, .slice A1 l1.length c1] w fun e w' => ∃ v0_ : Value, e = .returned (.tuple #[v0_, .int .i64 r2, .int .i64 r3]) ∧ Kd.R k66 66 w' w.heap.size (fun _ => True) v0_ r1 ∧ Below w.heap.size w w' := by
  have hu66 := Tryd.underlying66
  have HR1 := Aside0.mk hr1
  have HC1 := Aside0.mk hc1
  clear hr1 hc1
  have HB := Aside0.mk (Below.refl w.heap.size w)
  have H : ((bits_CheckBits.f a0).bind fun t413 => (if t413 = 0 then (if (l1.length : Int) > 1000 then (some (([] : List (S66)), 0, 2)) else (bits_ReadFields.l0 k a0 ([] : List (S66)) 0 l1 (l1.length : Int) 0)) else (some (([] : List (S66)), 0, t413)))) = some (r1, r2, r3) := h
  clear h
  replace H := Option.bind_eq_some_iff.mp H
  obtain ⟨t413, A30, H⟩ := H
  (try dsimp only at H)
  have A3 := Aside0.mk A30
  clear A30
  by_cases c4 : t413 = 0
  · rw [if_pos c4] at H
    have c4b0 : (t413 == 0) = true := beq_iff_eq.mpr c4
    have c4b1 : (t413 != 0) = false := bne_eq_false_iff_eq.mpr c4
    clear c4
    by_cases c5 : (l1.length : Int) > 1000
    · rw [if_pos c5] at H
      have c5b0 : decide (1000 < (l1.length : Int)) = true := decide_eq_true c5
      have c5b1 : decide (1000 < l1.length) = true := decide_eq_true (by omega)
      clear c5
      simp only [Option.some.injEq, Prod.mk.injEq] at H
      obtain ⟨rfl, rfl, rfl⟩ := H
      go_enter Tryd.func51, Tryd.ntmps51
      go_wp2_with (first | (go_at_call 18; (with_reducible refine (bits_CheckBits.calls a0 t413 _ A3.out).mono ?_); rintro e w6 ⟨rfl, hb⟩; have n0_ := Aside0.mk (below_step (by repeat (first | (with_reducible first | exact HB.out | apply below_alloc | apply pw_below_drewN | apply below_drew1) | exact HB.out)) hb); clear HB; have HB := n0_; clear n0_; (try clear hb); (try clear hb2); (try clear hk); (try clear hi)))
      go_ret3
      exact ⟨_, by first | rfl | (simp [errW_none, errW_some] <;> rfl) | (simp [*, errW_none, errW_some] <;> rfl), by first | exact Kd.R_nil _ _ _ _ _ | exact Kd.N_nil _ _ _ _ _ | exact Kd.V_nil _ _ _ _ _ | exact Kd.Q_nil _ _ _ _ _ | exact Kd.S_nil _ _ _ _ _, by repeat (first | (with_reducible first | exact HB.out | apply below_alloc | apply pw_below_drewN | apply below_drew1) | exact HB.out)⟩
    · rw [if_neg c5] at H
      have c5b0 : decide (1000 < (l1.length : Int)) = false := decide_eq_false c5
      have c5b1 : decide (1000 < l1.length) = false := decide_eq_false (by omega)
      clear c5
      have H' := Aside0.mk H
      clear H
      go_enter Tryd.func51, Tryd.ntmps51
      go_wp2_with (first | (go_at_call 18; (with_reducible refine (bits_CheckBits.calls a0 t413 _ A3.out).mono ?_); rintro e w7 ⟨rfl, hb⟩; have n0_ := Aside0.mk (below_step (by repeat (first | (with_reducible first | exact HB.out | apply below_alloc | apply pw_below_drewN | apply below_drew1) | exact HB.out)) hb); clear HB; have HB := n0_; clear n0_; (try clear hb); (try clear hb2); (try clear hk); (try clear hi)))
      go_loopg [8, 9, 24] k (fun kq v8 v9 v24 w' => ∃ (x8_1 : List (S66)) (x9_1 : Int) (x24_1 : Int), v9 = .int .i64 x9_1 ∧ v24 = .int .i64 x24_1 ∧ Aside0 (bits_ReadFields.l0 kq a0 x8_1 x9_1 l1 (l1.length : Int) x24_1 = some (r1, r2, r3)) ∧ Aside0 (kq ≤ k) ∧ Aside0 (Kd.R k66 66 w' w.heap.size (fun _ => True) v8 x8_1) ∧ Aside0 (Below w.heap.size w w'))
      case atStart => exact ⟨(([] : List (S66))), (0), (0), (by first | rfl | (simp; done) | (simp [*]; done)), (by first | rfl | (simp; done) | (simp [*]; done)), H', ⟨Nat.le_refl _⟩, ⟨by first | exact Kd.R_nil _ _ _ _ _ | exact Kd.N_nil _ _ _ _ _ | exact Kd.V_nil _ _ _ _ _ | exact Kd.Q_nil _ _ _ _ _ | exact Kd.S_nil _ _ _ _ _⟩, ⟨by repeat (first | (with_reducible first | exact HB.out | apply below_alloc | apply pw_below_drewN | apply below_drew1) | exact HB.out)⟩⟩
      case round =>
        clear H'
        try clear c1
        try clear p2
        try clear c4
        try clear c4b0
        try clear c4b1
        try clear c5
        try clear c5b0
        try clear c5b1
        obtain ⟨x8_1, x9_1, x24_1, rfl, rfl, HA, HK1, HO_8, HB⟩ := hrel
        cases gk with
        | zero => exact absurd HA.out (by simp [bits_ReadFields.l0])
        | succ k1 =>
          have H := HA.out
          clear HA
          simp only [bits_ReadFields.l0] at H
          by_cases c8 : x24_1 < (l1.length : Int)
          · rw [if_pos c8] at H
            have c8b0 : decide (x24_1 < (l1.length : Int)) = true := decide_eq_true c8
            clear c8
            by_cases c9 : 0 ≤ x24_1
            · rw [if_pos c9] at H
              have c9b0 : decide (0 ≤ x24_1) = true := decide_eq_true c9
              clear c9
              by_cases c10 : x24_1 < (l1.length : Int)
              · rw [if_pos c10] at H
                have c10b0 : decide (x24_1 < (l1.length : Int)) = true := decide_eq_true c10
                clear c10
                replace H := Option.bind_eq_some_iff.mp H
                obtain ⟨t416, A110, H⟩ := H
                (try dsimp only at H)
                have A11 := Aside0.mk A110
                clear A110
                by_cases c12 : t416 = true
                · subst c12
                  rw [if_pos rfl] at H
                  replace H := Option.bind_eq_some_iff.mp H
                  obtain ⟨t417, A130, H⟩ := H
                  (try dsimp only at H)
                  have A13 := Aside0.mk A130
                  clear A130
                  replace H := Option.bind_eq_some_iff.mp H
                  obtain ⟨t418, A140, H⟩ := H
                  (try dsimp only at H)
                  have A14 := Aside0.mk A140
                  clear A140
                  by_cases c15 : t418 = true
                  · subst c15
                    rw [if_pos rfl] at H
                    have HC16 := Aside0.mk H
                    clear H
                    have p414 : 0 ≤ (x24_1 : Int) := of_decide_eq_true (by first | (with_reducible assumption) | assumption)
                    have q414 : x24_1 < (l1.length : Int) := of_decide_eq_true (by first | (with_reducible assumption) | assumption)
                    obtain ⟨ad414, e414, hx414_0, hx414_1, hx414_2, hx414_3⟩ := at_T66 HR1.out x24_1 p414 q414
                    cases e414
                    replace hx414_0 := (HB.out.cell (World.block_lt_of_cell? w _ hx414_0)).trans hx414_0
                    replace hx414_1 := (HB.out.cell (World.block_lt_of_cell? w _ hx414_1)).trans hx414_1
                    replace hx414_2 := (HB.out.cell (World.block_lt_of_cell? w _ hx414_2)).trans hx414_2
                    replace hx414_3 := (HB.out.cell (World.block_lt_of_cell? w _ hx414_3)).trans hx414_3
                    replace p414 := eq_true p414
                    replace q414 := eq_true q414
                    go_upto_block 3 with (first | ((with_reducible refine gate_dst (N := 11) rfl ?_); refine box_event ?hg (N := 11) ?hd (cs := #[.int .i64 0, .int .i64 0, .int .i64 0, .string (⟨#[]⟩ : ByteArray)]) (t := 66) ?hr ?_; (case hd => rfl); (case hg => rfl); (case hr => first | (go_simp; done) | (go_simp; rfl)); intro gb415 hg w17 hbox hb; have n0_ := Aside0.mk (Kd.R_below (Kd.R_elderB (by (with_reducible repeat (first | apply Kd.R_alloc | apply Kd.R_drewN | apply Kd.R_drew)); exact HO_8.out) gb415 (Nat.le_of_eq hg.symm)) hb); have n1_ := Aside0.mk (below_step (by repeat (first | (with_reducible first | exact HB.out | apply below_alloc | apply pw_below_drewN | apply below_drew1) | exact HB.out)) hb); have n2_ := Aside0.mk (hbox); have n3_ := Aside0.mk ((by rw [hg]; exact (below_size (by repeat (first | (with_reducible first | exact HB.out | apply below_alloc | apply pw_below_drewN | apply below_drew1) | exact HB.out))) : w.heap.size ≤ gb415)); have n4_ := Aside0.mk ((by rw [hg]; exact (below_size (by repeat (first | (with_reducible first | exact HB.out | apply below_alloc | apply pw_below_drewN | apply below_drew1) | exact HB.out))) : w.heap.size ≤ gb415)); clear HO_8; clear HB; have HO_8 := n0_; have HB := n1_; have BK415 := n2_; have GW415 := n3_; have GE415 := n4_; clear n0_ n1_ n2_ n3_ n4_; clear hb hbox hg; have hcz18_0 : w17.cell? ⟨gb415, 0, none⟩ = some (.int .i64 0) := (blk_cell BK415.out 0).trans rfl; have hcz18_1 : w17.cell? ⟨gb415, 1, none⟩ = some (.int .i64 0) := (blk_cell BK415.out 1).trans rfl; have hcz18_2 : w17.cell? ⟨gb415, 2, none⟩ = some (.int .i64 0) := (blk_cell BK415.out 2).trans rfl; have hcz18_3 : w17.cell? ⟨gb415, 3, none⟩ = some (.string (⟨#[]⟩ : ByteArray)) := (blk_cell BK415.out 3).trans rfl; have hfz18_0 := blk_frozen BK415.out 0; have hfz18_1 := blk_frozen BK415.out 1; have hfz18_2 := blk_frozen BK415.out 2; have hfz18_3 := blk_frozen BK415.out 3) | (go_at_call 66; (with_reducible refine (bits_within.calls ((rd_T66 l1 x24_1).f0) 0 3 true _ A11.out).mono ?_); rintro e w' ⟨rfl, ⟨nd, rfl⟩⟩; (try first | exact ⟨rfl, _, World.drewN_drewN _ _ _⟩ | exact ⟨rfl, _, Eq.trans (World.drewN_drewN _ _ _) (congrArg (World.drewN _) (Nat.add_assoc _ _ _))⟩)) | (go_at_call 75; (with_reducible refine (bits_mostWidth.calls ((rd_T66 l1 x24_1).f0) t417 _ A13.out).mono ?_); rintro e w' ⟨rfl, ⟨nd, rfl⟩⟩; (try first | exact ⟨rfl, _, World.drewN_drewN _ _ _⟩ | exact ⟨rfl, _, Eq.trans (World.drewN_drewN _ _ _) (congrArg (World.drewN _) (Nat.add_assoc _ _ _))⟩)) | (go_at_call 66; (with_reducible refine (bits_within.calls ((rd_T66 l1 x24_1).f1) 0 t417 true _ A14.out).mono ?_); rintro e w' ⟨rfl, ⟨nd, rfl⟩⟩; (try first | exact ⟨rfl, _, World.drewN_drewN _ _ _⟩ | exact ⟨rfl, _, Eq.trans (World.drewN_drewN _ _ _) (congrArg (World.drewN _) (Nat.add_assoc _ _ _))⟩)))
                    repeat (go_quiet (first | ((with_reducible refine gate_dst (N := 11) rfl ?_); refine box_event ?hg (N := 11) ?hd (cs := #[.int .i64 0, .int .i64 0, .int .i64 0, .string (⟨#[]⟩ : ByteArray)]) (t := 66) ?hr ?_; (case hd => rfl); (case hg => rfl); (case hr => first | (go_simp; done) | (go_simp; rfl)); intro gb415 hg w17 hbox hb; have n0_ := Aside0.mk (Kd.R_below (Kd.R_elderB (by (with_reducible repeat (first | apply Kd.R_alloc | apply Kd.R_drewN | apply Kd.R_drew)); exact HO_8.out) gb415 (Nat.le_of_eq hg.symm)) hb); have n1_ := Aside0.mk (below_step (by repeat (first | (with_reducible first | exact HB.out | apply below_alloc | apply pw_below_drewN | apply below_drew1) | exact HB.out)) hb); have n2_ := Aside0.mk (hbox); have n3_ := Aside0.mk ((by rw [hg]; exact (below_size (by repeat (first | (with_reducible first | exact HB.out | apply below_alloc | apply pw_below_drewN | apply below_drew1) | exact HB.out))) : w.heap.size ≤ gb415)); have n4_ := Aside0.mk ((by rw [hg]; exact (below_size (by repeat (first | (with_reducible first | exact HB.out | apply below_alloc | apply pw_below_drewN | apply below_drew1) | exact HB.out))) : w.heap.size ≤ gb415)); clear HO_8; clear HB; have HO_8 := n0_; have HB := n1_; have BK415 := n2_; have GW415 := n3_; have GE415 := n4_; clear n0_ n1_ n2_ n3_ n4_; clear hb hbox hg; have hcz18_0 : w17.cell? ⟨gb415, 0, none⟩ = some (.int .i64 0) := (blk_cell BK415.out 0).trans rfl; have hcz18_1 : w17.cell? ⟨gb415, 1, none⟩ = some (.int .i64 0) := (blk_cell BK415.out 1).trans rfl; have hcz18_2 : w17.cell? ⟨gb415, 2, none⟩ = some (.int .i64 0) := (blk_cell BK415.out 2).trans rfl; have hcz18_3 : w17.cell? ⟨gb415, 3, none⟩ = some (.string (⟨#[]⟩ : ByteArray)) := (blk_cell BK415.out 3).trans rfl; have hfz18_0 := blk_frozen BK415.out 0; have hfz18_1 := blk_frozen BK415.out 1; have hfz18_2 := blk_frozen BK415.out 2; have hfz18_3 := blk_frozen BK415.out 3) | (go_at_call 66; (with_reducible refine (bits_within.calls ((rd_T66 l1 x24_1).f0) 0 3 true _ A11.out).mono ?_); rintro e w' ⟨rfl, ⟨nd, rfl⟩⟩; (try first | exact ⟨rfl, _, World.drewN_drewN _ _ _⟩ | exact ⟨rfl, _, Eq.trans (World.drewN_drewN _ _ _) (congrArg (World.drewN _) (Nat.add_assoc _ _ _))⟩)) | (go_at_call 75; (with_reducible refine (bits_mostWidth.calls ((rd_T66 l1 x24_1).f0) t417 _ A13.out).mono ?_); rintro e w' ⟨rfl, ⟨nd, rfl⟩⟩; (try first | exact ⟨rfl, _, World.drewN_drewN _ _ _⟩ | exact ⟨rfl, _, Eq.trans (World.drewN_drewN _ _ _) (congrArg (World.drewN _) (Nat.add_assoc _ _ _))⟩)) | (go_at_call 66; (with_reducible refine (bits_within.calls ((rd_T66 l1 x24_1).f1) 0 t417 true _ A14.out).mono ?_); rintro e w' ⟨rfl, ⟨nd, rfl⟩⟩; (try first | exact ⟨rfl, _, World.drewN_drewN _ _ _⟩ | exact ⟨rfl, _, Eq.trans (World.drewN_drewN _ _ _) (congrArg (World.drewN _) (Nat.add_assoc _ _ _))⟩))); go_upto_block 3 with (first | ((with_reducible refine gate_dst (N := 11) rfl ?_); refine box_event ?hg (N := 11) ?hd (cs := #[.int .i64 0, .int .i64 0, .int .i64 0, .string (⟨#[]⟩ : ByteArray)]) (t := 66) ?hr ?_; (case hd => rfl); (case hg => rfl); (case hr => first | (go_simp; done) | (go_simp; rfl)); intro gb415 hg w17 hbox hb; have n0_ := Aside0.mk (Kd.R_below (Kd.R_elderB (by (with_reducible repeat (first | apply Kd.R_alloc | apply Kd.R_drewN | apply Kd.R_drew)); exact HO_8.out) gb415 (Nat.le_of_eq hg.symm)) hb); have n1_ := Aside0.mk (below_step (by repeat (first | (with_reducible first | exact HB.out | apply below_alloc | apply pw_below_drewN | apply below_drew1) | exact HB.out)) hb); have n2_ := Aside0.mk (hbox); have n3_ := Aside0.mk ((by rw [hg]; exact (below_size (by repeat (first | (with_reducible first | exact HB.out | apply below_alloc | apply pw_below_drewN | apply below_drew1) | exact HB.out))) : w.heap.size ≤ gb415)); have n4_ := Aside0.mk ((by rw [hg]; exact (below_size (by repeat (first | (with_reducible first | exact HB.out | apply below_alloc | apply pw_below_drewN | apply below_drew1) | exact HB.out))) : w.heap.size ≤ gb415)); clear HO_8; clear HB; have HO_8 := n0_; have HB := n1_; have BK415 := n2_; have GW415 := n3_; have GE415 := n4_; clear n0_ n1_ n2_ n3_ n4_; clear hb hbox hg; have hcz18_0 : w17.cell? ⟨gb415, 0, none⟩ = some (.int .i64 0) := (blk_cell BK415.out 0).trans rfl; have hcz18_1 : w17.cell? ⟨gb415, 1, none⟩ = some (.int .i64 0) := (blk_cell BK415.out 1).trans rfl; have hcz18_2 : w17.cell? ⟨gb415, 2, none⟩ = some (.int .i64 0) := (blk_cell BK415.out 2).trans rfl; have hcz18_3 : w17.cell? ⟨gb415, 3, none⟩ = some (.string (⟨#[]⟩ : ByteArray)) := (blk_cell BK415.out 3).trans rfl; have hfz18_0 := blk_frozen BK415.out 0; have hfz18_1 := blk_frozen BK415.out 1; have hfz18_2 := blk_frozen BK415.out 2; have hfz18_3 := blk_frozen BK415.out 3) | (go_at_call 66; (with_reducible refine (bits_within.calls ((rd_T66 l1 x24_1).f0) 0 3 true _ A11.out).mono ?_); rintro e w' ⟨rfl, ⟨nd, rfl⟩⟩; (try first | exact ⟨rfl, _, World.drewN_drewN _ _ _⟩ | exact ⟨rfl, _, Eq.trans (World.drewN_drewN _ _ _) (congrArg (World.drewN _) (Nat.add_assoc _ _ _))⟩)) | (go_at_call 75; (with_reducible refine (bits_mostWidth.calls ((rd_T66 l1 x24_1).f0) t417 _ A13.out).mono ?_); rintro e w' ⟨rfl, ⟨nd, rfl⟩⟩; (try first | exact ⟨rfl, _, World.drewN_drewN _ _ _⟩ | exact ⟨rfl, _, Eq.trans (World.drewN_drewN _ _ _) (congrArg (World.drewN _) (Nat.add_assoc _ _ _))⟩)) | (go_at_call 66; (with_reducible refine (bits_within.calls ((rd_T66 l1 x24_1).f1) 0 t417 true _ A14.out).mono ?_); rintro e w' ⟨rfl, ⟨nd, rfl⟩⟩; (try first | exact ⟨rfl, _, World.drewN_drewN _ _ _⟩ | exact ⟨rfl, _, Eq.trans (World.drewN_drewN _ _ _) (congrArg (World.drewN _) (Nat.add_assoc _ _ _))⟩))))
                    (try simp only [Act.put, List.setIfInBounds_toArray, List.set_cons_zero, List.set_cons_succ])
                    go_cut [12] (fun v12 wc => ∃ (kq : Nat) (x12_15 : Int), v12 = .int .i64 x12_15 ∧ Aside0 (bits_ReadFields.j1 kq a0 x8_1 x9_1 x24_1 x12_15 l1 (l1.length : Int) x24_1 ((rd_T66 l1 x24_1).f0) ((rd_T66 l1 x24_1).f1) ((rd_T66 l1 x24_1).f2) ((rd_T66 l1 x24_1).f3) = some (r1, r2, r3)) ∧ Aside0 (kq ≤ k1) ∧ Aside0 (Kd.R k66 66 wc w.heap.size (fun k_ => k_ ≠ gb415) u8 x8_1) ∧ Aside0 (wc.heap[gb415]? = some (.cells #[.int .i64 ((rd_T66 l1 x24_1).f0), .int .i64 ((rd_T66 l1 x24_1).f1), .int .i64 ((rd_T66 l1 x24_1).f2), .string ((rd_T66 l1 x24_1).f3)] 66 (0, 0))) ∧ Aside0 (Below w.heap.size w wc))
                    case first =>
                      have H := HC16.out
                      clear HC16
                      by_cases c19 : ((rd_T66 l1 x24_1).f0) = 2
                      · rw [if_pos c19] at H
                        have c19b0 : (((rd_T66 l1 x24_1).f0) == 2) = true := beq_iff_eq.mpr c19
                        have c19b1 : (((rd_T66 l1 x24_1).f0) != 2) = false := bne_eq_false_iff_eq.mpr c19
                        clear c19
                        (first | rw [c19b0] | (simp only [i64_w, i32_w]; rw [c19b0]) | skip)
                        have H' := Aside0.mk H
                        clear H
                        have hcz20_0 : w17.cell? ⟨gb415, 0, none⟩ = some (.int .i64 0) := (blk_cell BK415.out 0).trans rfl
                        have hcz20_1 : w17.cell? ⟨gb415, 1, none⟩ = some (.int .i64 0) := (blk_cell BK415.out 1).trans rfl
                        have hcz20_2 : w17.cell? ⟨gb415, 2, none⟩ = some (.int .i64 0) := (blk_cell BK415.out 2).trans rfl
                        have hcz20_3 : w17.cell? ⟨gb415, 3, none⟩ = some (.string (⟨#[]⟩ : ByteArray)) := (blk_cell BK415.out 3).trans rfl
                        have hfz20_0 := blk_frozen BK415.out 0
                        have hfz20_1 := blk_frozen BK415.out 1
                        have hfz20_2 := blk_frozen BK415.out 2
                        have hfz20_3 := blk_frozen BK415.out 3
                        go_wp2
                        repeat (go_quiet (fail); try go_wp2)
                        go_meet
                        case rel => exact ⟨_, (wrap64 (8 * ((rd_T66 l1 x24_1).f1))), (by first | rfl | (simp; done) | (simp [*]; done)), H', ⟨by have := HK1.out; first | omega | exact Nat.le_refl _⟩, ⟨by (with_reducible repeat (first | apply Kd.R_alloc | apply Kd.R_drewN | apply Kd.R_drew)); exact Kd.R_mono (Kd.R_far (p := ⟨gb415, 3, none⟩) (Kd.R_far (p := ⟨gb415, 2, none⟩) (Kd.R_far (p := ⟨gb415, 1, none⟩) (Kd.R_far (p := ⟨gb415, 0, none⟩) (Kd.R_mono HO_8.out (fun k_ hk => (⟨hk, hk.2⟩ : _ ∧ k_ ≠ gb415))) (fun _ hk => hk.2) (.int .i64 ((rd_T66 l1 x24_1).f0))) (fun _ hk => hk.2) (.int .i64 ((rd_T66 l1 x24_1).f1))) (fun _ hk => hk.2) (.int .i64 ((rd_T66 l1 x24_1).f2))) (fun _ hk => hk.2) (.string ((rd_T66 l1 x24_1).f3))) (fun _ hk => hk.1.2)⟩, ⟨by (with_reducible repeat (first | refine blk_drewN ?_ _ | refine blk_drew ?_ | refine blk_alloc ?_ _)); refine blk_put (cs := #[.int .i64 ((rd_T66 l1 x24_1).f0), .int .i64 ((rd_T66 l1 x24_1).f1), .int .i64 ((rd_T66 l1 x24_1).f2), .string (⟨#[]⟩ : ByteArray)]) ?_ 3 _ rfl; (with_reducible repeat (first | refine blk_drewN ?_ _ | refine blk_drew ?_ | refine blk_alloc ?_ _)); refine blk_put (cs := #[.int .i64 ((rd_T66 l1 x24_1).f0), .int .i64 ((rd_T66 l1 x24_1).f1), .int .i64 0, .string (⟨#[]⟩ : ByteArray)]) ?_ 2 _ rfl; (with_reducible repeat (first | refine blk_drewN ?_ _ | refine blk_drew ?_ | refine blk_alloc ?_ _)); refine blk_put (cs := #[.int .i64 ((rd_T66 l1 x24_1).f0), .int .i64 0, .int .i64 0, .string (⟨#[]⟩ : ByteArray)]) ?_ 1 _ rfl; (with_reducible repeat (first | refine blk_drewN ?_ _ | refine blk_drew ?_ | refine blk_alloc ?_ _)); refine blk_put (cs := #[.int .i64 0, .int .i64 0, .int .i64 0, .string (⟨#[]⟩ : ByteArray)]) ?_ 0 _ rfl; (with_reducible repeat (first | refine blk_drewN ?_ _ | refine blk_drew ?_ | refine blk_alloc ?_ _)); exact BK415.out⟩, ⟨by repeat (first | (with_reducible first | exact HB.out | apply below_alloc | apply pw_below_drewN | apply below_drew1 | refine below_set ?_ GE415.out) | exact HB.out)⟩⟩
                      · rw [if_neg c19] at H
                        have c19b0 : (((rd_T66 l1 x24_1).f0) == 2) = false := beq_eq_false_iff_ne.mpr c19
                        have c19b1 : (((rd_T66 l1 x24_1).f0) != 2) = true := bne_iff_ne.mpr c19
                        (first | rw [c19b0] | (simp only [i64_w, i32_w]; rw [c19b0]) | skip)
                        by_cases c21 : ((rd_T66 l1 x24_1).f0) = 3
                        · rw [if_pos c21] at H
                          have c21b0 : (((rd_T66 l1 x24_1).f0) == 3) = true := beq_iff_eq.mpr c21
                          have c21b1 : (((rd_T66 l1 x24_1).f0) != 3) = false := bne_eq_false_iff_eq.mpr c21
                          clear c21
                          have H' := Aside0.mk H
                          clear H
                          go_wp2
                          repeat (go_quiet (fail); try go_wp2)
                          go_meet
                          case rel => exact ⟨_, (Go.bits .and .i64 (wrap64 (-x9_1)) 7), (by first | rfl | (simp; done) | (simp [*]; done)), H', ⟨by have := HK1.out; first | omega | exact Nat.le_refl _⟩, ⟨by (with_reducible repeat (first | apply Kd.R_alloc | apply Kd.R_drewN | apply Kd.R_drew)); exact Kd.R_mono (Kd.R_far (p := ⟨gb415, 3, none⟩) (Kd.R_far (p := ⟨gb415, 2, none⟩) (Kd.R_far (p := ⟨gb415, 1, none⟩) (Kd.R_far (p := ⟨gb415, 0, none⟩) (Kd.R_mono HO_8.out (fun k_ hk => (⟨hk, hk.2⟩ : _ ∧ k_ ≠ gb415))) (fun _ hk => hk.2) (.int .i64 ((rd_T66 l1 x24_1).f0))) (fun _ hk => hk.2) (.int .i64 ((rd_T66 l1 x24_1).f1))) (fun _ hk => hk.2) (.int .i64 ((rd_T66 l1 x24_1).f2))) (fun _ hk => hk.2) (.string ((rd_T66 l1 x24_1).f3))) (fun _ hk => hk.1.2)⟩, ⟨by (with_reducible repeat (first | refine blk_drewN ?_ _ | refine blk_drew ?_ | refine blk_alloc ?_ _)); refine blk_put (cs := #[.int .i64 ((rd_T66 l1 x24_1).f0), .int .i64 ((rd_T66 l1 x24_1).f1), .int .i64 ((rd_T66 l1 x24_1).f2), .string (⟨#[]⟩ : ByteArray)]) ?_ 3 _ rfl; (with_reducible repeat (first | refine blk_drewN ?_ _ | refine blk_drew ?_ | refine blk_alloc ?_ _)); refine blk_put (cs := #[.int .i64 ((rd_T66 l1 x24_1).f0), .int .i64 ((rd_T66 l1 x24_1).f1), .int .i64 0, .string (⟨#[]⟩ : ByteArray)]) ?_ 2 _ rfl; (with_reducible repeat (first | refine blk_drewN ?_ _ | refine blk_drew ?_ | refine blk_alloc ?_ _)); refine blk_put (cs := #[.int .i64 ((rd_T66 l1 x24_1).f0), .int .i64 0, .int .i64 0, .string (⟨#[]⟩ : ByteArray)]) ?_ 1 _ rfl; (with_reducible repeat (first | refine blk_drewN ?_ _ | refine blk_drew ?_ | refine blk_alloc ?_ _)); refine blk_put (cs := #[.int .i64 0, .int .i64 0, .int .i64 0, .string (⟨#[]⟩ : ByteArray)]) ?_ 0 _ rfl; (with_reducible repeat (first | refine blk_drewN ?_ _ | refine blk_drew ?_ | refine blk_alloc ?_ _)); exact BK415.out⟩, ⟨by repeat (first | (with_reducible first | exact HB.out | apply below_alloc | apply pw_below_drewN | apply below_drew1 | refine below_set ?_ GE415.out) | exact HB.out)⟩⟩
                        · rw [if_neg c21] at H
                          have c21b0 : (((rd_T66 l1 x24_1).f0) == 3) = false := beq_eq_false_iff_ne.mpr c21
                          have c21b1 : (((rd_T66 l1 x24_1).f0) != 3) = true := bne_iff_ne.mpr c21
                          have H' := Aside0.mk H
                          clear H
                          go_wp2
                          repeat (go_quiet (fail); try go_wp2)
                          go_meet
                          case rel => exact ⟨_, ((rd_T66 l1 x24_1).f1), (by first | rfl | (simp; done) | (simp [*]; done)), H', ⟨by have := HK1.out; first | omega | exact Nat.le_refl _⟩, ⟨by (with_reducible repeat (first | apply Kd.R_alloc | apply Kd.R_drewN | apply Kd.R_drew)); exact Kd.R_mono (Kd.R_far (p := ⟨gb415, 3, none⟩) (Kd.R_far (p := ⟨gb415, 2, none⟩) (Kd.R_far (p := ⟨gb415, 1, none⟩) (Kd.R_far (p := ⟨gb415, 0, none⟩) (Kd.R_mono HO_8.out (fun k_ hk => (⟨hk, hk.2⟩ : _ ∧ k_ ≠ gb415))) (fun _ hk => hk.2) (.int .i64 ((rd_T66 l1 x24_1).f0))) (fun _ hk => hk.2) (.int .i64 ((rd_T66 l1 x24_1).f1))) (fun _ hk => hk.2) (.int .i64 ((rd_T66 l1 x24_1).f2))) (fun _ hk => hk.2) (.string ((rd_T66 l1 x24_1).f3))) (fun _ hk => hk.1.2)⟩, ⟨by (with_reducible repeat (first | refine blk_drewN ?_ _ | refine blk_drew ?_ | refine blk_alloc ?_ _)); refine blk_put (cs := #[.int .i64 ((rd_T66 l1 x24_1).f0), .int .i64 ((rd_T66 l1 x24_1).f1), .int .i64 ((rd_T66 l1 x24_1).f2), .string (⟨#[]⟩ : ByteArray)]) ?_ 3 _ rfl; (with_reducible repeat (first | refine blk_drewN ?_ _ | refine blk_drew ?_ | refine blk_alloc ?_ _)); refine blk_put (cs := #[.int .i64 ((rd_T66 l1 x24_1).f0), .int .i64 ((rd_T66 l1 x24_1).f1), .int .i64 0, .string (⟨#[]⟩ : ByteArray)]) ?_ 2 _ rfl; (with_reducible repeat (first | refine blk_drewN ?_ _ | refine blk_drew ?_ | refine blk_alloc ?_ _)); refine blk_put (cs := #[.int .i64 ((rd_T66 l1 x24_1).f0), .int .i64 0, .int .i64 0, .string (⟨#[]⟩ : ByteArray)]) ?_ 1 _ rfl; (with_reducible repeat (first | refine blk_drewN ?_ _ | refine blk_drew ?_ | refine blk_alloc ?_ _)); refine blk_put (cs := #[.int .i64 0, .int .i64 0, .int .i64 0, .string (⟨#[]⟩ : ByteArray)]) ?_ 0 _ rfl; (with_reducible repeat (first | refine blk_drewN ?_ _ | refine blk_drew ?_ | refine blk_alloc ?_ _)); exact BK415.out⟩, ⟨by repeat (first | (with_reducible first | exact HB.out | apply below_alloc | apply pw_below_drewN | apply below_drew1 | refine below_set ?_ GE415.out) | exact HB.out)⟩⟩
                    case rest =>
                      clear HC16
                      try clear c1
                      try clear c2
                      try clear p2
                      try clear c4
                      try clear c4b0
                      try clear c4b1
                      try clear p4
                      try clear q4
                      try clear hx4
                      try clear c5
                      try clear c5b0
                      try clear c5b1
                      try clear p6
                      try clear c8
                      try clear c8b0
                      try clear c9
                      try clear c9b0
                      try clear c10
                      try clear c10b0
                      try clear c12
                      try clear c15
                      try clear c19
                      try clear c19b0
                      try clear c19b1
                      try clear c21
                      try clear c21b0
                      try clear c21b1
                      try clear hcz18_0
                      try clear hcz18_1
                      try clear hcz18_2
                      try clear hcz18_3
                      try clear hcz20_0
                      try clear hcz20_1
                      try clear hcz20_2
                      try clear hcz20_3
                      try clear hfz18_0
                      try clear hfz18_1
                      try clear hfz18_2
                      try clear hfz18_3
                      try clear hfz20_0
                      try clear hfz20_1
                      try clear hfz20_2
                      try clear hfz20_3
                      try clear hx414_0
                      try clear hx414_1
                      try clear hx414_2
                      try clear hx414_3
                      try clear p2
                      try clear p414
                      try clear q414
                      obtain ⟨kq, x12_15, rfl, HA, HJ15, HO_8, BK415, HB⟩ := hcut
                      cases kq with
                      | zero => exact absurd HA.out (by simp [bits_ReadFields.j1])
                      | succ kj15 =>
                        have H := HA.out
                        clear HA
                        simp only [bits_ReadFields.j1] at H
                        by_cases c22 : x12_15 > (wrap64 ((a0.size : Int) - x9_1))
                        · rw [if_pos c22] at H
                          have c22b0 : decide ((wrap64 ((a0.size : Int) - x9_1)) < x12_15) = true := decide_eq_true c22
                          clear c22
                          simp only [Option.some.injEq, Prod.mk.injEq] at H
                          obtain ⟨rfl, rfl, rfl⟩ := H
                          go_wp2
                          repeat (go_quiet (fail); try go_wp2)
                          go_ret3
                          exact ⟨_, by first | rfl | (simp [errW_none, errW_some] <;> rfl) | (simp [*, errW_none, errW_some] <;> rfl), by first | exact Kd.R_nil _ _ _ _ _ | exact Kd.N_nil _ _ _ _ _ | exact Kd.V_nil _ _ _ _ _ | exact Kd.Q_nil _ _ _ _ _ | exact Kd.S_nil _ _ _ _ _, by repeat (first | (with_reducible first | exact HB.out | apply below_alloc | apply pw_below_drewN | apply below_drew1 | refine below_set ?_ GE415.out) | exact HB.out)⟩
                        · rw [if_neg c22] at H
                          have c22b0 : decide ((wrap64 ((a0.size : Int) - x9_1)) < x12_15) = false := decide_eq_false c22
                          clear c22
                          by_cases c23 : 0 ≤ x9_1
                          · rw [if_pos c23] at H
                            have c23b0 := eq_true c23
                            have c23b1 : decide (0 ≤ x9_1) = true := decide_eq_true c23
                            clear c23
                            by_cases c24 : x9_1 ≤ (wrap64 (x9_1 + x12_15))
                            · rw [if_pos c24] at H
                              have c24b0 := eq_true c24
                              have c24b1 : decide (x9_1 ≤ (wrap64 (x9_1 + x12_15))) = true := decide_eq_true c24
                              by_cases c25 : (wrap64 (x9_1 + x12_15)) ≤ (a0.size : Int)
                              · rw [if_pos c25] at H
                                have c25b0 := eq_true c25
                                have c25b1 : decide ((wrap64 (x9_1 + x12_15)) ≤ (a0.size : Int)) = true := decide_eq_true c25
                                by_cases c26 : ((rd_T66 l1 x24_1).f0) = 0
                                · rw [if_pos c26] at H
                                  have c26b0 : (((rd_T66 l1 x24_1).f0) == 0) = true := beq_iff_eq.mpr c26
                                  have c26b1 : (((rd_T66 l1 x24_1).f0) != 0) = false := bne_eq_false_iff_eq.mpr c26
                                  clear c26
                                  replace H := Option.bind_eq_some_iff.mp H
                                  obtain ⟨t419, A270, H⟩ := H
                                  (try dsimp only at H)
                                  have A27 := Aside0.mk A270
                                  clear A270
                                  by_cases c28 : t419 > 1152921504606846976
                                  · rw [if_pos c28] at H
                                    have c28b0 : decide (1152921504606846976 < t419) = true := decide_eq_true c28
                                    clear c28
                                    simp only [Option.some.injEq, Prod.mk.injEq] at H
                                    obtain ⟨rfl, rfl, rfl⟩ := H
                                    have hcz29_0 : wc.cell? ⟨gb415, 0, none⟩ = some (.int .i64 ((rd_T66 l1 x24_1).f0)) := (blk_cell BK415.out 0).trans rfl
                                    have hcz29_1 : wc.cell? ⟨gb415, 1, none⟩ = some (.int .i64 ((rd_T66 l1 x24_1).f1)) := (blk_cell BK415.out 1).trans rfl
                                    have hcz29_2 : wc.cell? ⟨gb415, 2, none⟩ = some (.int .i64 ((rd_T66 l1 x24_1).f2)) := (blk_cell BK415.out 2).trans rfl
                                    have hcz29_3 : wc.cell? ⟨gb415, 3, none⟩ = some (.string ((rd_T66 l1 x24_1).f3)) := (blk_cell BK415.out 3).trans rfl
                                    have hfz29_0 := blk_frozen BK415.out 0
                                    have hfz29_1 := blk_frozen BK415.out 1
                                    have hfz29_2 := blk_frozen BK415.out 2
                                    have hfz29_3 := blk_frozen BK415.out 3
                                    go_wp2_with (first | (go_at_call 67; (with_reducible refine (bits_number.calls kj15 (a0.extract (x9_1 : Int).toNat ((wrap64 (x9_1 + x12_15)) : Int).toNat) t419 _ A27.out).mono ?_); rintro e w' ⟨rfl, ⟨nd, rfl⟩⟩; (try first | exact ⟨rfl, _, World.drewN_drewN _ _ _⟩ | exact ⟨rfl, _, Eq.trans (World.drewN_drewN _ _ _) (congrArg (World.drewN _) (Nat.add_assoc _ _ _))⟩)))
                                    go_ret3
                                    exact ⟨_, by first | rfl | (simp [errW_none, errW_some] <;> rfl) | (simp [*, errW_none, errW_some] <;> rfl), by first | exact Kd.R_nil _ _ _ _ _ | exact Kd.N_nil _ _ _ _ _ | exact Kd.V_nil _ _ _ _ _ | exact Kd.Q_nil _ _ _ _ _ | exact Kd.S_nil _ _ _ _ _, by repeat (first | (with_reducible first | exact HB.out | apply below_alloc | apply pw_below_drewN | apply below_drew1 | refine below_set ?_ GE415.out) | exact HB.out)⟩
                                  · rw [if_neg c28] at H
                                    have c28b0 : decide (1152921504606846976 < t419) = false := decide_eq_false c28
                                    clear c28
                                    by_cases c30 : x8_1.length < 3518437208883
                                    · rw [if_pos c30] at H
                                      have LMc30 := Aside0.mk c30
                                      clear c30
                                      obtain ⟨y420, hy420⟩ : ∃ y_ : List (S66), y_ = (x8_1 ++ [(⟨((rd_T66 l1 x24_1).f0), ((rd_T66 l1 x24_1).f1), t419, (⟨#[]⟩ : ByteArray)⟩ : S66)]) := ⟨_, rfl⟩
                                      (try rw [Option.bind_some] at H); rw [← hy420] at H
                                      have Ny420 := Aside0.mk hy420
                                      clear hy420
                                      have H' := Aside0.mk H
                                      clear H
                                      have hcz31_0 : wc.cell? ⟨gb415, 0, none⟩ = some (.int .i64 ((rd_T66 l1 x24_1).f0)) := (blk_cell BK415.out 0).trans rfl
                                      have hcz31_1 : wc.cell? ⟨gb415, 1, none⟩ = some (.int .i64 ((rd_T66 l1 x24_1).f1)) := (blk_cell BK415.out 1).trans rfl
                                      have hcz31_2 : wc.cell? ⟨gb415, 2, none⟩ = some (.int .i64 ((rd_T66 l1 x24_1).f2)) := (blk_cell BK415.out 2).trans rfl
                                      have hcz31_3 : wc.cell? ⟨gb415, 3, none⟩ = some (.string ((rd_T66 l1 x24_1).f3)) := (blk_cell BK415.out 3).trans rfl
                                      have hfz31_0 := blk_frozen BK415.out 0
                                      have hfz31_1 := blk_frozen BK415.out 1
                                      have hfz31_2 := blk_frozen BK415.out 2
                                      have hfz31_3 := blk_frozen BK415.out 3
                                      go_wp2_with (first | (go_at_call 67; (with_reducible refine (bits_number.calls kj15 (a0.extract (x9_1 : Int).toNat ((wrap64 (x9_1 + x12_15)) : Int).toNat) t419 _ A27.out).mono ?_); rintro e w' ⟨rfl, ⟨nd, rfl⟩⟩; (try first | exact ⟨rfl, _, World.drewN_drewN _ _ _⟩ | exact ⟨rfl, _, Eq.trans (World.drewN_drewN _ _ _) (congrArg (World.drewN _) (Nat.add_assoc _ _ _))⟩)) | ((with_reducible refine gate_builtin (b := .append) (xs := #[.tmp 101, .tmp 103]) rfl ?_); at_builtin; refine Kd.R_append k66 (w0 := w) w.heap.size rfl (.tmp 101) (.tmp 103) 22 66 (.agg #[(.int .i64 0), (.int .i64 0), (.int .i64 0), (.string ⟨#[]⟩)]) 40 rfl Tryd.underlying22 info66 rfl (by decide) (by omega) u8 x8_1 (⟨((rd_T66 l1 x24_1).f0), ((rd_T66 l1 x24_1).f1), t419, (⟨#[]⟩ : ByteArray)⟩ : S66) [.int .i64 ((rd_T66 l1 x24_1).f0), .int .i64 ((rd_T66 l1 x24_1).f1), .int .i64 t419, .string (⟨#[]⟩ : ByteArray)] (fun k_ => k_ ≠ gb415) (fun _ => False) rfl (by first | (go_simp; done) | (go_simp; rfl)) ?aP (fun _ hk => hk.elim) ?aF ?aO ?aB ?aS ?aL ?_; (case aP => exact k66_mkM _ _ _ (⟨((rd_T66 l1 x24_1).f0), ((rd_T66 l1 x24_1).f1), t419, (⟨#[]⟩ : ByteArray)⟩ : S66)); (case aB => exact (by repeat (first | (with_reducible first | exact HB.out | apply below_alloc | apply pw_below_drewN | apply below_drew1 | refine below_set ?_ GE415.out) | exact HB.out))); (case aF => exact (fun k_ hk => Kd.freshB (g := gb415) (o := .cells #[.int .i64 ((rd_T66 l1 x24_1).f0), .int .i64 ((rd_T66 l1 x24_1).f1), .int .i64 t419, .string (⟨#[]⟩ : ByteArray)] 66 (0, 0)) (by (with_reducible repeat (first | refine blk_drewN ?_ _ | refine blk_drew ?_ | refine blk_alloc ?_ _)); refine blk_put (cs := #[.int .i64 ((rd_T66 l1 x24_1).f0), .int .i64 ((rd_T66 l1 x24_1).f1), .int .i64 0, .string (⟨#[]⟩ : ByteArray)]) ?_ 2 _ rfl; (with_reducible repeat (first | refine blk_drewN ?_ _ | refine blk_drew ?_ | refine blk_alloc ?_ _)); refine blk_put (cs := #[.int .i64 ((rd_T66 l1 x24_1).f0), .int .i64 ((rd_T66 l1 x24_1).f1), .int .i64 0, .string ((rd_T66 l1 x24_1).f3)]) ?_ 3 _ rfl; (with_reducible repeat (first | refine blk_drewN ?_ _ | refine blk_drew ?_ | refine blk_alloc ?_ _)); refine blk_put (cs := #[.int .i64 ((rd_T66 l1 x24_1).f0), .int .i64 ((rd_T66 l1 x24_1).f1), .int .i64 ((rd_T66 l1 x24_1).f2), .string ((rd_T66 l1 x24_1).f3)]) ?_ 2 _ rfl; (with_reducible repeat (first | refine blk_drewN ?_ _ | refine blk_drew ?_ | refine blk_alloc ?_ _)); exact BK415.out) k_ hk)); (case aO => exact (by (with_reducible repeat (first | apply Kd.R_alloc | apply Kd.R_drewN | apply Kd.R_drew)); exact Kd.R_mono (Kd.R_far (p := ⟨gb415, 2, none⟩) (Kd.R_far (p := ⟨gb415, 3, none⟩) (Kd.R_far (p := ⟨gb415, 2, none⟩) (Kd.R_mono HO_8.out (fun k_ hk => (⟨hk, hk⟩ : _ ∧ k_ ≠ gb415))) (fun _ hk => hk.2) (.int .i64 0)) (fun _ hk => hk.2) (.string (⟨#[]⟩ : ByteArray))) (fun _ hk => hk.2) (.int .i64 t419)) (fun _ hk => hk.1))); (case aS => exact (below_size (by repeat (first | (with_reducible first | exact HB.out | apply below_alloc | apply pw_below_drewN | apply below_drew1 | refine below_set ?_ GE415.out) | exact HB.out)))); (case aL => have := LMc30.out; omega); intro v421 w32 ho hb hg hat; rw [← Ny420.out] at ho; have n0_ := Aside0.mk (blk_grown (g := gb415) (o := .cells #[.int .i64 ((rd_T66 l1 x24_1).f0), .int .i64 ((rd_T66 l1 x24_1).f1), .int .i64 t419, .string (⟨#[]⟩ : ByteArray)] 66 (0, 0)) (by (with_reducible repeat (first | refine blk_drewN ?_ _ | refine blk_drew ?_ | refine blk_alloc ?_ _)); refine blk_put (cs := #[.int .i64 ((rd_T66 l1 x24_1).f0), .int .i64 ((rd_T66 l1 x24_1).f1), .int .i64 0, .string (⟨#[]⟩ : ByteArray)]) ?_ 2 _ rfl; (with_reducible repeat (first | refine blk_drewN ?_ _ | refine blk_drew ?_ | refine blk_alloc ?_ _)); refine blk_put (cs := #[.int .i64 ((rd_T66 l1 x24_1).f0), .int .i64 ((rd_T66 l1 x24_1).f1), .int .i64 0, .string ((rd_T66 l1 x24_1).f3)]) ?_ 3 _ rfl; (with_reducible repeat (first | refine blk_drewN ?_ _ | refine blk_drew ?_ | refine blk_alloc ?_ _)); refine blk_put (cs := #[.int .i64 ((rd_T66 l1 x24_1).f0), .int .i64 ((rd_T66 l1 x24_1).f1), .int .i64 ((rd_T66 l1 x24_1).f2), .string ((rd_T66 l1 x24_1).f3)]) ?_ 2 _ rfl; (with_reducible repeat (first | refine blk_drewN ?_ _ | refine blk_drew ?_ | refine blk_alloc ?_ _)); exact BK415.out) hg (Kd.R_away HO_8.out (fun _ hk => hk))); have n1_ := Aside0.mk (hb); have n2_ := Aside0.mk (ho); clear BK415; clear HB; clear HO_8; have BK415 := n0_; have HB := n1_; have HO422 := n2_; clear n0_ n1_ n2_; clear ho hb hg hat))
                                      go_roundg kj15
                                      case measure => have := HK1.out; have := HJ15.out; omega
                                      case rel => exact ⟨(y420), (wrap64 (x9_1 + x12_15)), (wrap64 (x24_1 + 1)), (by first | rfl | (simp; done) | (simp [*]; done)), (by first | rfl | (simp; done) | (simp [*]; done)), H', ⟨by have := HK1.out; have := HJ15.out; omega⟩, ⟨by (with_reducible repeat (first | apply Kd.R_alloc | apply Kd.R_drewN | apply Kd.R_drew)); exact Kd.R_mono HO422.out (fun _ hk => trivial)⟩, ⟨by repeat (first | (with_reducible first | exact HB.out | apply below_alloc | apply pw_below_drewN | apply below_drew1 | refine below_set ?_ GE415.out) | exact HB.out)⟩⟩
                                    · rw [if_neg c30] at H
                                      exact absurd H (by simp)
                                · rw [if_neg c26] at H
                                  have c26b0 : (((rd_T66 l1 x24_1).f0) == 0) = false := beq_eq_false_iff_ne.mpr c26
                                  have c26b1 : (((rd_T66 l1 x24_1).f0) != 0) = true := bne_iff_ne.mpr c26
                                  by_cases c33 : ((rd_T66 l1 x24_1).f0) = 1
                                  · rw [if_pos c33] at H
                                    have c33b0 : (((rd_T66 l1 x24_1).f0) == 1) = true := beq_iff_eq.mpr c33
                                    have c33b1 : (((rd_T66 l1 x24_1).f0) != 1) = false := bne_eq_false_iff_eq.mpr c33
                                    clear c33
                                    by_cases c34 : x8_1.length < 3518437208883
                                    · rw [if_pos c34] at H
                                      have LMc34 := Aside0.mk c34
                                      clear c34
                                      obtain ⟨y423, hy423⟩ : ∃ y_ : List (S66), y_ = (x8_1 ++ [(⟨((rd_T66 l1 x24_1).f0), ((rd_T66 l1 x24_1).f1), 0, a0.extract (x9_1 : Int).toNat ((wrap64 (x9_1 + x12_15)) : Int).toNat⟩ : S66)]) := ⟨_, rfl⟩
                                      (try rw [Option.bind_some] at H); rw [← hy423] at H
                                      have Ny423 := Aside0.mk hy423
                                      clear hy423
                                      have H' := Aside0.mk H
                                      clear H
                                      have hcz35_0 : wc.cell? ⟨gb415, 0, none⟩ = some (.int .i64 ((rd_T66 l1 x24_1).f0)) := (blk_cell BK415.out 0).trans rfl
                                      have hcz35_1 : wc.cell? ⟨gb415, 1, none⟩ = some (.int .i64 ((rd_T66 l1 x24_1).f1)) := (blk_cell BK415.out 1).trans rfl
                                      have hcz35_2 : wc.cell? ⟨gb415, 2, none⟩ = some (.int .i64 ((rd_T66 l1 x24_1).f2)) := (blk_cell BK415.out 2).trans rfl
                                      have hcz35_3 : wc.cell? ⟨gb415, 3, none⟩ = some (.string ((rd_T66 l1 x24_1).f3)) := (blk_cell BK415.out 3).trans rfl
                                      have hfz35_0 := blk_frozen BK415.out 0
                                      have hfz35_1 := blk_frozen BK415.out 1
                                      have hfz35_2 := blk_frozen BK415.out 2
                                      have hfz35_3 := blk_frozen BK415.out 3
                                      have hcz35_x : (((wc.setCell ⟨gb415, 2, none⟩ (.int .i64 0)).setCell ⟨gb415, 3, none⟩ (.string ⟨#[]⟩)).setCell ⟨gb415, 3, none⟩ (.string (a0.extract (x9_1 : Int).toNat ((wrap64 (x9_1 + x12_15)) : Int).toNat))).cell? ⟨gb415, 3, none⟩ = some (.string (a0.extract (x9_1 : Int).toNat ((wrap64 (x9_1 + x12_15)) : Int).toNat)) := (blk_cell (blk_put (blk_put (blk_put BK415.out 2 _ rfl) 3 _ rfl) 3 _ rfl) 3).trans rfl
                                      go_wp2_with (first | ((with_reducible refine gate_builtin (b := .append) (xs := #[.tmp 101, .tmp 103]) rfl ?_); at_builtin; refine Kd.R_append k66 (w0 := w) w.heap.size rfl (.tmp 101) (.tmp 103) 22 66 (.agg #[(.int .i64 0), (.int .i64 0), (.int .i64 0), (.string ⟨#[]⟩)]) 40 rfl Tryd.underlying22 info66 rfl (by decide) (by omega) u8 x8_1 (⟨((rd_T66 l1 x24_1).f0), ((rd_T66 l1 x24_1).f1), 0, a0.extract (x9_1 : Int).toNat ((wrap64 (x9_1 + x12_15)) : Int).toNat⟩ : S66) [.int .i64 ((rd_T66 l1 x24_1).f0), .int .i64 ((rd_T66 l1 x24_1).f1), .int .i64 0, .string (a0.extract (x9_1 : Int).toNat ((wrap64 (x9_1 + x12_15)) : Int).toNat)] (fun k_ => k_ ≠ gb415) (fun _ => False) rfl (by first | (go_simp; done) | (go_simp; rfl)) ?aP (fun _ hk => hk.elim) ?aF ?aO ?aB ?aS ?aL ?_; (case aP => exact k66_mkM _ _ _ (⟨((rd_T66 l1 x24_1).f0), ((rd_T66 l1 x24_1).f1), 0, a0.extract (x9_1 : Int).toNat ((wrap64 (x9_1 + x12_15)) : Int).toNat⟩ : S66)); (case aB => exact (by repeat (first | (with_reducible first | exact HB.out | apply below_alloc | apply pw_below_drewN | apply below_drew1 | refine below_set ?_ GE415.out) | exact HB.out))); (case aF => exact (fun k_ hk => Kd.freshB (g := gb415) (o := .cells #[.int .i64 ((rd_T66 l1 x24_1).f0), .int .i64 ((rd_T66 l1 x24_1).f1), .int .i64 0, .string (a0.extract (x9_1 : Int).toNat ((wrap64 (x9_1 + x12_15)) : Int).toNat)] 66 (0, 0)) (by (with_reducible repeat (first | refine blk_drewN ?_ _ | refine blk_drew ?_ | refine blk_alloc ?_ _)); refine blk_put (cs := #[.int .i64 ((rd_T66 l1 x24_1).f0), .int .i64 ((rd_T66 l1 x24_1).f1), .int .i64 0, .string (⟨#[]⟩ : ByteArray)]) ?_ 3 _ rfl; (with_reducible repeat (first | refine blk_drewN ?_ _ | refine blk_drew ?_ | refine blk_alloc ?_ _)); refine blk_put (cs := #[.int .i64 ((rd_T66 l1 x24_1).f0), .int .i64 ((rd_T66 l1 x24_1).f1), .int .i64 0, .string ((rd_T66 l1 x24_1).f3)]) ?_ 3 _ rfl; (with_reducible repeat (first | refine blk_drewN ?_ _ | refine blk_drew ?_ | refine blk_alloc ?_ _)); refine blk_put (cs := #[.int .i64 ((rd_T66 l1 x24_1).f0), .int .i64 ((rd_T66 l1 x24_1).f1), .int .i64 ((rd_T66 l1 x24_1).f2), .string ((rd_T66 l1 x24_1).f3)]) ?_ 2 _ rfl; (with_reducible repeat (first | refine blk_drewN ?_ _ | refine blk_drew ?_ | refine blk_alloc ?_ _)); exact BK415.out) k_ hk)); (case aO => exact (by (with_reducible repeat (first | apply Kd.R_alloc | apply Kd.R_drewN | apply Kd.R_drew)); exact Kd.R_mono (Kd.R_far (p := ⟨gb415, 3, none⟩) (Kd.R_far (p := ⟨gb415, 3, none⟩) (Kd.R_far (p := ⟨gb415, 2, none⟩) (Kd.R_mono HO_8.out (fun k_ hk => (⟨hk, hk⟩ : _ ∧ k_ ≠ gb415))) (fun _ hk => hk.2) (.int .i64 0)) (fun _ hk => hk.2) (.string (⟨#[]⟩ : ByteArray))) (fun _ hk => hk.2) (.string (a0.extract (x9_1 : Int).toNat ((wrap64 (x9_1 + x12_15)) : Int).toNat))) (fun _ hk => hk.1))); (case aS => exact (below_size (by repeat (first | (with_reducible first | exact HB.out | apply below_alloc | apply pw_below_drewN | apply below_drew1 | refine below_set ?_ GE415.out) | exact HB.out)))); (case aL => have := LMc34.out; omega); intro v424 w36 ho hb hg hat; rw [← Ny423.out] at ho; have n0_ := Aside0.mk (blk_grown (g := gb415) (o := .cells #[.int .i64 ((rd_T66 l1 x24_1).f0), .int .i64 ((rd_T66 l1 x24_1).f1), .int .i64 0, .string (a0.extract (x9_1 : Int).toNat ((wrap64 (x9_1 + x12_15)) : Int).toNat)] 66 (0, 0)) (by (with_reducible repeat (first | refine blk_drewN ?_ _ | refine blk_drew ?_ | refine blk_alloc ?_ _)); refine blk_put (cs := #[.int .i64 ((rd_T66 l1 x24_1).f0), .int .i64 ((rd_T66 l1 x24_1).f1), .int .i64 0, .string (⟨#[]⟩ : ByteArray)]) ?_ 3 _ rfl; (with_reducible repeat (first | refine blk_drewN ?_ _ | refine blk_drew ?_ | refine blk_alloc ?_ _)); refine blk_put (cs := #[.int .i64 ((rd_T66 l1 x24_1).f0), .int .i64 ((rd_T66 l1 x24_1).f1), .int .i64 0, .string ((rd_T66 l1 x24_1).f3)]) ?_ 3 _ rfl; (with_reducible repeat (first | refine blk_drewN ?_ _ | refine blk_drew ?_ | refine blk_alloc ?_ _)); refine blk_put (cs := #[.int .i64 ((rd_T66 l1 x24_1).f0), .int .i64 ((rd_T66 l1 x24_1).f1), .int .i64 ((rd_T66 l1 x24_1).f2), .string ((rd_T66 l1 x24_1).f3)]) ?_ 2 _ rfl; (with_reducible repeat (first | refine blk_drewN ?_ _ | refine blk_drew ?_ | refine blk_alloc ?_ _)); exact BK415.out) hg (Kd.R_away HO_8.out (fun _ hk => hk))); have n1_ := Aside0.mk (hb); have n2_ := Aside0.mk (ho); clear BK415; clear HB; clear HO_8; have BK415 := n0_; have HB := n1_; have HO425 := n2_; clear n0_ n1_ n2_; clear ho hb hg hat))
                                      go_roundg kj15
                                      case measure => have := HK1.out; have := HJ15.out; omega
                                      case rel => exact ⟨(y423), (wrap64 (x9_1 + x12_15)), (wrap64 (x24_1 + 1)), (by first | rfl | (simp; done) | (simp [*]; done)), (by first | rfl | (simp; done) | (simp [*]; done)), H', ⟨by have := HK1.out; have := HJ15.out; omega⟩, ⟨by (with_reducible repeat (first | apply Kd.R_alloc | apply Kd.R_drewN | apply Kd.R_drew)); exact Kd.R_mono HO425.out (fun _ hk => trivial)⟩, ⟨by repeat (first | (with_reducible first | exact HB.out | apply below_alloc | apply pw_below_drewN | apply below_drew1 | refine below_set ?_ GE415.out) | exact HB.out)⟩⟩
                                    · rw [if_neg c34] at H
                                      exact absurd H (by simp)
                                  · rw [if_neg c33] at H
                                    have c33b0 : (((rd_T66 l1 x24_1).f0) == 1) = false := beq_eq_false_iff_ne.mpr c33
                                    have c33b1 : (((rd_T66 l1 x24_1).f0) != 1) = true := bne_iff_ne.mpr c33
                                    by_cases c37 : ((rd_T66 l1 x24_1).f0) = 2
                                    · rw [if_pos c37] at H
                                      have c37b0 : (((rd_T66 l1 x24_1).f0) == 2) = true := beq_iff_eq.mpr c37
                                      have c37b1 : (((rd_T66 l1 x24_1).f0) != 2) = false := bne_eq_false_iff_eq.mpr c37
                                      clear c37
                                      replace H := Option.bind_eq_some_iff.mp H
                                      obtain ⟨t426, A380, H⟩ := H
                                      (try dsimp only at H)
                                      have A38 := Aside0.mk A380
                                      clear A380
                                      by_cases c39 : x8_1.length < 3518437208883
                                      · rw [if_pos c39] at H
                                        have LMc39 := Aside0.mk c39
                                        clear c39
                                        obtain ⟨y427, hy427⟩ : ∃ y_ : List (S66), y_ = (x8_1 ++ [(⟨((rd_T66 l1 x24_1).f0), ((rd_T66 l1 x24_1).f1), 0, t426⟩ : S66)]) := ⟨_, rfl⟩
                                        (try rw [Option.bind_some] at H); rw [← hy427] at H
                                        have Ny427 := Aside0.mk hy427
                                        clear hy427
                                        have H' := Aside0.mk H
                                        clear H
                                        have hcz40_0 : wc.cell? ⟨gb415, 0, none⟩ = some (.int .i64 ((rd_T66 l1 x24_1).f0)) := (blk_cell BK415.out 0).trans rfl
                                        have hcz40_1 : wc.cell? ⟨gb415, 1, none⟩ = some (.int .i64 ((rd_T66 l1 x24_1).f1)) := (blk_cell BK415.out 1).trans rfl
                                        have hcz40_2 : wc.cell? ⟨gb415, 2, none⟩ = some (.int .i64 ((rd_T66 l1 x24_1).f2)) := (blk_cell BK415.out 2).trans rfl
                                        have hcz40_3 : wc.cell? ⟨gb415, 3, none⟩ = some (.string ((rd_T66 l1 x24_1).f3)) := (blk_cell BK415.out 3).trans rfl
                                        have hfz40_0 := blk_frozen BK415.out 0
                                        have hfz40_1 := blk_frozen BK415.out 1
                                        have hfz40_2 := blk_frozen BK415.out 2
                                        have hfz40_3 := blk_frozen BK415.out 3
                                        go_wp2_with (first | (go_at_call 62; (with_reducible refine (bits_pack.calls kj15 (a0.extract (x9_1 : Int).toNat ((wrap64 (x9_1 + x12_15)) : Int).toNat) t426 _ A38.out).mono ?_); rintro e w41 ⟨rfl, hb⟩; have n0_ := Aside0.mk (Kd.R_below (by (with_reducible repeat (first | apply Kd.R_alloc | apply Kd.R_drewN | apply Kd.R_drew)); exact (Kd.R_mono (Kd.R_far (p := ⟨gb415, 3, none⟩) (Kd.R_far (p := ⟨gb415, 2, none⟩) (Kd.R_mono HO_8.out (fun k_ hk => (⟨hk, hk⟩ : _ ∧ k_ ≠ gb415))) (fun _ hk => hk.2) (.int .i64 0)) (fun _ hk => hk.2) (.string (⟨#[]⟩ : ByteArray))) (fun _ h_ => h_.1))) hb); have n1_ := Aside0.mk (blk_below (g := gb415) (o := .cells #[.int .i64 ((rd_T66 l1 x24_1).f0), .int .i64 ((rd_T66 l1 x24_1).f1), .int .i64 0, .string (⟨#[]⟩ : ByteArray)] 66 (0, 0)) (by (with_reducible repeat (first | refine blk_drewN ?_ _ | refine blk_drew ?_ | refine blk_alloc ?_ _)); refine blk_put (cs := #[.int .i64 ((rd_T66 l1 x24_1).f0), .int .i64 ((rd_T66 l1 x24_1).f1), .int .i64 0, .string ((rd_T66 l1 x24_1).f3)]) ?_ 3 _ rfl; (with_reducible repeat (first | refine blk_drewN ?_ _ | refine blk_drew ?_ | refine blk_alloc ?_ _)); refine blk_put (cs := #[.int .i64 ((rd_T66 l1 x24_1).f0), .int .i64 ((rd_T66 l1 x24_1).f1), .int .i64 ((rd_T66 l1 x24_1).f2), .string ((rd_T66 l1 x24_1).f3)]) ?_ 2 _ rfl; (with_reducible repeat (first | refine blk_drewN ?_ _ | refine blk_drew ?_ | refine blk_alloc ?_ _)); exact BK415.out) hb); have n2_ := Aside0.mk (below_step (by repeat (first | (with_reducible first | exact HB.out | apply below_alloc | apply pw_below_drewN | apply below_drew1 | refine below_set ?_ GE415.out) | exact HB.out)) hb); clear HO_8; clear BK415; clear HB; have HO_8 := n0_; have BK415 := n1_; have HB := n2_; clear n0_ n1_ n2_; (try clear hb); (try clear hb2); (try clear hk); (try clear hi); have hcz42_0 : w41.cell? ⟨gb415, 0, none⟩ = some (.int .i64 ((rd_T66 l1 x24_1).f0)) := (blk_cell BK415.out 0).trans rfl; have hcz42_1 : w41.cell? ⟨gb415, 1, none⟩ = some (.int .i64 ((rd_T66 l1 x24_1).f1)) := (blk_cell BK415.out 1).trans rfl; have hcz42_2 : w41.cell? ⟨gb415, 2, none⟩ = some (.int .i64 0) := (blk_cell BK415.out 2).trans rfl; have hcz42_3 : w41.cell? ⟨gb415, 3, none⟩ = some (.string (⟨#[]⟩ : ByteArray)) := (blk_cell BK415.out 3).trans rfl; have hfz42_0 := blk_frozen BK415.out 0; have hfz42_1 := blk_frozen BK415.out 1; have hfz42_2 := blk_frozen BK415.out 2; have hfz42_3 := blk_frozen BK415.out 3) | ((with_reducible refine gate_builtin (b := .append) (xs := #[.tmp 101, .tmp 103]) rfl ?_); at_builtin; refine Kd.R_append k66 (w0 := w) w.heap.size rfl (.tmp 101) (.tmp 103) 22 66 (.agg #[(.int .i64 0), (.int .i64 0), (.int .i64 0), (.string ⟨#[]⟩)]) 40 rfl Tryd.underlying22 info66 rfl (by decide) (by omega) u8 x8_1 (⟨((rd_T66 l1 x24_1).f0), ((rd_T66 l1 x24_1).f1), 0, t426⟩ : S66) [.int .i64 ((rd_T66 l1 x24_1).f0), .int .i64 ((rd_T66 l1 x24_1).f1), .int .i64 0, .string t426] (fun k_ => k_ ≠ gb415) (fun _ => False) rfl (by first | (go_simp; done) | (go_simp; rfl)) ?aP (fun _ hk => hk.elim) ?aF ?aO ?aB ?aS ?aL ?_; (case aP => exact k66_mkM _ _ _ (⟨((rd_T66 l1 x24_1).f0), ((rd_T66 l1 x24_1).f1), 0, t426⟩ : S66)); (case aB => exact (by repeat (first | (with_reducible first | exact HB.out | apply below_alloc | apply pw_below_drewN | apply below_drew1 | refine below_set ?_ GE415.out) | exact HB.out))); (case aF => exact (fun k_ hk => Kd.freshB (g := gb415) (o := .cells #[.int .i64 ((rd_T66 l1 x24_1).f0), .int .i64 ((rd_T66 l1 x24_1).f1), .int .i64 0, .string t426] 66 (0, 0)) (by (with_reducible repeat (first | refine blk_drewN ?_ _ | refine blk_drew ?_ | refine blk_alloc ?_ _)); refine blk_put (cs := #[.int .i64 ((rd_T66 l1 x24_1).f0), .int .i64 ((rd_T66 l1 x24_1).f1), .int .i64 0, .string (⟨#[]⟩ : ByteArray)]) ?_ 3 _ rfl; (with_reducible repeat (first | refine blk_drewN ?_ _ | refine blk_drew ?_ | refine blk_alloc ?_ _)); exact BK415.out) k_ hk)); (case aO => exact (by (with_reducible repeat (first | apply Kd.R_alloc | apply Kd.R_drewN | apply Kd.R_drew)); exact Kd.R_mono (Kd.R_far (p := ⟨gb415, 3, none⟩) (Kd.R_mono HO_8.out (fun k_ hk => (⟨hk, hk⟩ : _ ∧ k_ ≠ gb415))) (fun _ hk => hk.2) (.string t426)) (fun _ hk => hk.1))); (case aS => exact (below_size (by repeat (first | (with_reducible first | exact HB.out | apply below_alloc | apply pw_below_drewN | apply below_drew1 | refine below_set ?_ GE415.out) | exact HB.out)))); (case aL => have := LMc39.out; omega); intro v428 w43 ho hb hg hat; rw [← Ny427.out] at ho; have n0_ := Aside0.mk (blk_grown (g := gb415) (o := .cells #[.int .i64 ((rd_T66 l1 x24_1).f0), .int .i64 ((rd_T66 l1 x24_1).f1), .int .i64 0, .string t426] 66 (0, 0)) (by (with_reducible repeat (first | refine blk_drewN ?_ _ | refine blk_drew ?_ | refine blk_alloc ?_ _)); refine blk_put (cs := #[.int .i64 ((rd_T66 l1 x24_1).f0), .int .i64 ((rd_T66 l1 x24_1).f1), .int .i64 0, .string (⟨#[]⟩ : ByteArray)]) ?_ 3 _ rfl; (with_reducible repeat (first | refine blk_drewN ?_ _ | refine blk_drew ?_ | refine blk_alloc ?_ _)); exact BK415.out) hg (Kd.R_away HO_8.out (fun _ hk => hk))); have n1_ := Aside0.mk (hb); have n2_ := Aside0.mk (ho); clear BK415; clear HB; clear HO_8; have BK415 := n0_; have HB := n1_; have HO429 := n2_; clear n0_ n1_ n2_; clear ho hb hg hat))
                                        go_roundg kj15
                                        case measure => have := HK1.out; have := HJ15.out; omega
                                        case rel => exact ⟨(y427), (wrap64 (x9_1 + x12_15)), (wrap64 (x24_1 + 1)), (by first | rfl | (simp; done) | (simp [*]; done)), (by first | rfl | (simp; done) | (simp [*]; done)), H', ⟨by have := HK1.out; have := HJ15.out; omega⟩, ⟨by (with_reducible repeat (first | apply Kd.R_alloc | apply Kd.R_drewN | apply Kd.R_drew)); exact Kd.R_mono HO429.out (fun _ hk => trivial)⟩, ⟨by repeat (first | (with_reducible first | exact HB.out | apply below_alloc | apply pw_below_drewN | apply below_drew1 | refine below_set ?_ GE415.out) | exact HB.out)⟩⟩
                                      · rw [if_neg c39] at H
                                        exact absurd H (by simp)
                                    · rw [if_neg c37] at H
                                      have c37b0 : (((rd_T66 l1 x24_1).f0) == 2) = false := beq_eq_false_iff_ne.mpr c37
                                      have c37b1 : (((rd_T66 l1 x24_1).f0) != 2) = true := bne_iff_ne.mpr c37
                                      by_cases c44 : ((rd_T66 l1 x24_1).f0) = 3
                                      · rw [if_pos c44] at H
                                        have c44b0 : (((rd_T66 l1 x24_1).f0) == 3) = true := beq_iff_eq.mpr c44
                                        have c44b1 : (((rd_T66 l1 x24_1).f0) != 3) = false := bne_eq_false_iff_eq.mpr c44
                                        clear c44
                                        replace H := Option.bind_eq_some_iff.mp H
                                        obtain ⟨t430, A450, H⟩ := H
                                        (try dsimp only at H)
                                        have A45 := Aside0.mk A450
                                        clear A450
                                        by_cases c46 : t430 = true
                                        · subst c46
                                          rw [if_pos rfl] at H
                                          simp only [Option.some.injEq, Prod.mk.injEq] at H
                                          obtain ⟨rfl, rfl, rfl⟩ := H
                                          have hcz47_0 : wc.cell? ⟨gb415, 0, none⟩ = some (.int .i64 ((rd_T66 l1 x24_1).f0)) := (blk_cell BK415.out 0).trans rfl
                                          have hcz47_1 : wc.cell? ⟨gb415, 1, none⟩ = some (.int .i64 ((rd_T66 l1 x24_1).f1)) := (blk_cell BK415.out 1).trans rfl
                                          have hcz47_2 : wc.cell? ⟨gb415, 2, none⟩ = some (.int .i64 ((rd_T66 l1 x24_1).f2)) := (blk_cell BK415.out 2).trans rfl
                                          have hcz47_3 : wc.cell? ⟨gb415, 3, none⟩ = some (.string ((rd_T66 l1 x24_1).f3)) := (blk_cell BK415.out 3).trans rfl
                                          have hfz47_0 := blk_frozen BK415.out 0
                                          have hfz47_1 := blk_frozen BK415.out 1
                                          have hfz47_2 := blk_frozen BK415.out 2
                                          have hfz47_3 := blk_frozen BK415.out 3
                                          go_wp2_with (first | (go_at_call 76; (with_reducible refine (strings_Contains.calls (a0.extract (x9_1 : Int).toNat ((wrap64 (x9_1 + x12_15)) : Int).toNat) (⟨#[49]⟩ : ByteArray) true _ A45.out).mono ?_); rintro e w' ⟨rfl, ⟨nd, rfl⟩⟩; (try first | exact ⟨rfl, _, World.drewN_drewN _ _ _⟩ | exact ⟨rfl, _, Eq.trans (World.drewN_drewN _ _ _) (congrArg (World.drewN _) (Nat.add_assoc _ _ _))⟩)))
                                          go_ret3
                                          exact ⟨_, by first | rfl | (simp [errW_none, errW_some] <;> rfl) | (simp [*, errW_none, errW_some] <;> rfl), by first | exact Kd.R_nil _ _ _ _ _ | exact Kd.N_nil _ _ _ _ _ | exact Kd.V_nil _ _ _ _ _ | exact Kd.Q_nil _ _ _ _ _ | exact Kd.S_nil _ _ _ _ _, by repeat (first | (with_reducible first | exact HB.out | apply below_alloc | apply pw_below_drewN | apply below_drew1 | refine below_set ?_ GE415.out) | exact HB.out)⟩
                                        · replace c46 := Bool.eq_false_iff.mpr c46
                                          subst c46
                                          rw [if_neg (show ¬ (false = true) by decide)] at H
                                          by_cases c48 : x8_1.length < 3518437208883
                                          · rw [if_pos c48] at H
                                            have LMc48 := Aside0.mk c48
                                            clear c48
                                            obtain ⟨y431, hy431⟩ : ∃ y_ : List (S66), y_ = (x8_1 ++ [(⟨((rd_T66 l1 x24_1).f0), ((rd_T66 l1 x24_1).f1), 0, (⟨#[]⟩ : ByteArray)⟩ : S66)]) := ⟨_, rfl⟩
                                            (try rw [Option.bind_some] at H); rw [← hy431] at H
                                            have Ny431 := Aside0.mk hy431
                                            clear hy431
                                            have H' := Aside0.mk H
                                            clear H
                                            have hcz49_0 : wc.cell? ⟨gb415, 0, none⟩ = some (.int .i64 ((rd_T66 l1 x24_1).f0)) := (blk_cell BK415.out 0).trans rfl
                                            have hcz49_1 : wc.cell? ⟨gb415, 1, none⟩ = some (.int .i64 ((rd_T66 l1 x24_1).f1)) := (blk_cell BK415.out 1).trans rfl
                                            have hcz49_2 : wc.cell? ⟨gb415, 2, none⟩ = some (.int .i64 ((rd_T66 l1 x24_1).f2)) := (blk_cell BK415.out 2).trans rfl
                                            have hcz49_3 : wc.cell? ⟨gb415, 3, none⟩ = some (.string ((rd_T66 l1 x24_1).f3)) := (blk_cell BK415.out 3).trans rfl
                                            have hfz49_0 := blk_frozen BK415.out 0
                                            have hfz49_1 := blk_frozen BK415.out 1
                                            have hfz49_2 := blk_frozen BK415.out 2
                                            have hfz49_3 := blk_frozen BK415.out 3
                                            go_wp2_with (first | (go_at_call 76; (with_reducible refine (strings_Contains.calls (a0.extract (x9_1 : Int).toNat ((wrap64 (x9_1 + x12_15)) : Int).toNat) (⟨#[49]⟩ : ByteArray) false _ A45.out).mono ?_); rintro e w' ⟨rfl, ⟨nd, rfl⟩⟩; (try first | exact ⟨rfl, _, World.drewN_drewN _ _ _⟩ | exact ⟨rfl, _, Eq.trans (World.drewN_drewN _ _ _) (congrArg (World.drewN _) (Nat.add_assoc _ _ _))⟩)) | ((with_reducible refine gate_builtin (b := .append) (xs := #[.tmp 101, .tmp 103]) rfl ?_); at_builtin; refine Kd.R_append k66 (w0 := w) w.heap.size rfl (.tmp 101) (.tmp 103) 22 66 (.agg #[(.int .i64 0), (.int .i64 0), (.int .i64 0), (.string ⟨#[]⟩)]) 40 rfl Tryd.underlying22 info66 rfl (by decide) (by omega) u8 x8_1 (⟨((rd_T66 l1 x24_1).f0), ((rd_T66 l1 x24_1).f1), 0, (⟨#[]⟩ : ByteArray)⟩ : S66) [.int .i64 ((rd_T66 l1 x24_1).f0), .int .i64 ((rd_T66 l1 x24_1).f1), .int .i64 0, .string (⟨#[]⟩ : ByteArray)] (fun k_ => k_ ≠ gb415) (fun _ => False) rfl (by first | (go_simp; done) | (go_simp; rfl)) ?aP (fun _ hk => hk.elim) ?aF ?aO ?aB ?aS ?aL ?_; (case aP => exact k66_mkM _ _ _ (⟨((rd_T66 l1 x24_1).f0), ((rd_T66 l1 x24_1).f1), 0, (⟨#[]⟩ : ByteArray)⟩ : S66)); (case aB => exact (by repeat (first | (with_reducible first | exact HB.out | apply below_alloc | apply pw_below_drewN | apply below_drew1 | refine below_set ?_ GE415.out) | exact HB.out))); (case aF => exact (fun k_ hk => Kd.freshB (g := gb415) (o := .cells #[.int .i64 ((rd_T66 l1 x24_1).f0), .int .i64 ((rd_T66 l1 x24_1).f1), .int .i64 0, .string (⟨#[]⟩ : ByteArray)] 66 (0, 0)) (by (with_reducible repeat (first | refine blk_drewN ?_ _ | refine blk_drew ?_ | refine blk_alloc ?_ _)); refine blk_put (cs := #[.int .i64 ((rd_T66 l1 x24_1).f0), .int .i64 ((rd_T66 l1 x24_1).f1), .int .i64 0, .string ((rd_T66 l1 x24_1).f3)]) ?_ 3 _ rfl; (with_reducible repeat (first | refine blk_drewN ?_ _ | refine blk_drew ?_ | refine blk_alloc ?_ _)); refine blk_put (cs := #[.int .i64 ((rd_T66 l1 x24_1).f0), .int .i64 ((rd_T66 l1 x24_1).f1), .int .i64 ((rd_T66 l1 x24_1).f2), .string ((rd_T66 l1 x24_1).f3)]) ?_ 2 _ rfl; (with_reducible repeat (first | refine blk_drewN ?_ _ | refine blk_drew ?_ | refine blk_alloc ?_ _)); exact BK415.out) k_ hk)); (case aO => exact (by (with_reducible repeat (first | apply Kd.R_alloc | apply Kd.R_drewN | apply Kd.R_drew)); exact Kd.R_mono (Kd.R_far (p := ⟨gb415, 3, none⟩) (Kd.R_far (p := ⟨gb415, 2, none⟩) (Kd.R_mono HO_8.out (fun k_ hk => (⟨hk, hk⟩ : _ ∧ k_ ≠ gb415))) (fun _ hk => hk.2) (.int .i64 0)) (fun _ hk => hk.2) (.string (⟨#[]⟩ : ByteArray))) (fun _ hk => hk.1))); (case aS => exact (below_size (by repeat (first | (with_reducible first | exact HB.out | apply below_alloc | apply pw_below_drewN | apply below_drew1 | refine below_set ?_ GE415.out) | exact HB.out)))); (case aL => have := LMc48.out; omega); intro v432 w50 ho hb hg hat; rw [← Ny431.out] at ho; have n0_ := Aside0.mk (blk_grown (g := gb415) (o := .cells #[.int .i64 ((rd_T66 l1 x24_1).f0), .int .i64 ((rd_T66 l1 x24_1).f1), .int .i64 0, .string (⟨#[]⟩ : ByteArray)] 66 (0, 0)) (by (with_reducible repeat (first | refine blk_drewN ?_ _ | refine blk_drew ?_ | refine blk_alloc ?_ _)); refine blk_put (cs := #[.int .i64 ((rd_T66 l1 x24_1).f0), .int .i64 ((rd_T66 l1 x24_1).f1), .int .i64 0, .string ((rd_T66 l1 x24_1).f3)]) ?_ 3 _ rfl; (with_reducible repeat (first | refine blk_drewN ?_ _ | refine blk_drew ?_ | refine blk_alloc ?_ _)); refine blk_put (cs := #[.int .i64 ((rd_T66 l1 x24_1).f0), .int .i64 ((rd_T66 l1 x24_1).f1), .int .i64 ((rd_T66 l1 x24_1).f2), .string ((rd_T66 l1 x24_1).f3)]) ?_ 2 _ rfl; (with_reducible repeat (first | refine blk_drewN ?_ _ | refine blk_drew ?_ | refine blk_alloc ?_ _)); exact BK415.out) hg (Kd.R_away HO_8.out (fun _ hk => hk))); have n1_ := Aside0.mk (hb); have n2_ := Aside0.mk (ho); clear BK415; clear HB; clear HO_8; have BK415 := n0_; have HB := n1_; have HO433 := n2_; clear n0_ n1_ n2_; clear ho hb hg hat))
                                            go_roundg kj15
                                            case measure => have := HK1.out; have := HJ15.out; omega
                                            case rel => exact ⟨(y431), (wrap64 (x9_1 + x12_15)), (wrap64 (x24_1 + 1)), (by first | rfl | (simp; done) | (simp [*]; done)), (by first | rfl | (simp; done) | (simp [*]; done)), H', ⟨by have := HK1.out; have := HJ15.out; omega⟩, ⟨by (with_reducible repeat (first | apply Kd.R_alloc | apply Kd.R_drewN | apply Kd.R_drew)); exact Kd.R_mono HO433.out (fun _ hk => trivial)⟩, ⟨by repeat (first | (with_reducible first | exact HB.out | apply below_alloc | apply pw_below_drewN | apply below_drew1 | refine below_set ?_ GE415.out) | exact HB.out)⟩⟩
                                          · rw [if_neg c48] at H
                                            exact absurd H (by simp)
                                      · rw [if_neg c44] at H
                                        have c44b0 : (((rd_T66 l1 x24_1).f0) == 3) = false := beq_eq_false_iff_ne.mpr c44
                                        have c44b1 : (((rd_T66 l1 x24_1).f0) != 3) = true := bne_iff_ne.mpr c44
                                        by_cases c51 : x8_1.length < 3518437208883
                                        · rw [if_pos c51] at H
                                          have LMc51 := Aside0.mk c51
                                          clear c51
                                          obtain ⟨y434, hy434⟩ : ∃ y_ : List (S66), y_ = (x8_1 ++ [(⟨((rd_T66 l1 x24_1).f0), ((rd_T66 l1 x24_1).f1), 0, (⟨#[]⟩ : ByteArray)⟩ : S66)]) := ⟨_, rfl⟩
                                          (try rw [Option.bind_some] at H); rw [← hy434] at H
                                          have Ny434 := Aside0.mk hy434
                                          clear hy434
                                          have H' := Aside0.mk H
                                          clear H
                                          have hcz52_0 : wc.cell? ⟨gb415, 0, none⟩ = some (.int .i64 ((rd_T66 l1 x24_1).f0)) := (blk_cell BK415.out 0).trans rfl
                                          have hcz52_1 : wc.cell? ⟨gb415, 1, none⟩ = some (.int .i64 ((rd_T66 l1 x24_1).f1)) := (blk_cell BK415.out 1).trans rfl
                                          have hcz52_2 : wc.cell? ⟨gb415, 2, none⟩ = some (.int .i64 ((rd_T66 l1 x24_1).f2)) := (blk_cell BK415.out 2).trans rfl
                                          have hcz52_3 : wc.cell? ⟨gb415, 3, none⟩ = some (.string ((rd_T66 l1 x24_1).f3)) := (blk_cell BK415.out 3).trans rfl
                                          have hfz52_0 := blk_frozen BK415.out 0
                                          have hfz52_1 := blk_frozen BK415.out 1
                                          have hfz52_2 := blk_frozen BK415.out 2
                                          have hfz52_3 := blk_frozen BK415.out 3
                                          go_wp2_with (first | ((with_reducible refine gate_builtin (b := .append) (xs := #[.tmp 101, .tmp 103]) rfl ?_); at_builtin; refine Kd.R_append k66 (w0 := w) w.heap.size rfl (.tmp 101) (.tmp 103) 22 66 (.agg #[(.int .i64 0), (.int .i64 0), (.int .i64 0), (.string ⟨#[]⟩)]) 40 rfl Tryd.underlying22 info66 rfl (by decide) (by omega) u8 x8_1 (⟨((rd_T66 l1 x24_1).f0), ((rd_T66 l1 x24_1).f1), 0, (⟨#[]⟩ : ByteArray)⟩ : S66) [.int .i64 ((rd_T66 l1 x24_1).f0), .int .i64 ((rd_T66 l1 x24_1).f1), .int .i64 0, .string (⟨#[]⟩ : ByteArray)] (fun k_ => k_ ≠ gb415) (fun _ => False) rfl (by first | (go_simp; done) | (go_simp; rfl)) ?aP (fun _ hk => hk.elim) ?aF ?aO ?aB ?aS ?aL ?_; (case aP => exact k66_mkM _ _ _ (⟨((rd_T66 l1 x24_1).f0), ((rd_T66 l1 x24_1).f1), 0, (⟨#[]⟩ : ByteArray)⟩ : S66)); (case aB => exact (by repeat (first | (with_reducible first | exact HB.out | apply below_alloc | apply pw_below_drewN | apply below_drew1 | refine below_set ?_ GE415.out) | exact HB.out))); (case aF => exact (fun k_ hk => Kd.freshB (g := gb415) (o := .cells #[.int .i64 ((rd_T66 l1 x24_1).f0), .int .i64 ((rd_T66 l1 x24_1).f1), .int .i64 0, .string (⟨#[]⟩ : ByteArray)] 66 (0, 0)) (by (with_reducible repeat (first | refine blk_drewN ?_ _ | refine blk_drew ?_ | refine blk_alloc ?_ _)); refine blk_put (cs := #[.int .i64 ((rd_T66 l1 x24_1).f0), .int .i64 ((rd_T66 l1 x24_1).f1), .int .i64 0, .string ((rd_T66 l1 x24_1).f3)]) ?_ 3 _ rfl; (with_reducible repeat (first | refine blk_drewN ?_ _ | refine blk_drew ?_ | refine blk_alloc ?_ _)); refine blk_put (cs := #[.int .i64 ((rd_T66 l1 x24_1).f0), .int .i64 ((rd_T66 l1 x24_1).f1), .int .i64 ((rd_T66 l1 x24_1).f2), .string ((rd_T66 l1 x24_1).f3)]) ?_ 2 _ rfl; (with_reducible repeat (first | refine blk_drewN ?_ _ | refine blk_drew ?_ | refine blk_alloc ?_ _)); exact BK415.out) k_ hk)); (case aO => exact (by (with_reducible repeat (first | apply Kd.R_alloc | apply Kd.R_drewN | apply Kd.R_drew)); exact Kd.R_mono (Kd.R_far (p := ⟨gb415, 3, none⟩) (Kd.R_far (p := ⟨gb415, 2, none⟩) (Kd.R_mono HO_8.out (fun k_ hk => (⟨hk, hk⟩ : _ ∧ k_ ≠ gb415))) (fun _ hk => hk.2) (.int .i64 0)) (fun _ hk => hk.2) (.string (⟨#[]⟩ : ByteArray))) (fun _ hk => hk.1))); (case aS => exact (below_size (by repeat (first | (with_reducible first | exact HB.out | apply below_alloc | apply pw_below_drewN | apply below_drew1 | refine below_set ?_ GE415.out) | exact HB.out)))); (case aL => have := LMc51.out; omega); intro v435 w53 ho hb hg hat; rw [← Ny434.out] at ho; have n0_ := Aside0.mk (blk_grown (g := gb415) (o := .cells #[.int .i64 ((rd_T66 l1 x24_1).f0), .int .i64 ((rd_T66 l1 x24_1).f1), .int .i64 0, .string (⟨#[]⟩ : ByteArray)] 66 (0, 0)) (by (with_reducible repeat (first | refine blk_drewN ?_ _ | refine blk_drew ?_ | refine blk_alloc ?_ _)); refine blk_put (cs := #[.int .i64 ((rd_T66 l1 x24_1).f0), .int .i64 ((rd_T66 l1 x24_1).f1), .int .i64 0, .string ((rd_T66 l1 x24_1).f3)]) ?_ 3 _ rfl; (with_reducible repeat (first | refine blk_drewN ?_ _ | refine blk_drew ?_ | refine blk_alloc ?_ _)); refine blk_put (cs := #[.int .i64 ((rd_T66 l1 x24_1).f0), .int .i64 ((rd_T66 l1 x24_1).f1), .int .i64 ((rd_T66 l1 x24_1).f2), .string ((rd_T66 l1 x24_1).f3)]) ?_ 2 _ rfl; (with_reducible repeat (first | refine blk_drewN ?_ _ | refine blk_drew ?_ | refine blk_alloc ?_ _)); exact BK415.out) hg (Kd.R_away HO_8.out (fun _ hk => hk))); have n1_ := Aside0.mk (hb); have n2_ := Aside0.mk (ho); clear BK415; clear HB; clear HO_8; have BK415 := n0_; have HB := n1_; have HO436 := n2_; clear n0_ n1_ n2_; clear ho hb hg hat))
                                          go_roundg kj15
                                          case measure => have := HK1.out; have := HJ15.out; omega
                                          case rel => exact ⟨(y434), (wrap64 (x9_1 + x12_15)), (wrap64 (x24_1 + 1)), (by first | rfl | (simp; done) | (simp [*]; done)), (by first | rfl | (simp; done) | (simp [*]; done)), H', ⟨by have := HK1.out; have := HJ15.out; omega⟩, ⟨by (with_reducible repeat (first | apply Kd.R_alloc | apply Kd.R_drewN | apply Kd.R_drew)); exact Kd.R_mono HO436.out (fun _ hk => trivial)⟩, ⟨by repeat (first | (with_reducible first | exact HB.out | apply below_alloc | apply pw_below_drewN | apply below_drew1 | refine below_set ?_ GE415.out) | exact HB.out)⟩⟩
                                        · rw [if_neg c51] at H
                                          exact absurd H (by simp)
                              · rw [if_neg c25] at H
                                exact absurd H (by simp)
                            · rw [if_neg c24] at H
                              exact absurd H (by simp)
                          · rw [if_neg c23] at H
                            exact absurd H (by simp)
                  · replace c15 := Bool.eq_false_iff.mpr c15
                    subst c15
                    rw [if_neg (show ¬ (false = true) by decide)] at H
                    simp only [Option.some.injEq, Prod.mk.injEq] at H
                    obtain ⟨rfl, rfl, rfl⟩ := H
                    have p414 : 0 ≤ (x24_1 : Int) := of_decide_eq_true (by first | (with_reducible assumption) | assumption)
                    have q414 : x24_1 < (l1.length : Int) := of_decide_eq_true (by first | (with_reducible assumption) | assumption)
                    obtain ⟨ad414, e414, hx414_0, hx414_1, hx414_2, hx414_3⟩ := at_T66 HR1.out x24_1 p414 q414
                    cases e414
                    replace hx414_0 := (HB.out.cell (World.block_lt_of_cell? w _ hx414_0)).trans hx414_0
                    replace hx414_1 := (HB.out.cell (World.block_lt_of_cell? w _ hx414_1)).trans hx414_1
                    replace hx414_2 := (HB.out.cell (World.block_lt_of_cell? w _ hx414_2)).trans hx414_2
                    replace hx414_3 := (HB.out.cell (World.block_lt_of_cell? w _ hx414_3)).trans hx414_3
                    replace p414 := eq_true p414
                    replace q414 := eq_true q414
                    go_wp2_with (first | ((with_reducible refine gate_dst (N := 11) rfl ?_); refine box_event ?hg (N := 11) ?hd (cs := #[.int .i64 0, .int .i64 0, .int .i64 0, .string (⟨#[]⟩ : ByteArray)]) (t := 66) ?hr ?_; (case hd => rfl); (case hg => rfl); (case hr => first | (go_simp; done) | (go_simp; rfl)); intro gb415 hg w54 hbox hb; have n0_ := Aside0.mk (Kd.R_below (Kd.R_elderB (by (with_reducible repeat (first | apply Kd.R_alloc | apply Kd.R_drewN | apply Kd.R_drew)); exact HO_8.out) gb415 (Nat.le_of_eq hg.symm)) hb); have n1_ := Aside0.mk (below_step (by repeat (first | (with_reducible first | exact HB.out | apply below_alloc | apply pw_below_drewN | apply below_drew1) | exact HB.out)) hb); have n2_ := Aside0.mk (hbox); have n3_ := Aside0.mk ((by rw [hg]; exact (below_size (by repeat (first | (with_reducible first | exact HB.out | apply below_alloc | apply pw_below_drewN | apply below_drew1) | exact HB.out))) : w.heap.size ≤ gb415)); have n4_ := Aside0.mk ((by rw [hg]; exact (below_size (by repeat (first | (with_reducible first | exact HB.out | apply below_alloc | apply pw_below_drewN | apply below_drew1) | exact HB.out))) : w.heap.size ≤ gb415)); clear HO_8; clear HB; have HO_8 := n0_; have HB := n1_; have BK415 := n2_; have GW415 := n3_; have GE415 := n4_; clear n0_ n1_ n2_ n3_ n4_; clear hb hbox hg; have hcz55_0 : w54.cell? ⟨gb415, 0, none⟩ = some (.int .i64 0) := (blk_cell BK415.out 0).trans rfl; have hcz55_1 : w54.cell? ⟨gb415, 1, none⟩ = some (.int .i64 0) := (blk_cell BK415.out 1).trans rfl; have hcz55_2 : w54.cell? ⟨gb415, 2, none⟩ = some (.int .i64 0) := (blk_cell BK415.out 2).trans rfl; have hcz55_3 : w54.cell? ⟨gb415, 3, none⟩ = some (.string (⟨#[]⟩ : ByteArray)) := (blk_cell BK415.out 3).trans rfl; have hfz55_0 := blk_frozen BK415.out 0; have hfz55_1 := blk_frozen BK415.out 1; have hfz55_2 := blk_frozen BK415.out 2; have hfz55_3 := blk_frozen BK415.out 3) | (go_at_call 66; (with_reducible refine (bits_within.calls ((rd_T66 l1 x24_1).f0) 0 3 true _ A11.out).mono ?_); rintro e w' ⟨rfl, ⟨nd, rfl⟩⟩; (try first | exact ⟨rfl, _, World.drewN_drewN _ _ _⟩ | exact ⟨rfl, _, Eq.trans (World.drewN_drewN _ _ _) (congrArg (World.drewN _) (Nat.add_assoc _ _ _))⟩)) | (go_at_call 75; (with_reducible refine (bits_mostWidth.calls ((rd_T66 l1 x24_1).f0) t417 _ A13.out).mono ?_); rintro e w' ⟨rfl, ⟨nd, rfl⟩⟩; (try first | exact ⟨rfl, _, World.drewN_drewN _ _ _⟩ | exact ⟨rfl, _, Eq.trans (World.drewN_drewN _ _ _) (congrArg (World.drewN _) (Nat.add_assoc _ _ _))⟩)) | (go_at_call 66; (with_reducible refine (bits_within.calls ((rd_T66 l1 x24_1).f1) 0 t417 false _ A14.out).mono ?_); rintro e w' ⟨rfl, ⟨nd, rfl⟩⟩; (try first | exact ⟨rfl, _, World.drewN_drewN _ _ _⟩ | exact ⟨rfl, _, Eq.trans (World.drewN_drewN _ _ _) (congrArg (World.drewN _) (Nat.add_assoc _ _ _))⟩)))
                    repeat (go_quiet (first | ((with_reducible refine gate_dst (N := 11) rfl ?_); refine box_event ?hg (N := 11) ?hd (cs := #[.int .i64 0, .int .i64 0, .int .i64 0, .string (⟨#[]⟩ : ByteArray)]) (t := 66) ?hr ?_; (case hd => rfl); (case hg => rfl); (case hr => first | (go_simp; done) | (go_simp; rfl)); intro gb415 hg w54 hbox hb; have n0_ := Aside0.mk (Kd.R_below (Kd.R_elderB (by (with_reducible repeat (first | apply Kd.R_alloc | apply Kd.R_drewN | apply Kd.R_drew)); exact HO_8.out) gb415 (Nat.le_of_eq hg.symm)) hb); have n1_ := Aside0.mk (below_step (by repeat (first | (with_reducible first | exact HB.out | apply below_alloc | apply pw_below_drewN | apply below_drew1) | exact HB.out)) hb); have n2_ := Aside0.mk (hbox); have n3_ := Aside0.mk ((by rw [hg]; exact (below_size (by repeat (first | (with_reducible first | exact HB.out | apply below_alloc | apply pw_below_drewN | apply below_drew1) | exact HB.out))) : w.heap.size ≤ gb415)); have n4_ := Aside0.mk ((by rw [hg]; exact (below_size (by repeat (first | (with_reducible first | exact HB.out | apply below_alloc | apply pw_below_drewN | apply below_drew1) | exact HB.out))) : w.heap.size ≤ gb415)); clear HO_8; clear HB; have HO_8 := n0_; have HB := n1_; have BK415 := n2_; have GW415 := n3_; have GE415 := n4_; clear n0_ n1_ n2_ n3_ n4_; clear hb hbox hg; have hcz55_0 : w54.cell? ⟨gb415, 0, none⟩ = some (.int .i64 0) := (blk_cell BK415.out 0).trans rfl; have hcz55_1 : w54.cell? ⟨gb415, 1, none⟩ = some (.int .i64 0) := (blk_cell BK415.out 1).trans rfl; have hcz55_2 : w54.cell? ⟨gb415, 2, none⟩ = some (.int .i64 0) := (blk_cell BK415.out 2).trans rfl; have hcz55_3 : w54.cell? ⟨gb415, 3, none⟩ = some (.string (⟨#[]⟩ : ByteArray)) := (blk_cell BK415.out 3).trans rfl; have hfz55_0 := blk_frozen BK415.out 0; have hfz55_1 := blk_frozen BK415.out 1; have hfz55_2 := blk_frozen BK415.out 2; have hfz55_3 := blk_frozen BK415.out 3) | (go_at_call 66; (with_reducible refine (bits_within.calls ((rd_T66 l1 x24_1).f0) 0 3 true _ A11.out).mono ?_); rintro e w' ⟨rfl, ⟨nd, rfl⟩⟩; (try first | exact ⟨rfl, _, World.drewN_drewN _ _ _⟩ | exact ⟨rfl, _, Eq.trans (World.drewN_drewN _ _ _) (congrArg (World.drewN _) (Nat.add_assoc _ _ _))⟩)) | (go_at_call 75; (with_reducible refine (bits_mostWidth.calls ((rd_T66 l1 x24_1).f0) t417 _ A13.out).mono ?_); rintro e w' ⟨rfl, ⟨nd, rfl⟩⟩; (try first | exact ⟨rfl, _, World.drewN_drewN _ _ _⟩ | exact ⟨rfl, _, Eq.trans (World.drewN_drewN _ _ _) (congrArg (World.drewN _) (Nat.add_assoc _ _ _))⟩)) | (go_at_call 66; (with_reducible refine (bits_within.calls ((rd_T66 l1 x24_1).f1) 0 t417 false _ A14.out).mono ?_); rintro e w' ⟨rfl, ⟨nd, rfl⟩⟩; (try first | exact ⟨rfl, _, World.drewN_drewN _ _ _⟩ | exact ⟨rfl, _, Eq.trans (World.drewN_drewN _ _ _) (congrArg (World.drewN _) (Nat.add_assoc _ _ _))⟩))); try go_wp2_with (first | ((with_reducible refine gate_dst (N := 11) rfl ?_); refine box_event ?hg (N := 11) ?hd (cs := #[.int .i64 0, .int .i64 0, .int .i64 0, .string (⟨#[]⟩ : ByteArray)]) (t := 66) ?hr ?_; (case hd => rfl); (case hg => rfl); (case hr => first | (go_simp; done) | (go_simp; rfl)); intro gb415 hg w54 hbox hb; have n0_ := Aside0.mk (Kd.R_below (Kd.R_elderB (by (with_reducible repeat (first | apply Kd.R_alloc | apply Kd.R_drewN | apply Kd.R_drew)); exact HO_8.out) gb415 (Nat.le_of_eq hg.symm)) hb); have n1_ := Aside0.mk (below_step (by repeat (first | (with_reducible first | exact HB.out | apply below_alloc | apply pw_below_drewN | apply below_drew1) | exact HB.out)) hb); have n2_ := Aside0.mk (hbox); have n3_ := Aside0.mk ((by rw [hg]; exact (below_size (by repeat (first | (with_reducible first | exact HB.out | apply below_alloc | apply pw_below_drewN | apply below_drew1) | exact HB.out))) : w.heap.size ≤ gb415)); have n4_ := Aside0.mk ((by rw [hg]; exact (below_size (by repeat (first | (with_reducible first | exact HB.out | apply below_alloc | apply pw_below_drewN | apply below_drew1) | exact HB.out))) : w.heap.size ≤ gb415)); clear HO_8; clear HB; have HO_8 := n0_; have HB := n1_; have BK415 := n2_; have GW415 := n3_; have GE415 := n4_; clear n0_ n1_ n2_ n3_ n4_; clear hb hbox hg; have hcz55_0 : w54.cell? ⟨gb415, 0, none⟩ = some (.int .i64 0) := (blk_cell BK415.out 0).trans rfl; have hcz55_1 : w54.cell? ⟨gb415, 1, none⟩ = some (.int .i64 0) := (blk_cell BK415.out 1).trans rfl; have hcz55_2 : w54.cell? ⟨gb415, 2, none⟩ = some (.int .i64 0) := (blk_cell BK415.out 2).trans rfl; have hcz55_3 : w54.cell? ⟨gb415, 3, none⟩ = some (.string (⟨#[]⟩ : ByteArray)) := (blk_cell BK415.out 3).trans rfl; have hfz55_0 := blk_frozen BK415.out 0; have hfz55_1 := blk_frozen BK415.out 1; have hfz55_2 := blk_frozen BK415.out 2; have hfz55_3 := blk_frozen BK415.out 3) | (go_at_call 66; (with_reducible refine (bits_within.calls ((rd_T66 l1 x24_1).f0) 0 3 true _ A11.out).mono ?_); rintro e w' ⟨rfl, ⟨nd, rfl⟩⟩; (try first | exact ⟨rfl, _, World.drewN_drewN _ _ _⟩ | exact ⟨rfl, _, Eq.trans (World.drewN_drewN _ _ _) (congrArg (World.drewN _) (Nat.add_assoc _ _ _))⟩)) | (go_at_call 75; (with_reducible refine (bits_mostWidth.calls ((rd_T66 l1 x24_1).f0) t417 _ A13.out).mono ?_); rintro e w' ⟨rfl, ⟨nd, rfl⟩⟩; (try first | exact ⟨rfl, _, World.drewN_drewN _ _ _⟩ | exact ⟨rfl, _, Eq.trans (World.drewN_drewN _ _ _) (congrArg (World.drewN _) (Nat.add_assoc _ _ _))⟩)) | (go_at_call 66; (with_reducible refine (bits_within.calls ((rd_T66 l1 x24_1).f1) 0 t417 false _ A14.out).mono ?_); rintro e w' ⟨rfl, ⟨nd, rfl⟩⟩; (try first | exact ⟨rfl, _, World.drewN_drewN _ _ _⟩ | exact ⟨rfl, _, Eq.trans (World.drewN_drewN _ _ _) (congrArg (World.drewN _) (Nat.add_assoc _ _ _))⟩))))
                    go_ret3
                    exact ⟨_, by first | rfl | (simp [errW_none, errW_some] <;> rfl) | (simp [*, errW_none, errW_some] <;> rfl), by first | exact Kd.R_nil _ _ _ _ _ | exact Kd.N_nil _ _ _ _ _ | exact Kd.V_nil _ _ _ _ _ | exact Kd.Q_nil _ _ _ _ _ | exact Kd.S_nil _ _ _ _ _, by repeat (first | (with_reducible first | exact HB.out | apply below_alloc | apply pw_below_drewN | apply below_drew1 | refine below_set ?_ GE415.out) | exact HB.out)⟩
                · replace c12 := Bool.eq_false_iff.mpr c12
                  subst c12
                  rw [if_neg (show ¬ (false = true) by decide)] at H
                  simp only [Option.some.injEq, Prod.mk.injEq] at H
                  obtain ⟨rfl, rfl, rfl⟩ := H
                  have p414 : 0 ≤ (x24_1 : Int) := of_decide_eq_true (by first | (with_reducible assumption) | assumption)
                  have q414 : x24_1 < (l1.length : Int) := of_decide_eq_true (by first | (with_reducible assumption) | assumption)
                  obtain ⟨ad414, e414, hx414_0, hx414_1, hx414_2, hx414_3⟩ := at_T66 HR1.out x24_1 p414 q414
                  cases e414
                  replace hx414_0 := (HB.out.cell (World.block_lt_of_cell? w _ hx414_0)).trans hx414_0
                  replace hx414_1 := (HB.out.cell (World.block_lt_of_cell? w _ hx414_1)).trans hx414_1
                  replace hx414_2 := (HB.out.cell (World.block_lt_of_cell? w _ hx414_2)).trans hx414_2
                  replace hx414_3 := (HB.out.cell (World.block_lt_of_cell? w _ hx414_3)).trans hx414_3
                  replace p414 := eq_true p414
                  replace q414 := eq_true q414
                  go_wp2_with (first | ((with_reducible refine gate_dst (N := 11) rfl ?_); refine box_event ?hg (N := 11) ?hd (cs := #[.int .i64 0, .int .i64 0, .int .i64 0, .string (⟨#[]⟩ : ByteArray)]) (t := 66) ?hr ?_; (case hd => rfl); (case hg => rfl); (case hr => first | (go_simp; done) | (go_simp; rfl)); intro gb415 hg w56 hbox hb; have n0_ := Aside0.mk (Kd.R_below (Kd.R_elderB (by (with_reducible repeat (first | apply Kd.R_alloc | apply Kd.R_drewN | apply Kd.R_drew)); exact HO_8.out) gb415 (Nat.le_of_eq hg.symm)) hb); have n1_ := Aside0.mk (below_step (by repeat (first | (with_reducible first | exact HB.out | apply below_alloc | apply pw_below_drewN | apply below_drew1) | exact HB.out)) hb); have n2_ := Aside0.mk (hbox); have n3_ := Aside0.mk ((by rw [hg]; exact (below_size (by repeat (first | (with_reducible first | exact HB.out | apply below_alloc | apply pw_below_drewN | apply below_drew1) | exact HB.out))) : w.heap.size ≤ gb415)); have n4_ := Aside0.mk ((by rw [hg]; exact (below_size (by repeat (first | (with_reducible first | exact HB.out | apply below_alloc | apply pw_below_drewN | apply below_drew1) | exact HB.out))) : w.heap.size ≤ gb415)); clear HO_8; clear HB; have HO_8 := n0_; have HB := n1_; have BK415 := n2_; have GW415 := n3_; have GE415 := n4_; clear n0_ n1_ n2_ n3_ n4_; clear hb hbox hg; have hcz57_0 : w56.cell? ⟨gb415, 0, none⟩ = some (.int .i64 0) := (blk_cell BK415.out 0).trans rfl; have hcz57_1 : w56.cell? ⟨gb415, 1, none⟩ = some (.int .i64 0) := (blk_cell BK415.out 1).trans rfl; have hcz57_2 : w56.cell? ⟨gb415, 2, none⟩ = some (.int .i64 0) := (blk_cell BK415.out 2).trans rfl; have hcz57_3 : w56.cell? ⟨gb415, 3, none⟩ = some (.string (⟨#[]⟩ : ByteArray)) := (blk_cell BK415.out 3).trans rfl; have hfz57_0 := blk_frozen BK415.out 0; have hfz57_1 := blk_frozen BK415.out 1; have hfz57_2 := blk_frozen BK415.out 2; have hfz57_3 := blk_frozen BK415.out 3) | (go_at_call 66; (with_reducible refine (bits_within.calls ((rd_T66 l1 x24_1).f0) 0 3 false _ A11.out).mono ?_); rintro e w' ⟨rfl, ⟨nd, rfl⟩⟩; (try first | exact ⟨rfl, _, World.drewN_drewN _ _ _⟩ | exact ⟨rfl, _, Eq.trans (World.drewN_drewN _ _ _) (congrArg (World.drewN _) (Nat.add_assoc _ _ _))⟩)))
                  go_ret3
                  exact ⟨_, by first | rfl | (simp [errW_none, errW_some] <;> rfl) | (simp [*, errW_none, errW_some] <;> rfl), by first | exact Kd.R_nil _ _ _ _ _ | exact Kd.N_nil _ _ _ _ _ | exact Kd.V_nil _ _ _ _ _ | exact Kd.Q_nil _ _ _ _ _ | exact Kd.S_nil _ _ _ _ _, by repeat (first | (with_reducible first | exact HB.out | apply below_alloc | apply pw_below_drewN | apply below_drew1 | refine below_set ?_ GE415.out) | exact HB.out)⟩
              · rw [if_neg c10] at H
                exact absurd H (by simp)
            · rw [if_neg c9] at H
              exact absurd H (by simp)
          · rw [if_neg c8] at H
            have c8b0 : decide (x24_1 < (l1.length : Int)) = false := decide_eq_false c8
            clear c8
            simp only [Option.some.injEq, Prod.mk.injEq] at H
            obtain ⟨rfl, rfl, rfl⟩ := H
            go_wp2
            repeat (go_quiet (fail); try go_wp2)
            go_ret3
            exact ⟨_, by first | rfl | (simp [errW_none, errW_some] <;> rfl) | (simp [*, errW_none, errW_some] <;> rfl), by (with_reducible repeat (first | apply Kd.R_alloc | apply Kd.R_drewN | apply Kd.R_drew)); exact HO_8.out, by repeat (first | (with_reducible first | exact HB.out | apply below_alloc | apply pw_below_drewN | apply below_drew1) | exact HB.out)⟩
  · rw [if_neg c4] at H
    have c4b0 : (t413 == 0) = false := beq_eq_false_iff_ne.mpr c4
    have c4b1 : (t413 != 0) = true := bne_iff_ne.mpr c4
    simp only [Option.some.injEq, Prod.mk.injEq] at H
    obtain ⟨rfl, rfl, rfl⟩ := H
    go_enter Tryd.func51, Tryd.ntmps51
    go_wp2_with (first | (go_at_call 18; (with_reducible refine (bits_CheckBits.calls a0 t413 _ A3.out).mono ?_); rintro e w58 ⟨rfl, hb⟩; have n0_ := Aside0.mk (below_step (by repeat (first | (with_reducible first | exact HB.out | apply below_alloc | apply pw_below_drewN | apply below_drew1) | exact HB.out)) hb); clear HB; have HB := n0_; clear n0_; (try clear hb); (try clear hb2); (try clear hk); (try clear hi)))
    go_ret3
    exact ⟨_, by first | rfl | (simp [errW_none, errW_some] <;> rfl) | (simp [*, errW_none, errW_some] <;> rfl), by first | exact Kd.R_nil _ _ _ _ _ | exact Kd.N_nil _ _ _ _ _ | exact Kd.V_nil _ _ _ _ _ | exact Kd.Q_nil _ _ _ _ _ | exact Kd.S_nil _ _ _ _ _, by repeat (first | (with_reducible first | exact HB.out | apply below_alloc | apply pw_below_drewN | apply below_drew1) | exact HB.out)⟩

end Go.Proofs.YthicmbhldjebfaaDoor.PA
