-- Laid by pp.py (a program of this session, over the kit's printer) out of the translation. Not trusted: Lean checks it.
import Derived.Test.YthicmbhldjebfaaDoorPAx0
import Derived.Test.YthicmbhldjebfaaDoorPAx7
import Derived.Test.YthicmbhldjebfaaDoorPAx14
import Derived.Test.YthicmbhldjebfaaDoorPAx20
import Derived.Test.YthicmbhldjebfaaDoorPAx22
import Derived.Test.YthicmbhldjebfaaDoorPAx23
import Derived.Test.YthicmbhldjebfaaDoorHF
namespace Go.Proofs.YthicmbhldjebfaaDoor.PA
open Go.RowKit Go.Proofs.YthicmbhldjebfaaDoorW.PrintWords Go.Proofs.YthicmbhldjebfaaDoorW.PrintLast Go.Proofs.YthicmbhldjebfaaDoorW.PrintMore
attribute [local go_sem] max2_int min2_int max_two min_two max_three min_three max_four min_four   -- for this text's walks alone
set_option linter.unusedVariables false
set_option linter.unusedSimpArgs false

/-! ### examinerlaw08_BitsForms: function 8 -/
mutual
def examinerlaw08_BitsForms.j0 : Nat → ByteArray → Int → Bool → Option (Bool)
  | 0, _, _, _ => none
  | k + 1, x0, x1, x28 => if x28 = true then (some true) else ((bits_UnsignedIn.f k x0).bind fun bt391 => ((examinerref08_Read64.f k x0 false).bind fun bt393 => (if bt391.2 = bt393.2 then (examinerlaw08_BitsForms.j1 k x0 x1 (bt391.1 != bt393.1)) else (examinerlaw08_BitsForms.j1 k x0 x1 true))))
def examinerlaw08_BitsForms.j1 : Nat → ByteArray → Int → Bool → Option (Bool)
  | 0, _, _, _ => none
  | k + 1, x0, x1, x46 => if x46 = true then (some false) else ((bits_SignedIn.f k x0).bind fun bt395 => ((examinerref08_Read64.f k x0 true).bind fun bt397 => (if bt395.2 = bt397.2 then (examinerlaw08_BitsForms.j2 k x0 x1 (bt395.1 != bt397.1)) else (examinerlaw08_BitsForms.j2 k x0 x1 true))))
def examinerlaw08_BitsForms.j2 : Nat → ByteArray → Int → Bool → Option (Bool)
  | 0, _, _, _ => none
  | k + 1, x0, x1, x64 => if x64 = true then (some false) else ((bits_SeptetsIn.f x0 x1).bind fun bt399 => ((examinerref08_SeptetsAt.f k x0 x1).bind fun bt402 => ((examinerlaw08_answers.f bt399.1 bt399.2.1 bt399.2.2 bt402.1 bt402.2.1 bt402.2.2).bind fun t405 => (if t405 = true then ((bits_LengthIn.f k x0 x1).bind fun bt406 => ((examinerref08_LengthAt.f k x0 x1).bind fun bt409 => ((examinerlaw08_answers.f bt406.1 bt406.2.1 bt406.2.2 bt409.1 bt409.2.1 bt409.2.2).bind fun t412 => (some t412)))) else (some false)))))
end
def examinerlaw08_BitsForms.f (k : Nat) (a0 : ByteArray) (a1 : Int) : Option (Bool) := (examinerlaw08_awake.f k).bind fun t390 => (if t390 = true then (if (a0.size : Int) > 300 then (if (a0.size : Int) ≤ 4000 then (examinerlaw08_BitsForms.j0 k a0 a1 true) else (examinerlaw08_BitsForms.j0 k a0 a1 (decide ((a0.size : Int) > 4010)))) else (examinerlaw08_BitsForms.j0 k a0 a1 (decide ((a0.size : Int) > 4010)))) else (some false))
theorem examinerlaw08_BitsForms.mono_l : ∀ k, (∀ y0 y1 y2, LeO (examinerlaw08_BitsForms.j0 k y0 y1 y2) (examinerlaw08_BitsForms.j0 (k + 1) y0 y1 y2)) ∧ (∀ y0 y1 y2, LeO (examinerlaw08_BitsForms.j1 k y0 y1 y2) (examinerlaw08_BitsForms.j1 (k + 1) y0 y1 y2)) ∧ (∀ y0 y1 y2, LeO (examinerlaw08_BitsForms.j2 k y0 y1 y2) (examinerlaw08_BitsForms.j2 (k + 1) y0 y1 y2))
  | 0 => ⟨fun _ _ _ r h => by simp [examinerlaw08_BitsForms.j0] at h, fun _ _ _ r h => by simp [examinerlaw08_BitsForms.j1] at h, fun _ _ _ r h => by simp [examinerlaw08_BitsForms.j2] at h⟩
  | k + 1 => by
    obtain ⟨ih0, ih1, ih2⟩ := examinerlaw08_BitsForms.mono_l k
    refine ⟨?_, ?_, ?_⟩
    · intro y0 y1 y2
      unfold examinerlaw08_BitsForms.j0
      repeat' first
      | (with_reducible exact ih0 _ _ _)
      | (with_reducible exact ih1 _ _ _)
      | (with_reducible exact ih2 _ _ _)
      | (with_reducible exact bits_LengthIn.mono _ _ _)
      | (with_reducible exact bits_SignedIn.mono _ _)
      | (with_reducible exact bits_UnsignedIn.mono _ _)
      | (with_reducible exact examinerlaw08_awake.mono _)
      | (with_reducible exact examinerref08_LengthAt.mono _ _ _)
      | (with_reducible exact examinerref08_Read64.mono _ _ _)
      | (with_reducible exact examinerref08_SeptetsAt.mono _ _ _)
      | (with_reducible exact LeO.refl _)
      | (with_reducible exact LeO.none _)
      | (with_reducible refine LeO.ite ?_ ?_)
      | (with_reducible refine LeO.bind ?_ (fun _ => ?_))
      | exact ih0 _ _ _
      | exact ih1 _ _ _
      | exact ih2 _ _ _
      | exact bits_LengthIn.mono _ _ _
      | exact bits_SignedIn.mono _ _
      | exact bits_UnsignedIn.mono _ _
      | exact examinerlaw08_awake.mono _
      | exact examinerref08_LengthAt.mono _ _ _
      | exact examinerref08_Read64.mono _ _ _
      | exact examinerref08_SeptetsAt.mono _ _ _
      | exact LeO.none _
      | refine LeO.ite ?_ ?_
      | refine LeO.bind ?_ (fun _ => ?_)
    · intro y0 y1 y2
      unfold examinerlaw08_BitsForms.j1
      repeat' first
      | (with_reducible exact ih0 _ _ _)
      | (with_reducible exact ih1 _ _ _)
      | (with_reducible exact ih2 _ _ _)
      | (with_reducible exact bits_LengthIn.mono _ _ _)
      | (with_reducible exact bits_SignedIn.mono _ _)
      | (with_reducible exact bits_UnsignedIn.mono _ _)
      | (with_reducible exact examinerlaw08_awake.mono _)
      | (with_reducible exact examinerref08_LengthAt.mono _ _ _)
      | (with_reducible exact examinerref08_Read64.mono _ _ _)
      | (with_reducible exact examinerref08_SeptetsAt.mono _ _ _)
      | (with_reducible exact LeO.refl _)
      | (with_reducible exact LeO.none _)
      | (with_reducible refine LeO.ite ?_ ?_)
      | (with_reducible refine LeO.bind ?_ (fun _ => ?_))
      | exact ih0 _ _ _
      | exact ih1 _ _ _
      | exact ih2 _ _ _
      | exact bits_LengthIn.mono _ _ _
      | exact bits_SignedIn.mono _ _
      | exact bits_UnsignedIn.mono _ _
      | exact examinerlaw08_awake.mono _
      | exact examinerref08_LengthAt.mono _ _ _
      | exact examinerref08_Read64.mono _ _ _
      | exact examinerref08_SeptetsAt.mono _ _ _
      | exact LeO.none _
      | refine LeO.ite ?_ ?_
      | refine LeO.bind ?_ (fun _ => ?_)
    · intro y0 y1 y2
      unfold examinerlaw08_BitsForms.j2
      repeat' first
      | (with_reducible exact ih0 _ _ _)
      | (with_reducible exact ih1 _ _ _)
      | (with_reducible exact ih2 _ _ _)
      | (with_reducible exact bits_LengthIn.mono _ _ _)
      | (with_reducible exact bits_SignedIn.mono _ _)
      | (with_reducible exact bits_UnsignedIn.mono _ _)
      | (with_reducible exact examinerlaw08_awake.mono _)
      | (with_reducible exact examinerref08_LengthAt.mono _ _ _)
      | (with_reducible exact examinerref08_Read64.mono _ _ _)
      | (with_reducible exact examinerref08_SeptetsAt.mono _ _ _)
      | (with_reducible exact LeO.refl _)
      | (with_reducible exact LeO.none _)
      | (with_reducible refine LeO.ite ?_ ?_)
      | (with_reducible refine LeO.bind ?_ (fun _ => ?_))
      | exact ih0 _ _ _
      | exact ih1 _ _ _
      | exact ih2 _ _ _
      | exact bits_LengthIn.mono _ _ _
      | exact bits_SignedIn.mono _ _
      | exact bits_UnsignedIn.mono _ _
      | exact examinerlaw08_awake.mono _
      | exact examinerref08_LengthAt.mono _ _ _
      | exact examinerref08_Read64.mono _ _ _
      | exact examinerref08_SeptetsAt.mono _ _ _
      | exact LeO.none _
      | refine LeO.ite ?_ ?_
      | refine LeO.bind ?_ (fun _ => ?_)
theorem examinerlaw08_BitsForms.mono : ∀ a0 a1 k, LeO (examinerlaw08_BitsForms.f k a0 a1) (examinerlaw08_BitsForms.f (k + 1) a0 a1) := by
  intro a0 a1 k
  obtain ⟨ih0, ih1, ih2⟩ := examinerlaw08_BitsForms.mono_l k
  unfold examinerlaw08_BitsForms.f
  repeat' first
      | (with_reducible exact ih0 _ _ _)
      | (with_reducible exact ih1 _ _ _)
      | (with_reducible exact ih2 _ _ _)
      | (with_reducible exact bits_LengthIn.mono _ _ _)
      | (with_reducible exact bits_SignedIn.mono _ _)
      | (with_reducible exact bits_UnsignedIn.mono _ _)
      | (with_reducible exact examinerlaw08_awake.mono _)
      | (with_reducible exact examinerref08_LengthAt.mono _ _ _)
      | (with_reducible exact examinerref08_Read64.mono _ _ _)
      | (with_reducible exact examinerref08_SeptetsAt.mono _ _ _)
      | (with_reducible exact LeO.refl _)
      | (with_reducible exact LeO.none _)
      | (with_reducible refine LeO.ite ?_ ?_)
      | (with_reducible refine LeO.bind ?_ (fun _ => ?_))
      | exact ih0 _ _ _
      | exact ih1 _ _ _
      | exact ih2 _ _ _
      | exact bits_LengthIn.mono _ _ _
      | exact bits_SignedIn.mono _ _
      | exact bits_UnsignedIn.mono _ _
      | exact examinerlaw08_awake.mono _
      | exact examinerref08_LengthAt.mono _ _ _
      | exact examinerref08_Read64.mono _ _ _
      | exact examinerref08_SeptetsAt.mono _ _ _
      | exact LeO.none _
      | refine LeO.ite ?_ ?_
      | refine LeO.bind ?_ (fun _ => ?_)
set_option maxHeartbeats 8000000 in
set_option maxRecDepth 100000 in
theorem examinerlaw08_BitsForms.calls (k : Nat) (a0 : ByteArray) (a1 : Int) (r : Bool) (w : World) (h : examinerlaw08_BitsForms.f k a0 a1 = some r) :
    Calls Tryd.prog 8 #[.string a0, .int .i64 a1] w fun e w' => e = .returned (.bool r) ∧ Below w.heap.size w w' := by
  have HB := Aside0.mk (Below.refl w.heap.size w)
  have H : ((examinerlaw08_awake.f k).bind fun t390 => (if t390 = true then (if (a0.size : Int) > 300 then (if (a0.size : Int) ≤ 4000 then (examinerlaw08_BitsForms.j0 k a0 a1 true) else (examinerlaw08_BitsForms.j0 k a0 a1 (decide ((a0.size : Int) > 4010)))) else (examinerlaw08_BitsForms.j0 k a0 a1 (decide ((a0.size : Int) > 4010)))) else (some false))) = some r := h
  clear h
  replace H := Option.bind_eq_some_iff.mp H
  obtain ⟨t390, A30, H⟩ := H
  replace H : (if t390 = true then (if (a0.size : Int) > 300 then (if (a0.size : Int) ≤ 4000 then (examinerlaw08_BitsForms.j0 k a0 a1 true) else (examinerlaw08_BitsForms.j0 k a0 a1 (decide ((a0.size : Int) > 4010)))) else (examinerlaw08_BitsForms.j0 k a0 a1 (decide ((a0.size : Int) > 4010)))) else (some false)) = some r := H
  have A3 := Aside0.mk A30
  clear A30
  by_cases c4 : t390 = true
  · subst c4
    have H1 : (if (a0.size : Int) > 300 then (if (a0.size : Int) ≤ 4000 then (examinerlaw08_BitsForms.j0 k a0 a1 true) else (examinerlaw08_BitsForms.j0 k a0 a1 (decide ((a0.size : Int) > 4010)))) else (examinerlaw08_BitsForms.j0 k a0 a1 (decide ((a0.size : Int) > 4010)))) = some r := by rw [if_pos rfl] at H; exact H
    clear H
    have H := H1
    clear H1
    have HC5 := Aside0.mk H
    clear H
    go_enter Tryd.func8, Tryd.ntmps8
    go_upto_region 3 with (first | ((with_reducible refine gate_callee (f := 11) rfl ?_); refine goesL_ (some 14) rfl rfl Tryd.func11 (by kernel_rfl) rfl #[] rfl (by (try simp only [List.map_toArray, List.map_cons, List.map_nil]); first | done | rfl | (simp only [List.length_drop, List.length_take]; rfl)) ?_; (with_reducible refine (examinerlaw08_awake.calls k  true _ A3.out).mono ?_); rintro e w6 ⟨rfl, hb⟩; refine ⟨_, rfl, ?_⟩; have n0_ := Aside0.mk (below_step (by repeat (first | (with_reducible first | exact HB.out | apply below_alloc | apply pw_below_drewN | apply below_drew1) | exact HB.out)) hb); clear HB; have HB := n0_; clear n0_; (try clear hb); (try clear hb2); (try clear hk); (try clear hi)))
    (try simp only [Act.put, List.setIfInBounds_toArray, List.set_cons_zero, List.set_cons_succ])
    go_cut [28] (fun v28 wc => ∃ (kq : Nat) (x28_4 : Bool), v28 = .bool x28_4 ∧ Aside0 (examinerlaw08_BitsForms.j0 kq a0 a1 x28_4 = some r) ∧ Aside0 (kq ≤ k) ∧ Aside0 (Below w.heap.size w wc))
    case first =>
      have H := HC5.out
      clear HC5
      by_cases c7 : (a0.size : Int) > 300
      · rw [if_pos c7] at H
        have c7b0 : decide (300 < (a0.size : Int)) = true := decide_eq_true c7
        have c7b1 : decide (300 < a0.size) = true := decide_eq_true (by omega)
        clear c7
        (first | rw [c7b0] | (simp only [i64_w, i32_w]; rw [c7b0]) | skip)
        by_cases c8 : (a0.size : Int) ≤ 4000
        · rw [if_pos c8] at H
          have c8b0 : decide ((a0.size : Int) ≤ 4000) = true := decide_eq_true c8
          have c8b1 : decide (a0.size ≤ 4000) = true := decide_eq_true (by omega)
          clear c8
          have H' := Aside0.mk H
          clear H
          go_wp2
          go_meet
          case rel => exact ⟨_, (true), (by first | rfl | (simp; done) | (simp [*]; done)), H', ⟨by first | omega | exact Nat.le_refl _⟩, ⟨by repeat (first | (with_reducible first | exact HB.out | apply below_alloc | apply pw_below_drewN | apply below_drew1) | exact HB.out)⟩⟩
        · rw [if_neg c8] at H
          have c8b0 : decide ((a0.size : Int) ≤ 4000) = false := decide_eq_false c8
          have c8b1 : decide (a0.size ≤ 4000) = false := decide_eq_false (by omega)
          clear c8
          have H' := Aside0.mk H
          clear H
          go_wp2
          go_meet
          case rel => exact ⟨_, (decide ((a0.size : Int) > 4010)), (by first | rfl | (simp; done) | (simp [*]; done)), H', ⟨by first | omega | exact Nat.le_refl _⟩, ⟨by repeat (first | (with_reducible first | exact HB.out | apply below_alloc | apply pw_below_drewN | apply below_drew1) | exact HB.out)⟩⟩
      · rw [if_neg c7] at H
        have c7b0 : decide (300 < (a0.size : Int)) = false := decide_eq_false c7
        have c7b1 : decide (300 < a0.size) = false := decide_eq_false (by omega)
        clear c7
        (first | rw [c7b0] | (simp only [i64_w, i32_w]; rw [c7b0]) | skip)
        have H' := Aside0.mk H
        clear H
        go_wp2
        go_meet
        case rel => exact ⟨_, (decide ((a0.size : Int) > 4010)), (by first | rfl | (simp; done) | (simp [*]; done)), H', ⟨by first | omega | exact Nat.le_refl _⟩, ⟨by repeat (first | (with_reducible first | exact HB.out | apply below_alloc | apply pw_below_drewN | apply below_drew1) | exact HB.out)⟩⟩
    case rest =>
      clear HC5
      try clear c1
      try clear p2
      try clear c4
      try clear c7
      try clear c7b0
      try clear c7b1
      try clear c8
      try clear c8b0
      try clear c8b1
      obtain ⟨kq, x28_4, rfl, HA, HJ4, HB⟩ := hcut
      cases kq with
      | zero => exact absurd HA.out (by simp [examinerlaw08_BitsForms.j0])
      | succ kj4 =>
        have H := HA.out
        clear HA
        simp only [examinerlaw08_BitsForms.j0] at H
        by_cases c9 : x28_4 = true
        · subst c9
          have H1 : (some true) = some r := by rw [if_pos rfl] at H; exact H
          clear H
          have H := H1
          clear H1
          obtain rfl := Option.some.inj H
          go_wp2
          go_ret
          exact ⟨by first | rfl | (simp [errW_none, errW_some] <;> rfl) | (simp [*, errW_none, errW_some] <;> rfl), by repeat (first | (with_reducible first | exact HB.out | apply below_alloc | apply pw_below_drewN | apply below_drew1) | exact HB.out)⟩
        · replace c9 := Bool.eq_false_iff.mpr c9
          subst c9
          have H1 : ((bits_UnsignedIn.f kj4 a0).bind fun bt391 => ((examinerref08_Read64.f kj4 a0 false).bind fun bt393 => (if bt391.2 = bt393.2 then (examinerlaw08_BitsForms.j1 kj4 a0 a1 (bt391.1 != bt393.1)) else (examinerlaw08_BitsForms.j1 kj4 a0 a1 true)))) = some r := by rw [if_neg (show ¬ (false = true) by decide)] at H; exact H
          clear H
          have H := H1
          clear H1
          replace H := Option.bind_eq_some_iff.mp H
          obtain ⟨⟨t391, t392⟩, A100, H⟩ := H
          replace H : ((examinerref08_Read64.f kj4 a0 false).bind fun bt393 => (if t392 = bt393.2 then (examinerlaw08_BitsForms.j1 kj4 a0 a1 (t391 != bt393.1)) else (examinerlaw08_BitsForms.j1 kj4 a0 a1 true))) = some r := H
          have A10 := Aside0.mk A100
          clear A100
          replace H := Option.bind_eq_some_iff.mp H
          obtain ⟨⟨t393, t394⟩, A110, H⟩ := H
          replace H : (if t392 = t394 then (examinerlaw08_BitsForms.j1 kj4 a0 a1 (t391 != t393)) else (examinerlaw08_BitsForms.j1 kj4 a0 a1 true)) = some r := H
          have A11 := Aside0.mk A110
          clear A110
          have HC12 := Aside0.mk H
          clear H
          go_upto_region 7 with (first | ((with_reducible refine gate_callee (f := 44) rfl ?_); refine goesL_ (some 31) rfl rfl Tryd.func44 (by kernel_rfl) rfl #[.string a0] rfl (by (try simp only [List.map_toArray, List.map_cons, List.map_nil]); first | done | rfl | (simp only [List.length_drop, List.length_take]; rfl)) ?_; (with_reducible refine (bits_UnsignedIn.calls kj4 a0 t391 t392 _ A10.out).mono ?_); rintro e w' ⟨rfl, ⟨nd, rfl⟩⟩; refine ⟨_, rfl, ?_⟩) | ((with_reducible refine gate_callee (f := 46) rfl ?_); refine goesL_ (some 36) rfl rfl Tryd.func46 (by kernel_rfl) rfl #[.string a0, .bool false] rfl (by (try simp only [List.map_toArray, List.map_cons, List.map_nil]); first | done | rfl | (simp only [List.length_drop, List.length_take]; rfl)) ?_; (with_reducible refine (examinerref08_Read64.calls kj4 a0 false t393 t394 _ A11.out).mono ?_); rintro e w' ⟨rfl, ⟨nd, rfl⟩⟩; refine ⟨_, rfl, ?_⟩))
          (try simp only [Act.put, List.setIfInBounds_toArray, List.set_cons_zero, List.set_cons_succ])
          go_cut [46] (fun v46 wc => ∃ (kq : Nat) (x46_11 : Bool), v46 = .bool x46_11 ∧ Aside0 (examinerlaw08_BitsForms.j1 kq a0 a1 x46_11 = some r) ∧ Aside0 (kq ≤ kj4) ∧ Aside0 (Below w.heap.size w wc))
          case first =>
            have H := HC12.out
            clear HC12
            by_cases c13 : t392 = t394
            · rw [if_pos c13] at H
              have c13b0 : (t392 == t394) = true := beq_iff_eq.mpr c13
              have c13b1 : (t392 != t394) = false := bne_eq_false_iff_eq.mpr c13
              clear c13
              (first | rw [c13b0] | (simp only [i64_w, i32_w]; rw [c13b0]) | skip)
              have H' := Aside0.mk H
              clear H
              go_wp2
              go_meet
              case rel => exact ⟨_, ((t391 != t393)), (by first | rfl | (simp; done) | (simp [*]; done)), H', ⟨by have := HJ4.out; first | omega | exact Nat.le_refl _⟩, ⟨by repeat (first | (with_reducible first | exact HB.out | apply below_alloc | apply pw_below_drewN | apply below_drew1) | exact HB.out)⟩⟩
            · rw [if_neg c13] at H
              have c13b0 : (t392 == t394) = false := beq_eq_false_iff_ne.mpr c13
              have c13b1 : (t392 != t394) = true := bne_iff_ne.mpr c13
              (first | rw [c13b0] | (simp only [i64_w, i32_w]; rw [c13b0]) | skip)
              have H' := Aside0.mk H
              clear H
              go_wp2
              go_meet
              case rel => exact ⟨_, (true), (by first | rfl | (simp; done) | (simp [*]; done)), H', ⟨by have := HJ4.out; first | omega | exact Nat.le_refl _⟩, ⟨by repeat (first | (with_reducible first | exact HB.out | apply below_alloc | apply pw_below_drewN | apply below_drew1) | exact HB.out)⟩⟩
          case rest =>
            clear HC12
            try clear c1
            try clear p2
            try clear c4
            try clear c7
            try clear c7b0
            try clear c7b1
            try clear c8
            try clear c8b0
            try clear c8b1
            try clear c9
            try clear c11
            try clear c13
            try clear c13b0
            try clear c13b1
            try clear p2
            obtain ⟨kq, x46_11, rfl, HA, HJ11, HB⟩ := hcut
            cases kq with
            | zero => exact absurd HA.out (by simp [examinerlaw08_BitsForms.j1])
            | succ kj11 =>
              have H := HA.out
              clear HA
              simp only [examinerlaw08_BitsForms.j1] at H
              by_cases c14 : x46_11 = true
              · subst c14
                have H1 : (some false) = some r := by rw [if_pos rfl] at H; exact H
                clear H
                have H := H1
                clear H1
                obtain rfl := Option.some.inj H
                go_wp2
                go_ret
                exact ⟨by first | rfl | (simp [errW_none, errW_some] <;> rfl) | (simp [*, errW_none, errW_some] <;> rfl), by repeat (first | (with_reducible first | exact HB.out | apply below_alloc | apply pw_below_drewN | apply below_drew1) | exact HB.out)⟩
              · replace c14 := Bool.eq_false_iff.mpr c14
                subst c14
                have H1 : ((bits_SignedIn.f kj11 a0).bind fun bt395 => ((examinerref08_Read64.f kj11 a0 true).bind fun bt397 => (if bt395.2 = bt397.2 then (examinerlaw08_BitsForms.j2 kj11 a0 a1 (bt395.1 != bt397.1)) else (examinerlaw08_BitsForms.j2 kj11 a0 a1 true)))) = some r := by rw [if_neg (show ¬ (false = true) by decide)] at H; exact H
                clear H
                have H := H1
                clear H1
                replace H := Option.bind_eq_some_iff.mp H
                obtain ⟨⟨t395, t396⟩, A150, H⟩ := H
                replace H : ((examinerref08_Read64.f kj11 a0 true).bind fun bt397 => (if t396 = bt397.2 then (examinerlaw08_BitsForms.j2 kj11 a0 a1 (t395 != bt397.1)) else (examinerlaw08_BitsForms.j2 kj11 a0 a1 true))) = some r := H
                have A15 := Aside0.mk A150
                clear A150
                replace H := Option.bind_eq_some_iff.mp H
                obtain ⟨⟨t397, t398⟩, A160, H⟩ := H
                replace H : (if t396 = t398 then (examinerlaw08_BitsForms.j2 kj11 a0 a1 (t395 != t397)) else (examinerlaw08_BitsForms.j2 kj11 a0 a1 true)) = some r := H
                have A16 := Aside0.mk A160
                clear A160
                have HC17 := Aside0.mk H
                clear H
                go_upto_region 11 with (first | ((with_reducible refine gate_callee (f := 43) rfl ?_); refine goesL_ (some 49) rfl rfl Tryd.func43 (by kernel_rfl) rfl #[.string a0] rfl (by (try simp only [List.map_toArray, List.map_cons, List.map_nil]); first | done | rfl | (simp only [List.length_drop, List.length_take]; rfl)) ?_; (with_reducible refine (bits_SignedIn.calls kj11 a0 t395 t396 _ A15.out).mono ?_); rintro e w' ⟨rfl, ⟨nd, rfl⟩⟩; refine ⟨_, rfl, ?_⟩) | ((with_reducible refine gate_callee (f := 46) rfl ?_); refine goesL_ (some 54) rfl rfl Tryd.func46 (by kernel_rfl) rfl #[.string a0, .bool true] rfl (by (try simp only [List.map_toArray, List.map_cons, List.map_nil]); first | done | rfl | (simp only [List.length_drop, List.length_take]; rfl)) ?_; (with_reducible refine (examinerref08_Read64.calls kj11 a0 true t397 t398 _ A16.out).mono ?_); rintro e w' ⟨rfl, ⟨nd, rfl⟩⟩; refine ⟨_, rfl, ?_⟩))
                (try simp only [Act.put, List.setIfInBounds_toArray, List.set_cons_zero, List.set_cons_succ])
                go_cut [64] (fun v64 wc => ∃ (kq : Nat) (x64_16 : Bool), v64 = .bool x64_16 ∧ Aside0 (examinerlaw08_BitsForms.j2 kq a0 a1 x64_16 = some r) ∧ Aside0 (kq ≤ kj11) ∧ Aside0 (Below w.heap.size w wc))
                case first =>
                  have H := HC17.out
                  clear HC17
                  by_cases c18 : t396 = t398
                  · rw [if_pos c18] at H
                    have c18b0 : (t396 == t398) = true := beq_iff_eq.mpr c18
                    have c18b1 : (t396 != t398) = false := bne_eq_false_iff_eq.mpr c18
                    clear c18
                    (first | rw [c18b0] | (simp only [i64_w, i32_w]; rw [c18b0]) | skip)
                    have H' := Aside0.mk H
                    clear H
                    go_wp2
                    go_meet
                    case rel => exact ⟨_, ((t395 != t397)), (by first | rfl | (simp; done) | (simp [*]; done)), H', ⟨by have := HJ4.out; have := HJ11.out; first | omega | exact Nat.le_refl _⟩, ⟨by repeat (first | (with_reducible first | exact HB.out | apply below_alloc | apply pw_below_drewN | apply below_drew1) | exact HB.out)⟩⟩
                  · rw [if_neg c18] at H
                    have c18b0 : (t396 == t398) = false := beq_eq_false_iff_ne.mpr c18
                    have c18b1 : (t396 != t398) = true := bne_iff_ne.mpr c18
                    (first | rw [c18b0] | (simp only [i64_w, i32_w]; rw [c18b0]) | skip)
                    have H' := Aside0.mk H
                    clear H
                    go_wp2
                    go_meet
                    case rel => exact ⟨_, (true), (by first | rfl | (simp; done) | (simp [*]; done)), H', ⟨by have := HJ4.out; have := HJ11.out; first | omega | exact Nat.le_refl _⟩, ⟨by repeat (first | (with_reducible first | exact HB.out | apply below_alloc | apply pw_below_drewN | apply below_drew1) | exact HB.out)⟩⟩
                case rest =>
                  clear HC17
                  try clear c1
                  try clear p2
                  try clear c4
                  try clear c7
                  try clear c7b0
                  try clear c7b1
                  try clear c8
                  try clear c8b0
                  try clear c8b1
                  try clear c9
                  try clear c11
                  try clear c13
                  try clear c13b0
                  try clear c13b1
                  try clear c14
                  try clear c18
                  try clear c18b0
                  try clear c18b1
                  try clear p2
                  obtain ⟨kq, x64_16, rfl, HA, HJ16, HB⟩ := hcut
                  cases kq with
                  | zero => exact absurd HA.out (by simp [examinerlaw08_BitsForms.j2])
                  | succ kj16 =>
                    have H := HA.out
                    clear HA
                    simp only [examinerlaw08_BitsForms.j2] at H
                    by_cases c19 : x64_16 = true
                    · subst c19
                      have H1 : (some false) = some r := by rw [if_pos rfl] at H; exact H
                      clear H
                      have H := H1
                      clear H1
                      obtain rfl := Option.some.inj H
                      go_wp2
                      go_ret
                      exact ⟨by first | rfl | (simp [errW_none, errW_some] <;> rfl) | (simp [*, errW_none, errW_some] <;> rfl), by repeat (first | (with_reducible first | exact HB.out | apply below_alloc | apply pw_below_drewN | apply below_drew1) | exact HB.out)⟩
                    · replace c19 := Bool.eq_false_iff.mpr c19
                      subst c19
                      have H1 : ((bits_SeptetsIn.f a0 a1).bind fun bt399 => ((examinerref08_SeptetsAt.f kj16 a0 a1).bind fun bt402 => ((examinerlaw08_answers.f bt399.1 bt399.2.1 bt399.2.2 bt402.1 bt402.2.1 bt402.2.2).bind fun t405 => (if t405 = true then ((bits_LengthIn.f kj16 a0 a1).bind fun bt406 => ((examinerref08_LengthAt.f kj16 a0 a1).bind fun bt409 => ((examinerlaw08_answers.f bt406.1 bt406.2.1 bt406.2.2 bt409.1 bt409.2.1 bt409.2.2).bind fun t412 => (some t412)))) else (some false))))) = some r := by rw [if_neg (show ¬ (false = true) by decide)] at H; exact H
                      clear H
                      have H := H1
                      clear H1
                      replace H := Option.bind_eq_some_iff.mp H
                      obtain ⟨⟨t399, t400, t401⟩, A200, H⟩ := H
                      replace H : ((examinerref08_SeptetsAt.f kj16 a0 a1).bind fun bt402 => ((examinerlaw08_answers.f t399 t400 t401 bt402.1 bt402.2.1 bt402.2.2).bind fun t405 => (if t405 = true then ((bits_LengthIn.f kj16 a0 a1).bind fun bt406 => ((examinerref08_LengthAt.f kj16 a0 a1).bind fun bt409 => ((examinerlaw08_answers.f bt406.1 bt406.2.1 bt406.2.2 bt409.1 bt409.2.1 bt409.2.2).bind fun t412 => (some t412)))) else (some false)))) = some r := H
                      have A20 := Aside0.mk A200
                      clear A200
                      replace H := Option.bind_eq_some_iff.mp H
                      obtain ⟨⟨t402, t403, t404⟩, A210, H⟩ := H
                      replace H : ((examinerlaw08_answers.f t399 t400 t401 t402 t403 t404).bind fun t405 => (if t405 = true then ((bits_LengthIn.f kj16 a0 a1).bind fun bt406 => ((examinerref08_LengthAt.f kj16 a0 a1).bind fun bt409 => ((examinerlaw08_answers.f bt406.1 bt406.2.1 bt406.2.2 bt409.1 bt409.2.1 bt409.2.2).bind fun t412 => (some t412)))) else (some false))) = some r := H
                      have A21 := Aside0.mk A210
                      clear A210
                      replace H := Option.bind_eq_some_iff.mp H
                      obtain ⟨t405, A220, H⟩ := H
                      replace H : (if t405 = true then ((bits_LengthIn.f kj16 a0 a1).bind fun bt406 => ((examinerref08_LengthAt.f kj16 a0 a1).bind fun bt409 => ((examinerlaw08_answers.f bt406.1 bt406.2.1 bt406.2.2 bt409.1 bt409.2.1 bt409.2.2).bind fun t412 => (some t412)))) else (some false)) = some r := H
                      have A22 := Aside0.mk A220
                      clear A220
                      by_cases c23 : t405 = true
                      · subst c23
                        have H1 : ((bits_LengthIn.f kj16 a0 a1).bind fun bt406 => ((examinerref08_LengthAt.f kj16 a0 a1).bind fun bt409 => ((examinerlaw08_answers.f bt406.1 bt406.2.1 bt406.2.2 bt409.1 bt409.2.1 bt409.2.2).bind fun t412 => (some t412)))) = some r := by rw [if_pos rfl] at H; exact H
                        clear H
                        have H := H1
                        clear H1
                        replace H := Option.bind_eq_some_iff.mp H
                        obtain ⟨⟨t406, t407, t408⟩, A240, H⟩ := H
                        replace H : ((examinerref08_LengthAt.f kj16 a0 a1).bind fun bt409 => ((examinerlaw08_answers.f t406 t407 t408 bt409.1 bt409.2.1 bt409.2.2).bind fun t412 => (some t412))) = some r := H
                        have A24 := Aside0.mk A240
                        clear A240
                        replace H := Option.bind_eq_some_iff.mp H
                        obtain ⟨⟨t409, t410, t411⟩, A250, H⟩ := H
                        replace H : ((examinerlaw08_answers.f t406 t407 t408 t409 t410 t411).bind fun t412 => (some t412)) = some r := H
                        have A25 := Aside0.mk A250
                        clear A250
                        replace H := Option.bind_eq_some_iff.mp H
                        obtain ⟨t412, A260, H⟩ := H
                        replace H : (some t412) = some r := H
                        have A26 := Aside0.mk A260
                        clear A260
                        obtain rfl := Option.some.inj H
                        go_wp2_with (first | ((with_reducible refine gate_callee (f := 47) rfl ?_); refine goesL_ (some 68) rfl rfl Tryd.func47 (by kernel_rfl) rfl #[.string a0, .int .i64 a1] rfl (by (try simp only [List.map_toArray, List.map_cons, List.map_nil]); first | done | rfl | (simp only [List.length_drop, List.length_take]; rfl)) ?_; (with_reducible refine (bits_SeptetsIn.calls a0 a1 t399 t400 t401 _ A20.out).mono ?_); rintro e w27 ⟨rfl, hb⟩; refine ⟨_, rfl, ?_⟩; have n0_ := Aside0.mk (below_step (by repeat (first | (with_reducible first | exact HB.out | apply below_alloc | apply pw_below_drewN | apply below_drew1) | exact HB.out)) hb); clear HB; have HB := n0_; clear n0_; (try clear hb); (try clear hb2); (try clear hk); (try clear hi)) | ((with_reducible refine gate_callee (f := 48) rfl ?_); refine goesL_ (some 77) rfl rfl Tryd.func48 (by kernel_rfl) rfl #[.string a0, .int .i64 a1] rfl (by (try simp only [List.map_toArray, List.map_cons, List.map_nil]); first | done | rfl | (simp only [List.length_drop, List.length_take]; rfl)) ?_; (with_reducible refine (examinerref08_SeptetsAt.calls kj16 a0 a1 t402 t403 t404 _ A21.out).mono ?_); rintro e w28 ⟨rfl, hb⟩; refine ⟨_, rfl, ?_⟩; have n0_ := Aside0.mk (below_step (by repeat (first | (with_reducible first | exact HB.out | apply below_alloc | apply pw_below_drewN | apply below_drew1) | exact HB.out)) hb); clear HB; have HB := n0_; clear n0_; (try clear hb); (try clear hb2); (try clear hk); (try clear hi)) | ((with_reducible refine gate_callee (f := 26) rfl ?_); refine goesL_ (some 78) rfl rfl Tryd.func26 (by kernel_rfl) rfl #[.int .i64 t399, .int .i64 t400, .int .i64 t401, .agg #[.int .i64 t402, .int .i64 t403, .int .i64 t404]] rfl (by (try simp only [List.map_toArray, List.map_cons, List.map_nil]); first | done | rfl | (simp only [List.length_drop, List.length_take]; rfl)) ?_; (with_reducible refine (examinerlaw08_answers.calls t399 t400 t401 t402 t403 t404 true _ A22.out).mono ?_); rintro e w29 ⟨rfl, hb⟩; refine ⟨_, rfl, ?_⟩; have n0_ := Aside0.mk (below_step (by repeat (first | (with_reducible first | exact HB.out | apply below_alloc | apply pw_below_drewN | apply below_drew1) | exact HB.out)) hb); clear HB; have HB := n0_; clear n0_; (try clear hb); (try clear hb2); (try clear hk); (try clear hi)) | ((with_reducible refine gate_callee (f := 49) rfl ?_); refine goesL_ (some 83) rfl rfl Tryd.func49 (by kernel_rfl) rfl #[.string a0, .int .i64 a1] rfl (by (try simp only [List.map_toArray, List.map_cons, List.map_nil]); first | done | rfl | (simp only [List.length_drop, List.length_take]; rfl)) ?_; (with_reducible refine (bits_LengthIn.calls kj16 a0 a1 t406 t407 t408 _ A24.out).mono ?_); rintro e w' ⟨rfl, ⟨nd, rfl⟩⟩; refine ⟨_, rfl, ?_⟩) | ((with_reducible refine gate_callee (f := 50) rfl ?_); refine goesL_ (some 92) rfl rfl Tryd.func50 (by kernel_rfl) rfl #[.string a0, .int .i64 a1] rfl (by (try simp only [List.map_toArray, List.map_cons, List.map_nil]); first | done | rfl | (simp only [List.length_drop, List.length_take]; rfl)) ?_; (with_reducible refine (examinerref08_LengthAt.calls kj16 a0 a1 t409 t410 t411 _ A25.out).mono ?_); rintro e w30 ⟨rfl, hb⟩; refine ⟨_, rfl, ?_⟩; have n0_ := Aside0.mk (below_step (by repeat (first | (with_reducible first | exact HB.out | apply below_alloc | apply pw_below_drewN | apply below_drew1) | exact HB.out)) hb); clear HB; have HB := n0_; clear n0_; (try clear hb); (try clear hb2); (try clear hk); (try clear hi)) | ((with_reducible refine gate_callee (f := 26) rfl ?_); refine goesL_ (some 93) rfl rfl Tryd.func26 (by kernel_rfl) rfl #[.int .i64 t406, .int .i64 t407, .int .i64 t408, .agg #[.int .i64 t409, .int .i64 t410, .int .i64 t411]] rfl (by (try simp only [List.map_toArray, List.map_cons, List.map_nil]); first | done | rfl | (simp only [List.length_drop, List.length_take]; rfl)) ?_; (with_reducible refine (examinerlaw08_answers.calls t406 t407 t408 t409 t410 t411 t412 _ A26.out).mono ?_); rintro e w31 ⟨rfl, hb⟩; refine ⟨_, rfl, ?_⟩; have n0_ := Aside0.mk (below_step (by repeat (first | (with_reducible first | exact HB.out | apply below_alloc | apply pw_below_drewN | apply below_drew1) | exact HB.out)) hb); clear HB; have HB := n0_; clear n0_; (try clear hb); (try clear hb2); (try clear hk); (try clear hi)))
                        go_ret
                        exact ⟨by first | rfl | (simp [errW_none, errW_some] <;> rfl) | (simp [*, errW_none, errW_some] <;> rfl), by repeat (first | (with_reducible first | exact HB.out | apply below_alloc | apply pw_below_drewN | apply below_drew1) | exact HB.out)⟩
                      · replace c23 := Bool.eq_false_iff.mpr c23
                        subst c23
                        have H1 : (some false) = some r := by rw [if_neg (show ¬ (false = true) by decide)] at H; exact H
                        clear H
                        have H := H1
                        clear H1
                        obtain rfl := Option.some.inj H
                        go_wp2_with (first | ((with_reducible refine gate_callee (f := 47) rfl ?_); refine goesL_ (some 68) rfl rfl Tryd.func47 (by kernel_rfl) rfl #[.string a0, .int .i64 a1] rfl (by (try simp only [List.map_toArray, List.map_cons, List.map_nil]); first | done | rfl | (simp only [List.length_drop, List.length_take]; rfl)) ?_; (with_reducible refine (bits_SeptetsIn.calls a0 a1 t399 t400 t401 _ A20.out).mono ?_); rintro e w32 ⟨rfl, hb⟩; refine ⟨_, rfl, ?_⟩; have n0_ := Aside0.mk (below_step (by repeat (first | (with_reducible first | exact HB.out | apply below_alloc | apply pw_below_drewN | apply below_drew1) | exact HB.out)) hb); clear HB; have HB := n0_; clear n0_; (try clear hb); (try clear hb2); (try clear hk); (try clear hi)) | ((with_reducible refine gate_callee (f := 48) rfl ?_); refine goesL_ (some 77) rfl rfl Tryd.func48 (by kernel_rfl) rfl #[.string a0, .int .i64 a1] rfl (by (try simp only [List.map_toArray, List.map_cons, List.map_nil]); first | done | rfl | (simp only [List.length_drop, List.length_take]; rfl)) ?_; (with_reducible refine (examinerref08_SeptetsAt.calls kj16 a0 a1 t402 t403 t404 _ A21.out).mono ?_); rintro e w33 ⟨rfl, hb⟩; refine ⟨_, rfl, ?_⟩; have n0_ := Aside0.mk (below_step (by repeat (first | (with_reducible first | exact HB.out | apply below_alloc | apply pw_below_drewN | apply below_drew1) | exact HB.out)) hb); clear HB; have HB := n0_; clear n0_; (try clear hb); (try clear hb2); (try clear hk); (try clear hi)) | ((with_reducible refine gate_callee (f := 26) rfl ?_); refine goesL_ (some 78) rfl rfl Tryd.func26 (by kernel_rfl) rfl #[.int .i64 t399, .int .i64 t400, .int .i64 t401, .agg #[.int .i64 t402, .int .i64 t403, .int .i64 t404]] rfl (by (try simp only [List.map_toArray, List.map_cons, List.map_nil]); first | done | rfl | (simp only [List.length_drop, List.length_take]; rfl)) ?_; (with_reducible refine (examinerlaw08_answers.calls t399 t400 t401 t402 t403 t404 false _ A22.out).mono ?_); rintro e w34 ⟨rfl, hb⟩; refine ⟨_, rfl, ?_⟩; have n0_ := Aside0.mk (below_step (by repeat (first | (with_reducible first | exact HB.out | apply below_alloc | apply pw_below_drewN | apply below_drew1) | exact HB.out)) hb); clear HB; have HB := n0_; clear n0_; (try clear hb); (try clear hb2); (try clear hk); (try clear hi)))
                        go_ret
                        exact ⟨by first | rfl | (simp [errW_none, errW_some] <;> rfl) | (simp [*, errW_none, errW_some] <;> rfl), by repeat (first | (with_reducible first | exact HB.out | apply below_alloc | apply pw_below_drewN | apply below_drew1) | exact HB.out)⟩
  · replace c4 := Bool.eq_false_iff.mpr c4
    subst c4
    have H1 : (some false) = some r := by rw [if_neg (show ¬ (false = true) by decide)] at H; exact H
    clear H
    have H := H1
    clear H1
    obtain rfl := Option.some.inj H
    go_enter Tryd.func8, Tryd.ntmps8
    go_wp2_with (first | ((with_reducible refine gate_callee (f := 11) rfl ?_); refine goesL_ (some 14) rfl rfl Tryd.func11 (by kernel_rfl) rfl #[] rfl (by (try simp only [List.map_toArray, List.map_cons, List.map_nil]); first | done | rfl | (simp only [List.length_drop, List.length_take]; rfl)) ?_; (with_reducible refine (examinerlaw08_awake.calls k  false _ A3.out).mono ?_); rintro e w35 ⟨rfl, hb⟩; refine ⟨_, rfl, ?_⟩; have n0_ := Aside0.mk (below_step (by repeat (first | (with_reducible first | exact HB.out | apply below_alloc | apply pw_below_drewN | apply below_drew1) | exact HB.out)) hb); clear HB; have HB := n0_; clear n0_; (try clear hb); (try clear hb2); (try clear hk); (try clear hi)))
    go_ret
    exact ⟨by first | rfl | (simp [errW_none, errW_some] <;> rfl) | (simp [*, errW_none, errW_some] <;> rfl), by repeat (first | (with_reducible first | exact HB.out | apply below_alloc | apply pw_below_drewN | apply below_drew1) | exact HB.out)⟩

/-- THE ONE PURE STATEMENT of examinerlaw08_BitsForms: yours. -/
def examinerlaw08_BitsForms.Pure : Prop := ∀ (a0 : ByteArray) (a1 : Int), a0.size ≤ 140737488351232 → (Lit.int .i64 a1).wf = true → ∃ k, examinerlaw08_BitsForms.f k a0 a1 = some true
theorem examinerlaw08_BitsForms.walk (P : examinerlaw08_BitsForms.Pure) (a0 : ByteArray) (a1 : Int) (w : World) (w0 : a0.size ≤ 140737488351232) (w1 : (Lit.int .i64 a1).wf = true) :
    Calls Tryd.prog 8 #[.string a0, .int .i64 a1] w fun e w' => e = .returned (.bool true) ∧ Below w.heap.size w w' := by
  obtain ⟨k, h⟩ := P a0 a1 w0 w1
  refine (examinerlaw08_BitsForms.calls k a0 a1 true w h).mono ?_
  rintro e w' ⟨rfl, hd⟩
  exact ⟨rfl, hd⟩

end Go.Proofs.YthicmbhldjebfaaDoor.PA
