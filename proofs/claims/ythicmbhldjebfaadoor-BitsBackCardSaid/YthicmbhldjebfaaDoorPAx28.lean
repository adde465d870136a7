-- Laid by pp.py (a program of this session, over the kit's printer) out of the translation. Not trusted: Lean checks it.
import Derived.Test.YthicmbhldjebfaaDoorPAx0
import Derived.Test.YthicmbhldjebfaaDoorPAx5
import Derived.Test.YthicmbhldjebfaaDoorPAx6
import Derived.Test.YthicmbhldjebfaaDoorPAx7
import Derived.Test.YthicmbhldjebfaaDoorPAx9
import Derived.Test.YthicmbhldjebfaaDoorPAx10
import Derived.Test.YthicmbhldjebfaaDoorPAx17
import Derived.Test.YthicmbhldjebfaaDoorPAx18
import Derived.Test.YthicmbhldjebfaaDoorPAx20
import Derived.Test.YthicmbhldjebfaaDoorPAx25
import Derived.Test.YthicmbhldjebfaaDoorPAx27
import Derived.Test.YthicmbhldjebfaaDoorHF
import Derived.Test.YthicmbhldjebfaaDoorHG
import Derived.Test.YthicmbhldjebfaaDoorHK
namespace Go.Proofs.YthicmbhldjebfaaDoor.PA
open Go.RowKit Go.Proofs.YthicmbhldjebfaaDoorW.PrintWords Go.Proofs.YthicmbhldjebfaaDoorW.PrintLast Go.Proofs.YthicmbhldjebfaaDoorW.PrintMore
attribute [local go_sem] max2_int min2_int max_two min_two max_three min_three max_four min_four   -- for this text's walks alone
set_option linter.unusedVariables false
set_option linter.unusedSimpArgs false

/-! ### examinerlaw08_BitsBack: function 10 -/
mutual
def examinerlaw08_BitsBack.j0 : Nat → List (S66) → Int → ByteArray → Bool → Option (Bool)
  | 0, _, _, _, _ => none
  | k + 1, x0, x1, x2, x47 => if x47 = true then (some true) else ((examinerref08_OwnFields.f x0).bind fun t487 => ((bits_WriteFields.f k t487).bind fun bt490 => (if bt490.2 = 0 then (examinerlaw08_BitsBack.j1 k x0 x1 x2 bt490.1 (decide ((wrap64 ((bt490.1.size : Int) + (wrap64 (8 * (x2.size : Int))))) ≤ 32000))) else (examinerlaw08_BitsBack.j1 k x0 x1 x2 bt490.1 false))))
def examinerlaw08_BitsBack.j1 : Nat → List (S66) → Int → ByteArray → ByteArray → Bool → Option (Bool)
  | 0, _, _, _, _, _ => none
  | k + 1, x0, x1, x2, x7, x64 => if x64 = true then ((bits_UnpackBits.f x2).bind fun bt492 => (if x7.size + bt492.1.size ≤ 9223372036854775807 then ((examinerref08_OwnFields.f x0).bind fun t494 => ((bits_ReadFields.f k (x7 ++ bt492.1) t494).bind fun bt497 => (if bt492.2 = 0 then (if bt497.2.2 = 0 then (if bt497.2.1 = (x7.size : Int) then ((examinerref08_SameFields.f k bt497.1 x0).bind fun t502 => (if t502 = true then (examinerlaw08_BitsBack.j2 k x1 x2) else (some false))) else (some false)) else (some false)) else (some false)))) else (none))) else (examinerlaw08_BitsBack.j2 k x1 x2)
def examinerlaw08_BitsBack.j2 : Nat → Int → ByteArray → Option (Bool)
  | 0, _, _ => none
  | k + 1, x1, x2 => (bits_SignedOf.f k x1).bind fun bt503 => (if bt503.2 = 0 then ((bits_SignedIn.f k bt503.1).bind fun bt505 => (if bt505.2 = 0 then (if bt505.1 = x1 then (examinerlaw08_BitsBack.j3 k x1 x2) else (some false)) else (some false))) else (examinerlaw08_BitsBack.j3 k x1 x2))
def examinerlaw08_BitsBack.j3 : Nat → Int → ByteArray → Option (Bool)
  | 0, _, _ => none
  | k + 1, x1, x2 => (bits_UnsignedOf.f x1).bind fun bt507 => (if bt507.2 = 0 then ((bits_UnsignedIn.f k bt507.1).bind fun bt509 => (if bt509.2 = 0 then (if bt509.1 = x1 then (examinerlaw08_BitsBack.j4 k x1 x2) else (some false)) else (some false))) else (examinerlaw08_BitsBack.j4 k x1 x2))
def examinerlaw08_BitsBack.j4 : Nat → Int → ByteArray → Option (Bool)
  | 0, _, _ => none
  | k + 1, x1, x2 => (bits_SeptetsOf.f k x1).bind fun bt511 => (if bt511.2 = 0 then (if x2.size + bt511.1.size ≤ 9223372036854775807 then (if (x2 ++ bt511.1).size + x2.size ≤ 9223372036854775807 then ((bits_SeptetsIn.f ((x2 ++ bt511.1) ++ x2) (x2.size : Int)).bind fun bt513 => (if bt513.2.2 = 0 then (if bt513.1 = x1 then (if bt513.2.1 = (wrap64 ((x2.size : Int) + (bt511.1.size : Int))) then (examinerlaw08_BitsBack.j5 k x1 x2) else (some false)) else (some false)) else (some false))) else (none)) else (none)) else (examinerlaw08_BitsBack.j5 k x1 x2))
def examinerlaw08_BitsBack.j5 : Nat → Int → ByteArray → Option (Bool)
  | 0, _, _ => none
  | k + 1, x1, x2 => examinerlaw08_BitsBack.l0 k x1 x2 0
def examinerlaw08_BitsBack.l0 : Nat → Int → ByteArray → Int → Option (Bool)
  | 0, _, _, _ => none
  | k + 1, x1, x2, x27 => if x27 ≤ 3 then ((bits_LengthOf.f k x1 x27).bind fun bt521 => (if bt521.2 = 0 then (if x2.size + bt521.1.size ≤ 9223372036854775807 then (if (x2 ++ bt521.1).size + x2.size ≤ 9223372036854775807 then ((bits_LengthIn.f k ((x2 ++ bt521.1) ++ x2) (x2.size : Int)).bind fun bt523 => (if bt523.2.2 = 0 then (if bt523.1 = x1 then (if bt523.2.1 = (wrap64 ((x2.size : Int) + (bt521.1.size : Int))) then (examinerlaw08_BitsBack.l0 k x1 x2 (wrap64 (x27 + 1))) else (some false)) else (some false)) else (some false))) else (none)) else (none)) else (examinerlaw08_BitsBack.l0 k x1 x2 (wrap64 (x27 + 1))))) else ((bits_FragmentOf.f x1).bind fun bt516 => ((bits_FragmentIn.f bt516.1 0).bind fun bt518 => (if bt516.2 = 0 then (if bt518.2.2 = 0 then (if bt518.1 = x1 then (some (bt518.2.1 == (bt516.1.size : Int))) else (some false)) else (some false)) else (some true))))
end
def examinerlaw08_BitsBack.f (k : Nat) (l0 : List (S66)) (a1 : Int) (a2 : ByteArray) : Option (Bool) := (examinerlaw08_awake.f k).bind fun t485 => (if t485 = true then ((examinerlaw08_few.f k l0).bind fun t486 => (if t486 = true then (examinerlaw08_BitsBack.j0 k l0 a1 a2 (decide ((a2.size : Int) > 50))) else (examinerlaw08_BitsBack.j0 k l0 a1 a2 true))) else (some false))
set_option maxHeartbeats 8000000 in
set_option maxRecDepth 100000 in
theorem examinerlaw08_BitsBack.calls (k : Nat) (A0 : Option Addr) (c0 : Nat) (l0 : List (S66)) (a1 : Int) (a2 : ByteArray) (r : Bool) (w : World) (hr0 : Kd.C k66 w A0 l0.length l0) (hc0 : l0.length ≤ c0) (h : examinerlaw08_BitsBack.f k l0 a1 a2 = some r) :
    Calls Tryd.prog 10 #[.slice A0 l0.length c0, .int .i64 a1, .string a2] w fun e w' => e = .returned (.bool r) ∧ Below w.heap.size w w' := by
  have HR0 := Aside0.mk hr0
  have HC0 := Aside0.mk hc0
  clear hr0 hc0
  have HB := Aside0.mk (Below.refl w.heap.size w)
  have H : ((examinerlaw08_awake.f k).bind fun t485 => (if t485 = true then ((examinerlaw08_few.f k l0).bind fun t486 => (if t486 = true then (examinerlaw08_BitsBack.j0 k l0 a1 a2 (decide ((a2.size : Int) > 50))) else (examinerlaw08_BitsBack.j0 k l0 a1 a2 true))) else (some false))) = some r := h
  clear h
  replace H := Option.bind_eq_some_iff.mp H
  obtain ⟨t485, A40, H⟩ := H
  replace H : (if t485 = true then ((examinerlaw08_few.f k l0).bind fun t486 => (if t486 = true then (examinerlaw08_BitsBack.j0 k l0 a1 a2 (decide ((a2.size : Int) > 50))) else (examinerlaw08_BitsBack.j0 k l0 a1 a2 true))) else (some false)) = some r := H
  have A4 := Aside0.mk A40
  clear A40
  by_cases c5 : t485 = true
  · subst c5
    have H1 : ((examinerlaw08_few.f k l0).bind fun t486 => (if t486 = true then (examinerlaw08_BitsBack.j0 k l0 a1 a2 (decide ((a2.size : Int) > 50))) else (examinerlaw08_BitsBack.j0 k l0 a1 a2 true))) = some r := by rw [if_pos rfl] at H; exact H
    clear H
    have H := H1
    clear H1
    have HC6 := Aside0.mk H
    clear H
    go_enter Tryd.func10, Tryd.ntmps10
    go_upto_region 3 with (first | ((with_reducible refine gate_callee (f := 11) rfl ?_); refine goesL_ (some 38) rfl rfl Tryd.func11 (by kernel_rfl) rfl #[] rfl (by (try simp only [List.map_toArray, List.map_cons, List.map_nil]); first | done | rfl | (simp only [List.length_drop, List.length_take]; rfl)) ?_; (with_reducible refine (examinerlaw08_awake.calls k  true _ A4.out).mono ?_); rintro e w7 ⟨rfl, hb⟩; refine ⟨_, rfl, ?_⟩; have n0_ := Aside0.mk (below_step (by repeat (first | (with_reducible first | exact HB.out | apply below_alloc | apply pw_below_drewN | apply below_drew1) | exact HB.out)) hb); clear HB; have HB := n0_; clear n0_; (try clear hb); (try clear hb2); (try clear hk); (try clear hi)))
    (try simp only [Act.put, List.setIfInBounds_toArray, List.set_cons_zero, List.set_cons_succ])
    go_cut [47] (fun v47 wc => ∃ (kq : Nat) (x47_5 : Bool), v47 = .bool x47_5 ∧ Aside0 (examinerlaw08_BitsBack.j0 kq l0 a1 a2 x47_5 = some r) ∧ Aside0 (kq ≤ k) ∧ Aside0 (Below w.heap.size w wc))
    case first =>
      have H := HC6.out
      clear HC6
      replace H := Option.bind_eq_some_iff.mp H
      obtain ⟨t486, A80, H⟩ := H
      replace H : (if t486 = true then (examinerlaw08_BitsBack.j0 k l0 a1 a2 (decide ((a2.size : Int) > 50))) else (examinerlaw08_BitsBack.j0 k l0 a1 a2 true)) = some r := H
      have A8 := Aside0.mk A80
      clear A80
      by_cases c9 : t486 = true
      · subst c9
        have H1 : (examinerlaw08_BitsBack.j0 k l0 a1 a2 (decide ((a2.size : Int) > 50))) = some r := by rw [if_pos rfl] at H; exact H
        clear H
        have H := H1
        clear H1
        have H' := Aside0.mk H
        clear H
        go_wp2_with (first | ((with_reducible refine gate_callee (f := 12) rfl ?_); refine goesL_ (some 41) rfl rfl Tryd.func12 (by kernel_rfl) rfl #[.slice A0 l0.length c0] rfl (by (try simp only [List.map_toArray, List.map_cons, List.map_nil]); first | done | rfl | (simp only [List.length_drop, List.length_take]; rfl)) ?_; (with_reducible refine (examinerlaw08_few.calls k _ _ l0 true _ ?side1 ?side2 A8.out).mono ?_); (case side1 => repeat (first | exact (Kd.C_below HR0.out HB.out) | (with_reducible refine Kd.C_alloc ?_ _) | (with_reducible refine Kd.C_drewN ?_ _) | (with_reducible refine Kd.C_drew ?_))); (case side2 => exact HC0.out); rintro e w' ⟨rfl, ⟨nd, rfl⟩⟩; refine ⟨_, rfl, ?_⟩))
        go_meet
        case rel => exact ⟨_, (decide ((a2.size : Int) > 50)), (by first | rfl | (simp; done) | (simp [*]; done)), H', ⟨by first | omega | exact Nat.le_refl _⟩, ⟨by repeat (first | (with_reducible first | exact HB.out | apply below_alloc | apply pw_below_drewN | apply below_drew1) | exact HB.out)⟩⟩
      · replace c9 := Bool.eq_false_iff.mpr c9
        subst c9
        have H1 : (examinerlaw08_BitsBack.j0 k l0 a1 a2 true) = some r := by rw [if_neg (show ¬ (false = true) by decide)] at H; exact H
        clear H
        have H := H1
        clear H1
        have H' := Aside0.mk H
        clear H
        go_wp2_with (first | ((with_reducible refine gate_callee (f := 12) rfl ?_); refine goesL_ (some 41) rfl rfl Tryd.func12 (by kernel_rfl) rfl #[.slice A0 l0.length c0] rfl (by (try simp only [List.map_toArray, List.map_cons, List.map_nil]); first | done | rfl | (simp only [List.length_drop, List.length_take]; rfl)) ?_; (with_reducible refine (examinerlaw08_few.calls k _ _ l0 false _ ?side1 ?side2 A8.out).mono ?_); (case side1 => repeat (first | exact (Kd.C_below HR0.out HB.out) | (with_reducible refine Kd.C_alloc ?_ _) | (with_reducible refine Kd.C_drewN ?_ _) | (with_reducible refine Kd.C_drew ?_))); (case side2 => exact HC0.out); rintro e w' ⟨rfl, ⟨nd, rfl⟩⟩; refine ⟨_, rfl, ?_⟩))
        go_meet
        case rel => exact ⟨_, (true), (by first | rfl | (simp; done) | (simp [*]; done)), H', ⟨by first | omega | exact Nat.le_refl _⟩, ⟨by repeat (first | (with_reducible first | exact HB.out | apply below_alloc | apply pw_below_drewN | apply below_drew1) | exact HB.out)⟩⟩
    case rest =>
      as_aux_lemma =>
        clear HC6
        try clear c1
        try clear p2
        try clear c5
        try clear c9
        obtain ⟨kq, x47_5, rfl, HA, HJ5, HB⟩ := hcut
        cases kq with
        | zero => exact absurd HA.out (by simp [examinerlaw08_BitsBack.j0])
        | succ kj5 =>
          have H := HA.out
          clear HA
          simp only [examinerlaw08_BitsBack.j0] at H
          by_cases c10 : x47_5 = true
          · subst c10
            have H1 : (some true) = some r := by rw [if_pos rfl] at H; exact H
            clear H
            have H := H1
            clear H1
            obtain rfl := Option.some.inj H
            go_wp2
            go_ret
            exact ⟨by first | rfl | (simp [errW_none, errW_some] <;> rfl) | (simp [*, errW_none, errW_some] <;> rfl), by repeat (first | (with_reducible first | exact HB.out | apply below_alloc | apply pw_below_drewN | apply below_drew1) | exact HB.out)⟩
          · replace c10 := Bool.eq_false_iff.mpr c10
            subst c10
            have H1 : ((examinerref08_OwnFields.f l0).bind fun t487 => ((bits_WriteFields.f kj5 t487).bind fun bt490 => (if bt490.2 = 0 then (examinerlaw08_BitsBack.j1 kj5 l0 a1 a2 bt490.1 (decide ((wrap64 ((bt490.1.size : Int) + (wrap64 (8 * (a2.size : Int))))) ≤ 32000))) else (examinerlaw08_BitsBack.j1 kj5 l0 a1 a2 bt490.1 false)))) = some r := by rw [if_neg (show ¬ (false = true) by decide)] at H; exact H
            clear H
            have H := H1
            clear H1
            replace H := Option.bind_eq_some_iff.mp H
            obtain ⟨t487, A110, H⟩ := H
            replace H : ((bits_WriteFields.f kj5 t487).bind fun bt490 => (if bt490.2 = 0 then (examinerlaw08_BitsBack.j1 kj5 l0 a1 a2 bt490.1 (decide ((wrap64 ((bt490.1.size : Int) + (wrap64 (8 * (a2.size : Int))))) ≤ 32000))) else (examinerlaw08_BitsBack.j1 kj5 l0 a1 a2 bt490.1 false))) = some r := H
            have A11 := Aside0.mk A110
            clear A110
            replace H := Option.bind_eq_some_iff.mp H
            obtain ⟨⟨t490, t491⟩, A120, H⟩ := H
            replace H : (if t491 = 0 then (examinerlaw08_BitsBack.j1 kj5 l0 a1 a2 t490 (decide ((wrap64 ((t490.size : Int) + (wrap64 (8 * (a2.size : Int))))) ≤ 32000))) else (examinerlaw08_BitsBack.j1 kj5 l0 a1 a2 t490 false)) = some r := H
            have A12 := Aside0.mk A120
            clear A120
            have HC13 := Aside0.mk H
            clear H
            go_upto_region 6 with (first | ((with_reducible refine gate_callee (f := 14) rfl ?_); refine goesL_ (some 50) rfl rfl Tryd.func14 (by kernel_rfl) rfl #[.slice A0 l0.length c0] rfl (by (try simp only [List.map_toArray, List.map_cons, List.map_nil]); first | done | rfl | (simp only [List.length_drop, List.length_take]; rfl)) ?_; (with_reducible refine (examinerref08_OwnFields.calls _ _ l0 t487 _ ?side1 ?side2 A11.out).mono ?_); (case side1 => repeat (first | exact (Kd.C_below HR0.out HB.out) | (with_reducible refine Kd.C_alloc ?_ _) | (with_reducible refine Kd.C_drewN ?_ _) | (with_reducible refine Kd.C_drew ?_))); (case side2 => exact HC0.out); rintro e w14 ⟨v488, rfl, ho0, hb⟩; refine ⟨_, rfl, ?_⟩; have n0_ := Aside0.mk (Kd.R_lower ho0 (below_size (by repeat (first | (with_reducible first | exact HB.out | apply below_alloc | apply pw_below_drewN | apply below_drew1) | exact HB.out)))); have n1_ := Aside0.mk (below_step (by repeat (first | (with_reducible first | exact HB.out | apply below_alloc | apply pw_below_drewN | apply below_drew1) | exact HB.out)) hb); clear HB; have HO489 := n0_; have HB := n1_; clear n0_ n1_; (try clear hb); (try clear hb2); (try clear hk); (try clear hi); (try clear ho0); obtain ⟨Ao15, co15, eo15⟩ := Kd.R_slice HO489.out; subst eo15) | ((with_reducible refine gate_callee (f := 16) rfl ?_); refine goesL_ (some 51) rfl rfl Tryd.func16 (by kernel_rfl) rfl #[.slice Ao15 t487.length co15] rfl (by (try simp only [List.map_toArray, List.map_cons, List.map_nil]); first | done | rfl | (simp only [List.length_drop, List.length_take]; rfl)) ?_; (with_reducible refine (bits_WriteFields.calls kj5 _ _ t487 t490 t491 _ ?side1 ?side2 A12.out).mono ?_); (case side1 => repeat (first | exact (Kd.R_reads' HO489.out).2.2 | (with_reducible refine Kd.C_alloc ?_ _) | (with_reducible refine Kd.C_drewN ?_ _) | (with_reducible refine Kd.C_drew ?_))); (case side2 => exact (Kd.R_reads' HO489.out).2.1); rintro e w16 ⟨rfl, hb⟩; refine ⟨_, rfl, ?_⟩; have n0_ := Aside0.mk (Kd.R_below (by (with_reducible repeat (first | apply Kd.R_alloc | apply Kd.R_drewN | apply Kd.R_drew)); exact HO489.out) hb); have n1_ := Aside0.mk (below_step (by repeat (first | (with_reducible first | exact HB.out | apply below_alloc | apply pw_below_drewN | apply below_drew1) | exact HB.out)) hb); clear HO489; clear HB; have HO489 := n0_; have HB := n1_; clear n0_ n1_; (try clear hb); (try clear hb2); (try clear hk); (try clear hi)))
            (try simp only [Act.put, List.setIfInBounds_toArray, List.set_cons_zero, List.set_cons_succ])
            go_cut [64] (fun v64 wc => ∃ (kq : Nat) (x64_12 : Bool), v64 = .bool x64_12 ∧ Aside0 (examinerlaw08_BitsBack.j1 kq l0 a1 a2 t490 x64_12 = some r) ∧ Aside0 (kq ≤ kj5) ∧ Aside0 (Below w.heap.size w wc))
            case first =>
              have H := HC13.out
              clear HC13
              by_cases c17 : t491 = 0
              · rw [if_pos c17] at H
                have c17b0 : (t491 == 0) = true := beq_iff_eq.mpr c17
                have c17b1 : (t491 != 0) = false := bne_eq_false_iff_eq.mpr c17
                clear c17
                (first | rw [c17b0] | (simp only [i64_w, i32_w]; rw [c17b0]) | skip)
                have H' := Aside0.mk H
                clear H
                go_wp2
                go_meet
                case rel => exact ⟨_, (decide ((wrap64 ((t490.size : Int) + (wrap64 (8 * (a2.size : Int))))) ≤ 32000)), (by first | rfl | (simp; done) | (simp [*]; done)), H', ⟨by have := HJ5.out; first | omega | exact Nat.le_refl _⟩, ⟨by repeat (first | (with_reducible first | exact HB.out | apply below_alloc | apply pw_below_drewN | apply below_drew1) | exact HB.out)⟩⟩
              · rw [if_neg c17] at H
                have c17b0 : (t491 == 0) = false := beq_eq_false_iff_ne.mpr c17
                have c17b1 : (t491 != 0) = true := bne_iff_ne.mpr c17
                (first | rw [c17b0] | (simp only [i64_w, i32_w]; rw [c17b0]) | skip)
                have H' := Aside0.mk H
                clear H
                go_wp2
                go_meet
                case rel => exact ⟨_, (false), (by first | rfl | (simp; done) | (simp [*]; done)), H', ⟨by have := HJ5.out; first | omega | exact Nat.le_refl _⟩, ⟨by repeat (first | (with_reducible first | exact HB.out | apply below_alloc | apply pw_below_drewN | apply below_drew1) | exact HB.out)⟩⟩
            case rest =>
              as_aux_lemma =>
                clear HC13
                try clear c1
                try clear p2
                try clear c5
                try clear p6
                try clear c9
                try clear c10
                try clear c11
                try clear c12
                try clear c14
                try clear c16
                try clear c17
                try clear c17b0
                try clear c17b1
                try clear p2
                obtain ⟨kq, x64_12, rfl, HA, HJ12, HB⟩ := hcut
                cases kq with
                | zero => exact absurd HA.out (by simp [examinerlaw08_BitsBack.j1])
                | succ kj12 =>
                  have H := HA.out
                  clear HA
                  simp only [examinerlaw08_BitsBack.j1] at H
                  have HC18 := Aside0.mk H
                  clear H
                  go_upto_if 64 with (fail)
                  go_cut [] (fun wc => ∃ (kq : Nat), Aside0 (examinerlaw08_BitsBack.j2 kq a1 a2 = some r) ∧ Aside0 (kq ≤ kj12) ∧ Aside0 (Below w.heap.size w wc))
                  case first =>
                    have H := HC18.out
                    clear HC18
                    by_cases c19 : x64_12 = true
                    · subst c19
                      have H1 : ((bits_UnpackBits.f a2).bind fun bt492 => (if t490.size + bt492.1.size ≤ 9223372036854775807 then ((examinerref08_OwnFields.f l0).bind fun t494 => ((bits_ReadFields.f kj12 (t490 ++ bt492.1) t494).bind fun bt497 => (if bt492.2 = 0 then (if bt497.2.2 = 0 then (if bt497.2.1 = (t490.size : Int) then ((examinerref08_SameFields.f kj12 bt497.1 l0).bind fun t502 => (if t502 = true then (examinerlaw08_BitsBack.j2 kj12 a1 a2) else (some false))) else (some false)) else (some false)) else (some false)))) else (none))) = some r := by rw [if_pos rfl] at H; exact H
                      clear H
                      have H := H1
                      clear H1
                      replace H := Option.bind_eq_some_iff.mp H
                      obtain ⟨⟨t492, t493⟩, A200, H⟩ := H
                      replace H : (if t490.size + t492.size ≤ 9223372036854775807 then ((examinerref08_OwnFields.f l0).bind fun t494 => ((bits_ReadFields.f kj12 (t490 ++ t492) t494).bind fun bt497 => (if t493 = 0 then (if bt497.2.2 = 0 then (if bt497.2.1 = (t490.size : Int) then ((examinerref08_SameFields.f kj12 bt497.1 l0).bind fun t502 => (if t502 = true then (examinerlaw08_BitsBack.j2 kj12 a1 a2) else (some false))) else (some false)) else (some false)) else (some false)))) else (none)) = some r := H
                      have A20 := Aside0.mk A200
                      clear A200
                      by_cases c21 : t490.size + t492.size ≤ 9223372036854775807
                      · rw [if_pos c21] at H
                        have c21b0 := eq_true c21
                        have c21b1 : decide (t490.size + t492.size ≤ 9223372036854775807) = true := decide_eq_true c21
                        try have c21b2 : (9223372036854775807 < t490.size + t492.size) = False := eq_false (Nat.not_lt.2 c21)
                        replace H := Option.bind_eq_some_iff.mp H
                        obtain ⟨t494, A220, H⟩ := H
                        replace H : ((bits_ReadFields.f kj12 (t490 ++ t492) t494).bind fun bt497 => (if t493 = 0 then (if bt497.2.2 = 0 then (if bt497.2.1 = (t490.size : Int) then ((examinerref08_SameFields.f kj12 bt497.1 l0).bind fun t502 => (if t502 = true then (examinerlaw08_BitsBack.j2 kj12 a1 a2) else (some false))) else (some false)) else (some false)) else (some false))) = some r := H
                        have A22 := Aside0.mk A220
                        clear A220
                        replace H := Option.bind_eq_some_iff.mp H
                        obtain ⟨⟨t497, t498, t499⟩, A230, H⟩ := H
                        replace H : (if t493 = 0 then (if t499 = 0 then (if t498 = (t490.size : Int) then ((examinerref08_SameFields.f kj12 t497 l0).bind fun t502 => (if t502 = true then (examinerlaw08_BitsBack.j2 kj12 a1 a2) else (some false))) else (some false)) else (some false)) else (some false)) = some r := H
                        have A23 := Aside0.mk A230
                        clear A230
                        by_cases c24 : t493 = 0
                        · rw [if_pos c24] at H
                          have c24b0 : (t493 == 0) = true := beq_iff_eq.mpr c24
                          have c24b1 : (t493 != 0) = false := bne_eq_false_iff_eq.mpr c24
                          clear c24
                          (first | rw [c24b0] | (simp only [i64_w, i32_w]; rw [c24b0]) | skip)
                          by_cases c25 : t499 = 0
                          · rw [if_pos c25] at H
                            have c25b0 : (t499 == 0) = true := beq_iff_eq.mpr c25
                            have c25b1 : (t499 != 0) = false := bne_eq_false_iff_eq.mpr c25
                            clear c25
                            by_cases c26 : t498 = (t490.size : Int)
                            · rw [if_pos c26] at H
                              have c26b0 : (t498 == (t490.size : Int)) = true := beq_iff_eq.mpr c26
                              have c26b1 : (t498 != (t490.size : Int)) = false := bne_eq_false_iff_eq.mpr c26
                              clear c26
                              replace H := Option.bind_eq_some_iff.mp H
                              obtain ⟨t502, A270, H⟩ := H
                              replace H : (if t502 = true then (examinerlaw08_BitsBack.j2 kj12 a1 a2) else (some false)) = some r := H
                              have A27 := Aside0.mk A270
                              clear A270
                              by_cases c28 : t502 = true
                              · subst c28
                                have H1 : (examinerlaw08_BitsBack.j2 kj12 a1 a2) = some r := by rw [if_pos rfl] at H; exact H
                                clear H
                                have H := H1
                                clear H1
                                have H' := Aside0.mk H
                                clear H
                                go_wp2_with (first | ((with_reducible refine gate_callee (f := 22) rfl ?_); refine goesL_ (some 67) rfl rfl Tryd.func22 (by kernel_rfl) rfl #[.string a2] rfl (by (try simp only [List.map_toArray, List.map_cons, List.map_nil]); first | done | rfl | (simp only [List.length_drop, List.length_take]; rfl)) ?_; (with_reducible refine (bits_UnpackBits.calls a2 t492 t493 _ A20.out).mono ?_); rintro e w29 ⟨rfl, hb⟩; refine ⟨_, rfl, ?_⟩; have n0_ := Aside0.mk (below_step (by repeat (first | (with_reducible first | exact HB.out | apply below_alloc | apply pw_below_drewN | apply below_drew1) | exact HB.out)) hb); clear HB; have HB := n0_; clear n0_; (try clear hb); (try clear hb2); (try clear hk); (try clear hi)) | ((with_reducible refine gate_callee (f := 14) rfl ?_); refine goesL_ (some 75) rfl rfl Tryd.func14 (by kernel_rfl) rfl #[.slice A0 l0.length c0] rfl (by (try simp only [List.map_toArray, List.map_cons, List.map_nil]); first | done | rfl | (simp only [List.length_drop, List.length_take]; rfl)) ?_; (with_reducible refine (examinerref08_OwnFields.calls _ _ l0 t494 _ ?side1 ?side2 A22.out).mono ?_); (case side1 => repeat (first | exact (Kd.C_below HR0.out HB.out) | (with_reducible refine Kd.C_alloc ?_ _) | (with_reducible refine Kd.C_drewN ?_ _) | (with_reducible refine Kd.C_drew ?_))); (case side2 => exact HC0.out); rintro e w30 ⟨v495, rfl, ho0, hb⟩; refine ⟨_, rfl, ?_⟩; have n0_ := Aside0.mk (Kd.R_lower ho0 (below_size (by repeat (first | (with_reducible first | exact HB.out | apply below_alloc | apply pw_below_drewN | apply below_drew1) | exact HB.out)))); have n1_ := Aside0.mk (below_step (by repeat (first | (with_reducible first | exact HB.out | apply below_alloc | apply pw_below_drewN | apply below_drew1) | exact HB.out)) hb); clear HB; have HO496 := n0_; have HB := n1_; clear n0_ n1_; (try clear hb); (try clear hb2); (try clear hk); (try clear hi); (try clear ho0); obtain ⟨Ao31, co31, eo31⟩ := Kd.R_slice HO496.out; subst eo31) | ((with_reducible refine gate_callee (f := 51) rfl ?_); refine goesL_ (some 76) rfl rfl Tryd.func51 (by kernel_rfl) rfl #[.string (t490 ++ t492), .slice Ao31 t494.length co31] rfl (by (try simp only [List.map_toArray, List.map_cons, List.map_nil]); first | done | rfl | (simp only [List.length_drop, List.length_take]; rfl)) ?_; (with_reducible refine (bits_ReadFields.calls kj12 (t490 ++ t492) _ _ t494 t497 t498 t499 _ ?side1 ?side2 A23.out).mono ?_); (case side1 => repeat (first | exact (Kd.R_reads' HO496.out).2.2 | (with_reducible refine Kd.C_alloc ?_ _) | (with_reducible refine Kd.C_drewN ?_ _) | (with_reducible refine Kd.C_drew ?_))); (case side2 => exact (Kd.R_reads' HO496.out).2.1); rintro e w32 ⟨v500, rfl, ho0, hb⟩; refine ⟨_, rfl, ?_⟩; have n0_ := Aside0.mk (Kd.R_elder' (by (with_reducible repeat (first | apply Kd.R_alloc | apply Kd.R_drewN | apply Kd.R_drew)); exact HO496.out) (Kd.R_base ho0) hb); have n1_ := Aside0.mk (Kd.R_lower (Kd.R_new' ho0 (Kd.R_lt (by (with_reducible repeat (first | apply Kd.R_alloc | apply Kd.R_drewN | apply Kd.R_drew)); exact HO496.out))) (below_size (by repeat (first | (with_reducible first | exact HB.out | apply below_alloc | apply pw_below_drewN | apply below_drew1) | exact HB.out)))); have n2_ := Aside0.mk (below_step (by repeat (first | (with_reducible first | exact HB.out | apply below_alloc | apply pw_below_drewN | apply below_drew1) | exact HB.out)) hb); clear HO496; clear HB; have HO496 := n0_; have HO501 := n1_; have HB := n2_; clear n0_ n1_ n2_; (try clear hb); (try clear hb2); (try clear hk); (try clear hi); (try clear ho0); obtain ⟨Ao33, co33, eo33⟩ := Kd.R_slice HO501.out; subst eo33) | (go_at_call 53; (with_reducible refine (examinerref08_SameFields.calls kj12 _ _ t497 _ _ l0 true _ ?side1 ?side2 ?side3 ?side4 A27.out).mono ?_); (case side1 => repeat (first | exact (Kd.R_reads' HO501.out).2.2 | (with_reducible refine Kd.C_alloc ?_ _) | (with_reducible refine Kd.C_drewN ?_ _) | (with_reducible refine Kd.C_drew ?_))); (case side2 => exact (Kd.R_reads' HO501.out).2.1); (case side3 => repeat (first | exact (Kd.C_below HR0.out HB.out) | (with_reducible refine Kd.C_alloc ?_ _) | (with_reducible refine Kd.C_drewN ?_ _) | (with_reducible refine Kd.C_drew ?_))); (case side4 => exact HC0.out); rintro e w' ⟨rfl, ⟨nd, rfl⟩⟩))
                                go_meet
                                case rel => exact ⟨_, H', ⟨by have := HJ5.out; have := HJ12.out; first | omega | exact Nat.le_refl _⟩, ⟨by repeat (first | (with_reducible first | exact HB.out | apply below_alloc | apply pw_below_drewN | apply below_drew1) | exact HB.out)⟩⟩
                              · replace c28 := Bool.eq_false_iff.mpr c28
                                subst c28
                                have H1 : (some false) = some r := by rw [if_neg (show ¬ (false = true) by decide)] at H; exact H
                                clear H
                                have H := H1
                                clear H1
                                obtain rfl := Option.some.inj H
                                go_wp2_with (first | ((with_reducible refine gate_callee (f := 22) rfl ?_); refine goesL_ (some 67) rfl rfl Tryd.func22 (by kernel_rfl) rfl #[.string a2] rfl (by (try simp only [List.map_toArray, List.map_cons, List.map_nil]); first | done | rfl | (simp only [List.length_drop, List.length_take]; rfl)) ?_; (with_reducible refine (bits_UnpackBits.calls a2 t492 t493 _ A20.out).mono ?_); rintro e w34 ⟨rfl, hb⟩; refine ⟨_, rfl, ?_⟩; have n0_ := Aside0.mk (below_step (by repeat (first | (with_reducible first | exact HB.out | apply below_alloc | apply pw_below_drewN | apply below_drew1) | exact HB.out)) hb); clear HB; have HB := n0_; clear n0_; (try clear hb); (try clear hb2); (try clear hk); (try clear hi)) | ((with_reducible refine gate_callee (f := 14) rfl ?_); refine goesL_ (some 75) rfl rfl Tryd.func14 (by kernel_rfl) rfl #[.slice A0 l0.length c0] rfl (by (try simp only [List.map_toArray, List.map_cons, List.map_nil]); first | done | rfl | (simp only [List.length_drop, List.length_take]; rfl)) ?_; (with_reducible refine (examinerref08_OwnFields.calls _ _ l0 t494 _ ?side1 ?side2 A22.out).mono ?_); (case side1 => repeat (first | exact (Kd.C_below HR0.out HB.out) | (with_reducible refine Kd.C_alloc ?_ _) | (with_reducible refine Kd.C_drewN ?_ _) | (with_reducible refine Kd.C_drew ?_))); (case side2 => exact HC0.out); rintro e w35 ⟨v495, rfl, ho0, hb⟩; refine ⟨_, rfl, ?_⟩; have n0_ := Aside0.mk (Kd.R_lower ho0 (below_size (by repeat (first | (with_reducible first | exact HB.out | apply below_alloc | apply pw_below_drewN | apply below_drew1) | exact HB.out)))); have n1_ := Aside0.mk (below_step (by repeat (first | (with_reducible first | exact HB.out | apply below_alloc | apply pw_below_drewN | apply below_drew1) | exact HB.out)) hb); clear HB; have HO496 := n0_; have HB := n1_; clear n0_ n1_; (try clear hb); (try clear hb2); (try clear hk); (try clear hi); (try clear ho0); obtain ⟨Ao36, co36, eo36⟩ := Kd.R_slice HO496.out; subst eo36) | ((with_reducible refine gate_callee (f := 51) rfl ?_); refine goesL_ (some 76) rfl rfl Tryd.func51 (by kernel_rfl) rfl #[.string (t490 ++ t492), .slice Ao36 t494.length co36] rfl (by (try simp only [List.map_toArray, List.map_cons, List.map_nil]); first | done | rfl | (simp only [List.length_drop, List.length_take]; rfl)) ?_; (with_reducible refine (bits_ReadFields.calls kj12 (t490 ++ t492) _ _ t494 t497 t498 t499 _ ?side1 ?side2 A23.out).mono ?_); (case side1 => repeat (first | exact (Kd.R_reads' HO496.out).2.2 | (with_reducible refine Kd.C_alloc ?_ _) | (with_reducible refine Kd.C_drewN ?_ _) | (with_reducible refine Kd.C_drew ?_))); (case side2 => exact (Kd.R_reads' HO496.out).2.1); rintro e w37 ⟨v500, rfl, ho0, hb⟩; refine ⟨_, rfl, ?_⟩; have n0_ := Aside0.mk (Kd.R_elder' (by (with_reducible repeat (first | apply Kd.R_alloc | apply Kd.R_drewN | apply Kd.R_drew)); exact HO496.out) (Kd.R_base ho0) hb); have n1_ := Aside0.mk (Kd.R_lower (Kd.R_new' ho0 (Kd.R_lt (by (with_reducible repeat (first | apply Kd.R_alloc | apply Kd.R_drewN | apply Kd.R_drew)); exact HO496.out))) (below_size (by repeat (first | (with_reducible first | exact HB.out | apply below_alloc | apply pw_below_drewN | apply below_drew1) | exact HB.out)))); have n2_ := Aside0.mk (below_step (by repeat (first | (with_reducible first | exact HB.out | apply below_alloc | apply pw_below_drewN | apply below_drew1) | exact HB.out)) hb); clear HO496; clear HB; have HO496 := n0_; have HO501 := n1_; have HB := n2_; clear n0_ n1_ n2_; (try clear hb); (try clear hb2); (try clear hk); (try clear hi); (try clear ho0); obtain ⟨Ao38, co38, eo38⟩ := Kd.R_slice HO501.out; subst eo38) | (go_at_call 53; (with_reducible refine (examinerref08_SameFields.calls kj12 _ _ t497 _ _ l0 false _ ?side1 ?side2 ?side3 ?side4 A27.out).mono ?_); (case side1 => repeat (first | exact (Kd.R_reads' HO501.out).2.2 | (with_reducible refine Kd.C_alloc ?_ _) | (with_reducible refine Kd.C_drewN ?_ _) | (with_reducible refine Kd.C_drew ?_))); (case side2 => exact (Kd.R_reads' HO501.out).2.1); (case side3 => repeat (first | exact (Kd.C_below HR0.out HB.out) | (with_reducible refine Kd.C_alloc ?_ _) | (with_reducible refine Kd.C_drewN ?_ _) | (with_reducible refine Kd.C_drew ?_))); (case side4 => exact HC0.out); rintro e w' ⟨rfl, ⟨nd, rfl⟩⟩))
                                go_ret
                                exact ⟨by first | rfl | (simp [errW_none, errW_some] <;> rfl) | (simp [*, errW_none, errW_some] <;> rfl), by repeat (first | (with_reducible first | exact HB.out | apply below_alloc | apply pw_below_drewN | apply below_drew1) | exact HB.out)⟩
                            · rw [if_neg c26] at H
                              have c26b0 : (t498 == (t490.size : Int)) = false := beq_eq_false_iff_ne.mpr c26
                              have c26b1 : (t498 != (t490.size : Int)) = true := bne_iff_ne.mpr c26
                              obtain rfl := Option.some.inj H
                              go_wp2_with (first | ((with_reducible refine gate_callee (f := 22) rfl ?_); refine goesL_ (some 67) rfl rfl Tryd.func22 (by kernel_rfl) rfl #[.string a2] rfl (by (try simp only [List.map_toArray, List.map_cons, List.map_nil]); first | done | rfl | (simp only [List.length_drop, List.length_take]; rfl)) ?_; (with_reducible refine (bits_UnpackBits.calls a2 t492 t493 _ A20.out).mono ?_); rintro e w39 ⟨rfl, hb⟩; refine ⟨_, rfl, ?_⟩; have n0_ := Aside0.mk (below_step (by repeat (first | (with_reducible first | exact HB.out | apply below_alloc | apply pw_below_drewN | apply below_drew1) | exact HB.out)) hb); clear HB; have HB := n0_; clear n0_; (try clear hb); (try clear hb2); (try clear hk); (try clear hi)) | ((with_reducible refine gate_callee (f := 14) rfl ?_); refine goesL_ (some 75) rfl rfl Tryd.func14 (by kernel_rfl) rfl #[.slice A0 l0.length c0] rfl (by (try simp only [List.map_toArray, List.map_cons, List.map_nil]); first | done | rfl | (simp only [List.length_drop, List.length_take]; rfl)) ?_; (with_reducible refine (examinerref08_OwnFields.calls _ _ l0 t494 _ ?side1 ?side2 A22.out).mono ?_); (case side1 => repeat (first | exact (Kd.C_below HR0.out HB.out) | (with_reducible refine Kd.C_alloc ?_ _) | (with_reducible refine Kd.C_drewN ?_ _) | (with_reducible refine Kd.C_drew ?_))); (case side2 => exact HC0.out); rintro e w40 ⟨v495, rfl, ho0, hb⟩; refine ⟨_, rfl, ?_⟩; have n0_ := Aside0.mk (Kd.R_lower ho0 (below_size (by repeat (first | (with_reducible first | exact HB.out | apply below_alloc | apply pw_below_drewN | apply below_drew1) | exact HB.out)))); have n1_ := Aside0.mk (below_step (by repeat (first | (with_reducible first | exact HB.out | apply below_alloc | apply pw_below_drewN | apply below_drew1) | exact HB.out)) hb); clear HB; have HO496 := n0_; have HB := n1_; clear n0_ n1_; (try clear hb); (try clear hb2); (try clear hk); (try clear hi); (try clear ho0); obtain ⟨Ao41, co41, eo41⟩ := Kd.R_slice HO496.out; subst eo41) | ((with_reducible refine gate_callee (f := 51) rfl ?_); refine goesL_ (some 76) rfl rfl Tryd.func51 (by kernel_rfl) rfl #[.string (t490 ++ t492), .slice Ao41 t494.length co41] rfl (by (try simp only [List.map_toArray, List.map_cons, List.map_nil]); first | done | rfl | (simp only [List.length_drop, List.length_take]; rfl)) ?_; (with_reducible refine (bits_ReadFields.calls kj12 (t490 ++ t492) _ _ t494 t497 t498 t499 _ ?side1 ?side2 A23.out).mono ?_); (case side1 => repeat (first | exact (Kd.R_reads' HO496.out).2.2 | (with_reducible refine Kd.C_alloc ?_ _) | (with_reducible refine Kd.C_drewN ?_ _) | (with_reducible refine Kd.C_drew ?_))); (case side2 => exact (Kd.R_reads' HO496.out).2.1); rintro e w42 ⟨v500, rfl, ho0, hb⟩; refine ⟨_, rfl, ?_⟩; have n0_ := Aside0.mk (Kd.R_elder' (by (with_reducible repeat (first | apply Kd.R_alloc | apply Kd.R_drewN | apply Kd.R_drew)); exact HO496.out) (Kd.R_base ho0) hb); have n1_ := Aside0.mk (Kd.R_lower (Kd.R_new' ho0 (Kd.R_lt (by (with_reducible repeat (first | apply Kd.R_alloc | apply Kd.R_drewN | apply Kd.R_drew)); exact HO496.out))) (below_size (by repeat (first | (with_reducible first | exact HB.out | apply below_alloc | apply pw_below_drewN | apply below_drew1) | exact HB.out)))); have n2_ := Aside0.mk (below_step (by repeat (first | (with_reducible first | exact HB.out | apply below_alloc | apply pw_below_drewN | apply below_drew1) | exact HB.out)) hb); clear HO496; clear HB; have HO496 := n0_; have HO501 := n1_; have HB := n2_; clear n0_ n1_ n2_; (try clear hb); (try clear hb2); (try clear hk); (try clear hi); (try clear ho0)))
                              go_ret
                              exact ⟨by first | rfl | (simp [errW_none, errW_some] <;> rfl) | (simp [*, errW_none, errW_some] <;> rfl), by repeat (first | (with_reducible first | exact HB.out | apply below_alloc | apply pw_below_drewN | apply below_drew1) | exact HB.out)⟩
                          · rw [if_neg c25] at H
                            have c25b0 : (t499 == 0) = false := beq_eq_false_iff_ne.mpr c25
                            have c25b1 : (t499 != 0) = true := bne_iff_ne.mpr c25
                            obtain rfl := Option.some.inj H
                            go_wp2_with (first | ((with_reducible refine gate_callee (f := 22) rfl ?_); refine goesL_ (some 67) rfl rfl Tryd.func22 (by kernel_rfl) rfl #[.string a2] rfl (by (try simp only [List.map_toArray, List.map_cons, List.map_nil]); first | done | rfl | (simp only [List.length_drop, List.length_take]; rfl)) ?_; (with_reducible refine (bits_UnpackBits.calls a2 t492 t493 _ A20.out).mono ?_); rintro e w43 ⟨rfl, hb⟩; refine ⟨_, rfl, ?_⟩; have n0_ := Aside0.mk (below_step (by repeat (first | (with_reducible first | exact HB.out | apply below_alloc | apply pw_below_drewN | apply below_drew1) | exact HB.out)) hb); clear HB; have HB := n0_; clear n0_; (try clear hb); (try clear hb2); (try clear hk); (try clear hi)) | ((with_reducible refine gate_callee (f := 14) rfl ?_); refine goesL_ (some 75) rfl rfl Tryd.func14 (by kernel_rfl) rfl #[.slice A0 l0.length c0] rfl (by (try simp only [List.map_toArray, List.map_cons, List.map_nil]); first | done | rfl | (simp only [List.length_drop, List.length_take]; rfl)) ?_; (with_reducible refine (examinerref08_OwnFields.calls _ _ l0 t494 _ ?side1 ?side2 A22.out).mono ?_); (case side1 => repeat (first | exact (Kd.C_below HR0.out HB.out) | (with_reducible refine Kd.C_alloc ?_ _) | (with_reducible refine Kd.C_drewN ?_ _) | (with_reducible refine Kd.C_drew ?_))); (case side2 => exact HC0.out); rintro e w44 ⟨v495, rfl, ho0, hb⟩; refine ⟨_, rfl, ?_⟩; have n0_ := Aside0.mk (Kd.R_lower ho0 (below_size (by repeat (first | (with_reducible first | exact HB.out | apply below_alloc | apply pw_below_drewN | apply below_drew1) | exact HB.out)))); have n1_ := Aside0.mk (below_step (by repeat (first | (with_reducible first | exact HB.out | apply below_alloc | apply pw_below_drewN | apply below_drew1) | exact HB.out)) hb); clear HB; have HO496 := n0_; have HB := n1_; clear n0_ n1_; (try clear hb); (try clear hb2); (try clear hk); (try clear hi); (try clear ho0); obtain ⟨Ao45, co45, eo45⟩ := Kd.R_slice HO496.out; subst eo45) | ((with_reducible refine gate_callee (f := 51) rfl ?_); refine goesL_ (some 76) rfl rfl Tryd.func51 (by kernel_rfl) rfl #[.string (t490 ++ t492), .slice Ao45 t494.length co45] rfl (by (try simp only [List.map_toArray, List.map_cons, List.map_nil]); first | done | rfl | (simp only [List.length_drop, List.length_take]; rfl)) ?_; (with_reducible refine (bits_ReadFields.calls kj12 (t490 ++ t492) _ _ t494 t497 t498 t499 _ ?side1 ?side2 A23.out).mono ?_); (case side1 => repeat (first | exact (Kd.R_reads' HO496.out).2.2 | (with_reducible refine Kd.C_alloc ?_ _) | (with_reducible refine Kd.C_drewN ?_ _) | (with_reducible refine Kd.C_drew ?_))); (case side2 => exact (Kd.R_reads' HO496.out).2.1); rintro e w46 ⟨v500, rfl, ho0, hb⟩; refine ⟨_, rfl, ?_⟩; have n0_ := Aside0.mk (Kd.R_elder' (by (with_reducible repeat (first | apply Kd.R_alloc | apply Kd.R_drewN | apply Kd.R_drew)); exact HO496.out) (Kd.R_base ho0) hb); have n1_ := Aside0.mk (Kd.R_lower (Kd.R_new' ho0 (Kd.R_lt (by (with_reducible repeat (first | apply Kd.R_alloc | apply Kd.R_drewN | apply Kd.R_drew)); exact HO496.out))) (below_size (by repeat (first | (with_reducible first | exact HB.out | apply below_alloc | apply pw_below_drewN | apply below_drew1) | exact HB.out)))); have n2_ := Aside0.mk (below_step (by repeat (first | (with_reducible first | exact HB.out | apply below_alloc | apply pw_below_drewN | apply below_drew1) | exact HB.out)) hb); clear HO496; clear HB; have HO496 := n0_; have HO501 := n1_; have HB := n2_; clear n0_ n1_ n2_; (try clear hb); (try clear hb2); (try clear hk); (try clear hi); (try clear ho0)))
                            go_ret
                            exact ⟨by first | rfl | (simp [errW_none, errW_some] <;> rfl) | (simp [*, errW_none, errW_some] <;> rfl), by repeat (first | (with_reducible first | exact HB.out | apply below_alloc | apply pw_below_drewN | apply below_drew1) | exact HB.out)⟩
                        · rw [if_neg c24] at H
                          have c24b0 : (t493 == 0) = false := beq_eq_false_iff_ne.mpr c24
                          have c24b1 : (t493 != 0) = true := bne_iff_ne.mpr c24
                          (first | rw [c24b0] | (simp only [i64_w, i32_w]; rw [c24b0]) | skip)
                          obtain rfl := Option.some.inj H
                          go_wp2_with (first | ((with_reducible refine gate_callee (f := 22) rfl ?_); refine goesL_ (some 67) rfl rfl Tryd.func22 (by kernel_rfl) rfl #[.string a2] rfl (by (try simp only [List.map_toArray, List.map_cons, List.map_nil]); first | done | rfl | (simp only [List.length_drop, List.length_take]; rfl)) ?_; (with_reducible refine (bits_UnpackBits.calls a2 t492 t493 _ A20.out).mono ?_); rintro e w47 ⟨rfl, hb⟩; refine ⟨_, rfl, ?_⟩; have n0_ := Aside0.mk (below_step (by repeat (first | (with_reducible first | exact HB.out | apply below_alloc | apply pw_below_drewN | apply below_drew1) | exact HB.out)) hb); clear HB; have HB := n0_; clear n0_; (try clear hb); (try clear hb2); (try clear hk); (try clear hi)) | ((with_reducible refine gate_callee (f := 14) rfl ?_); refine goesL_ (some 75) rfl rfl Tryd.func14 (by kernel_rfl) rfl #[.slice A0 l0.length c0] rfl (by (try simp only [List.map_toArray, List.map_cons, List.map_nil]); first | done | rfl | (simp only [List.length_drop, List.length_take]; rfl)) ?_; (with_reducible refine (examinerref08_OwnFields.calls _ _ l0 t494 _ ?side1 ?side2 A22.out).mono ?_); (case side1 => repeat (first | exact (Kd.C_below HR0.out HB.out) | (with_reducible refine Kd.C_alloc ?_ _) | (with_reducible refine Kd.C_drewN ?_ _) | (with_reducible refine Kd.C_drew ?_))); (case side2 => exact HC0.out); rintro e w48 ⟨v495, rfl, ho0, hb⟩; refine ⟨_, rfl, ?_⟩; have n0_ := Aside0.mk (Kd.R_lower ho0 (below_size (by repeat (first | (with_reducible first | exact HB.out | apply below_alloc | apply pw_below_drewN | apply below_drew1) | exact HB.out)))); have n1_ := Aside0.mk (below_step (by repeat (first | (with_reducible first | exact HB.out | apply below_alloc | apply pw_below_drewN | apply below_drew1) | exact HB.out)) hb); clear HB; have HO496 := n0_; have HB := n1_; clear n0_ n1_; (try clear hb); (try clear hb2); (try clear hk); (try clear hi); (try clear ho0); obtain ⟨Ao49, co49, eo49⟩ := Kd.R_slice HO496.out; subst eo49) | ((with_reducible refine gate_callee (f := 51) rfl ?_); refine goesL_ (some 76) rfl rfl Tryd.func51 (by kernel_rfl) rfl #[.string (t490 ++ t492), .slice Ao49 t494.length co49] rfl (by (try simp only [List.map_toArray, List.map_cons, List.map_nil]); first | done | rfl | (simp only [List.length_drop, List.length_take]; rfl)) ?_; (with_reducible refine (bits_ReadFields.calls kj12 (t490 ++ t492) _ _ t494 t497 t498 t499 _ ?side1 ?side2 A23.out).mono ?_); (case side1 => repeat (first | exact (Kd.R_reads' HO496.out).2.2 | (with_reducible refine Kd.C_alloc ?_ _) | (with_reducible refine Kd.C_drewN ?_ _) | (with_reducible refine Kd.C_drew ?_))); (case side2 => exact (Kd.R_reads' HO496.out).2.1); rintro e w50 ⟨v500, rfl, ho0, hb⟩; refine ⟨_, rfl, ?_⟩; have n0_ := Aside0.mk (Kd.R_elder' (by (with_reducible repeat (first | apply Kd.R_alloc | apply Kd.R_drewN | apply Kd.R_drew)); exact HO496.out) (Kd.R_base ho0) hb); have n1_ := Aside0.mk (Kd.R_lower (Kd.R_new' ho0 (Kd.R_lt (by (with_reducible repeat (first | apply Kd.R_alloc | apply Kd.R_drewN | apply Kd.R_drew)); exact HO496.out))) (below_size (by repeat (first | (with_reducible first | exact HB.out | apply below_alloc | apply pw_below_drewN | apply below_drew1) | exact HB.out)))); have n2_ := Aside0.mk (below_step (by repeat (first | (with_reducible first | exact HB.out | apply below_alloc | apply pw_below_drewN | apply below_drew1) | exact HB.out)) hb); clear HO496; clear HB; have HO496 := n0_; have HO501 := n1_; have HB := n2_; clear n0_ n1_ n2_; (try clear hb); (try clear hb2); (try clear hk); (try clear hi); (try clear ho0)))
                          go_ret
                          exact ⟨by first | rfl | (simp [errW_none, errW_some] <;> rfl) | (simp [*, errW_none, errW_some] <;> rfl), by repeat (first | (with_reducible first | exact HB.out | apply below_alloc | apply pw_below_drewN | apply below_drew1) | exact HB.out)⟩
                      · rw [if_neg c21] at H
                        exact absurd H (by simp)
                    · replace c19 := Bool.eq_false_iff.mpr c19
                      subst c19
                      have H1 : (examinerlaw08_BitsBack.j2 kj12 a1 a2) = some r := by rw [if_neg (show ¬ (false = true) by decide)] at H; exact H
                      clear H
                      have H := H1
                      clear H1
                      have H' := Aside0.mk H
                      clear H
                      go_wp2
                      go_meet
                      case rel => exact ⟨_, H', ⟨by have := HJ5.out; have := HJ12.out; first | omega | exact Nat.le_refl _⟩, ⟨by repeat (first | (with_reducible first | exact HB.out | apply below_alloc | apply pw_below_drewN | apply below_drew1) | exact HB.out)⟩⟩
                  case rest =>
                    as_aux_lemma =>
                      clear HC18
                      try clear c1
                      try clear c2
                      try clear p2
                      try clear c5
                      try clear p6
                      try clear c9
                      try clear c10
                      try clear c11
                      try clear c12
                      try clear c14
                      try clear c16
                      try clear c17
                      try clear c17b0
                      try clear c17b1
                      try clear c19
                      try clear c21
                      try clear c21b0
                      try clear c21b1
                      try clear c21b2
                      try clear c22
                      try clear c24
                      try clear c24b0
                      try clear c24b1
                      try clear c25
                      try clear c25b0
                      try clear c25b1
                      try clear c26
                      try clear c26b0
                      try clear c26b1
                      try clear c28
                      try clear p2
                      try clear p6
                      obtain ⟨kq, HA, HJ17, HB⟩ := hcut
                      cases kq with
                      | zero => exact absurd HA.out (by simp [examinerlaw08_BitsBack.j2])
                      | succ kj17 =>
                        have H := HA.out
                        clear HA
                        simp only [examinerlaw08_BitsBack.j2] at H
                        replace H := Option.bind_eq_some_iff.mp H
                        obtain ⟨⟨t503, t504⟩, A510, H⟩ := H
                        replace H : (if t504 = 0 then ((bits_SignedIn.f kj17 t503).bind fun bt505 => (if bt505.2 = 0 then (if bt505.1 = a1 then (examinerlaw08_BitsBack.j3 kj17 a1 a2) else (some false)) else (some false))) else (examinerlaw08_BitsBack.j3 kj17 a1 a2)) = some r := H
                        have A51 := Aside0.mk A510
                        clear A510
                        have HC52 := Aside0.mk H
                        clear H
                        go_upto_if 104 with (first | ((with_reducible refine gate_callee (f := 35) rfl ?_); refine goesL_ (some 100) rfl rfl Tryd.func35 (by kernel_rfl) rfl #[.int .i64 a1] rfl (by (try simp only [List.map_toArray, List.map_cons, List.map_nil]); first | done | rfl | (simp only [List.length_drop, List.length_take]; rfl)) ?_; (with_reducible refine (bits_SignedOf.calls kj17 a1 t503 t504 _ A51.out).mono ?_); rintro e w53 ⟨rfl, hb⟩; refine ⟨_, rfl, ?_⟩; have n0_ := Aside0.mk (below_step (by repeat (first | (with_reducible first | exact HB.out | apply below_alloc | apply pw_below_drewN | apply below_drew1) | exact HB.out)) hb); clear HB; have HB := n0_; clear n0_; (try clear hb); (try clear hb2); (try clear hk); (try clear hi)))
                        (try simp only [Act.put, List.setIfInBounds_toArray, List.set_cons_zero, List.set_cons_succ])
                        go_cut [] (fun wc => ∃ (kq : Nat), Aside0 (examinerlaw08_BitsBack.j3 kq a1 a2 = some r) ∧ Aside0 (kq ≤ kj17) ∧ Aside0 (Below w.heap.size w wc))
                        case first =>
                          have H := HC52.out
                          clear HC52
                          by_cases c54 : t504 = 0
                          · rw [if_pos c54] at H
                            have c54b0 : (t504 == 0) = true := beq_iff_eq.mpr c54
                            have c54b1 : (t504 != 0) = false := bne_eq_false_iff_eq.mpr c54
                            clear c54
                            (first | rw [c54b0] | (simp only [i64_w, i32_w]; rw [c54b0]) | skip)
                            replace H := Option.bind_eq_some_iff.mp H
                            obtain ⟨⟨t505, t506⟩, A550, H⟩ := H
                            replace H : (if t506 = 0 then (if t505 = a1 then (examinerlaw08_BitsBack.j3 kj17 a1 a2) else (some false)) else (some false)) = some r := H
                            have A55 := Aside0.mk A550
                            clear A550
                            by_cases c56 : t506 = 0
                            · rw [if_pos c56] at H
                              have c56b0 : (t506 == 0) = true := beq_iff_eq.mpr c56
                              have c56b1 : (t506 != 0) = false := bne_eq_false_iff_eq.mpr c56
                              clear c56
                              by_cases c57 : t505 = a1
                              · rw [if_pos c57] at H
                                have c57b0 : (t505 == a1) = true := beq_iff_eq.mpr c57
                                have c57b1 : (t505 != a1) = false := bne_eq_false_iff_eq.mpr c57
                                clear c57
                                have H' := Aside0.mk H
                                clear H
                                go_wp2_with (first | ((with_reducible refine gate_callee (f := 43) rfl ?_); refine goesL_ (some 107) rfl rfl Tryd.func43 (by kernel_rfl) rfl #[.string t503] rfl (by (try simp only [List.map_toArray, List.map_cons, List.map_nil]); first | done | rfl | (simp only [List.length_drop, List.length_take]; rfl)) ?_; (with_reducible refine (bits_SignedIn.calls kj17 t503 t505 t506 _ A55.out).mono ?_); rintro e w' ⟨rfl, ⟨nd, rfl⟩⟩; refine ⟨_, rfl, ?_⟩))
                                go_meet
                                case rel => exact ⟨_, H', ⟨by have := HJ5.out; have := HJ12.out; have := HJ17.out; first | omega | exact Nat.le_refl _⟩, ⟨by repeat (first | (with_reducible first | exact HB.out | apply below_alloc | apply pw_below_drewN | apply below_drew1) | exact HB.out)⟩⟩
                              · rw [if_neg c57] at H
                                have c57b0 : (t505 == a1) = false := beq_eq_false_iff_ne.mpr c57
                                have c57b1 : (t505 != a1) = true := bne_iff_ne.mpr c57
                                obtain rfl := Option.some.inj H
                                go_wp2_with (first | ((with_reducible refine gate_callee (f := 43) rfl ?_); refine goesL_ (some 107) rfl rfl Tryd.func43 (by kernel_rfl) rfl #[.string t503] rfl (by (try simp only [List.map_toArray, List.map_cons, List.map_nil]); first | done | rfl | (simp only [List.length_drop, List.length_take]; rfl)) ?_; (with_reducible refine (bits_SignedIn.calls kj17 t503 t505 t506 _ A55.out).mono ?_); rintro e w' ⟨rfl, ⟨nd, rfl⟩⟩; refine ⟨_, rfl, ?_⟩))
                                go_ret
                                exact ⟨by first | rfl | (simp [errW_none, errW_some] <;> rfl) | (simp [*, errW_none, errW_some] <;> rfl), by repeat (first | (with_reducible first | exact HB.out | apply below_alloc | apply pw_below_drewN | apply below_drew1) | exact HB.out)⟩
                            · rw [if_neg c56] at H
                              have c56b0 : (t506 == 0) = false := beq_eq_false_iff_ne.mpr c56
                              have c56b1 : (t506 != 0) = true := bne_iff_ne.mpr c56
                              obtain rfl := Option.some.inj H
                              go_wp2_with (first | ((with_reducible refine gate_callee (f := 43) rfl ?_); refine goesL_ (some 107) rfl rfl Tryd.func43 (by kernel_rfl) rfl #[.string t503] rfl (by (try simp only [List.map_toArray, List.map_cons, List.map_nil]); first | done | rfl | (simp only [List.length_drop, List.length_take]; rfl)) ?_; (with_reducible refine (bits_SignedIn.calls kj17 t503 t505 t506 _ A55.out).mono ?_); rintro e w' ⟨rfl, ⟨nd, rfl⟩⟩; refine ⟨_, rfl, ?_⟩))
                              go_ret
                              exact ⟨by first | rfl | (simp [errW_none, errW_some] <;> rfl) | (simp [*, errW_none, errW_some] <;> rfl), by repeat (first | (with_reducible first | exact HB.out | apply below_alloc | apply pw_below_drewN | apply below_drew1) | exact HB.out)⟩
                          · rw [if_neg c54] at H
                            have c54b0 : (t504 == 0) = false := beq_eq_false_iff_ne.mpr c54
                            have c54b1 : (t504 != 0) = true := bne_iff_ne.mpr c54
                            (first | rw [c54b0] | (simp only [i64_w, i32_w]; rw [c54b0]) | skip)
                            have H' := Aside0.mk H
                            clear H
                            go_wp2
                            go_meet
                            case rel => exact ⟨_, H', ⟨by have := HJ5.out; have := HJ12.out; have := HJ17.out; first | omega | exact Nat.le_refl _⟩, ⟨by repeat (first | (with_reducible first | exact HB.out | apply below_alloc | apply pw_below_drewN | apply below_drew1) | exact HB.out)⟩⟩
                        case rest =>
                          as_aux_lemma =>
                            clear HC52
                            try clear c1
                            try clear c2
                            try clear p2
                            try clear c3
                            try clear c4
                            try clear c5
                            try clear p6
                            try clear c9
                            try clear c10
                            try clear c11
                            try clear c12
                            try clear c14
                            try clear c16
                            try clear c17
                            try clear c17b0
                            try clear c17b1
                            try clear c19
                            try clear c21
                            try clear c21b0
                            try clear c21b1
                            try clear c21b2
                            try clear c22
                            try clear c24
                            try clear c24b0
                            try clear c24b1
                            try clear c25
                            try clear c25b0
                            try clear c25b1
                            try clear c26
                            try clear c26b0
                            try clear c26b1
                            try clear c28
                            try clear c35
                            try clear c43
                            try clear c51
                            try clear c54
                            try clear c54b0
                            try clear c54b1
                            try clear c56
                            try clear c56b0
                            try clear c56b1
                            try clear c57
                            try clear c57b0
                            try clear c57b1
                            try clear p2
                            try clear p6
                            obtain ⟨kq, HA, HJ51, HB⟩ := hcut
                            cases kq with
                            | zero => exact absurd HA.out (by simp [examinerlaw08_BitsBack.j3])
                            | succ kj51 =>
                              have H := HA.out
                              clear HA
                              simp only [examinerlaw08_BitsBack.j3] at H
                              replace H := Option.bind_eq_some_iff.mp H
                              obtain ⟨⟨t507, t508⟩, A580, H⟩ := H
                              replace H : (if t508 = 0 then ((bits_UnsignedIn.f kj51 t507).bind fun bt509 => (if bt509.2 = 0 then (if bt509.1 = a1 then (examinerlaw08_BitsBack.j4 kj51 a1 a2) else (some false)) else (some false))) else (examinerlaw08_BitsBack.j4 kj51 a1 a2)) = some r := H
                              have A58 := Aside0.mk A580
                              clear A580
                              have HC59 := Aside0.mk H
                              clear H
                              go_upto_if 123 with (first | ((with_reducible refine gate_callee (f := 31) rfl ?_); refine goesL_ (some 119) rfl rfl Tryd.func31 (by kernel_rfl) rfl #[.int .i64 a1] rfl (by (try simp only [List.map_toArray, List.map_cons, List.map_nil]); first | done | rfl | (simp only [List.length_drop, List.length_take]; rfl)) ?_; (with_reducible refine (bits_UnsignedOf.calls a1 t507 t508 _ A58.out).mono ?_); rintro e w60 ⟨rfl, hb⟩; refine ⟨_, rfl, ?_⟩; have n0_ := Aside0.mk (below_step (by repeat (first | (with_reducible first | exact HB.out | apply below_alloc | apply pw_below_drewN | apply below_drew1) | exact HB.out)) hb); clear HB; have HB := n0_; clear n0_; (try clear hb); (try clear hb2); (try clear hk); (try clear hi)))
                              (try simp only [Act.put, List.setIfInBounds_toArray, List.set_cons_zero, List.set_cons_succ])
                              go_cut [] (fun wc => ∃ (kq : Nat), Aside0 (examinerlaw08_BitsBack.j4 kq a1 a2 = some r) ∧ Aside0 (kq ≤ kj51) ∧ Aside0 (Below w.heap.size w wc))
                              case first =>
                                have H := HC59.out
                                clear HC59
                                by_cases c61 : t508 = 0
                                · rw [if_pos c61] at H
                                  have c61b0 : (t508 == 0) = true := beq_iff_eq.mpr c61
                                  have c61b1 : (t508 != 0) = false := bne_eq_false_iff_eq.mpr c61
                                  clear c61
                                  (first | rw [c61b0] | (simp only [i64_w, i32_w]; rw [c61b0]) | skip)
                                  replace H := Option.bind_eq_some_iff.mp H
                                  obtain ⟨⟨t509, t510⟩, A620, H⟩ := H
                                  replace H : (if t510 = 0 then (if t509 = a1 then (examinerlaw08_BitsBack.j4 kj51 a1 a2) else (some false)) else (some false)) = some r := H
                                  have A62 := Aside0.mk A620
                                  clear A620
                                  by_cases c63 : t510 = 0
                                  · rw [if_pos c63] at H
                                    have c63b0 : (t510 == 0) = true := beq_iff_eq.mpr c63
                                    have c63b1 : (t510 != 0) = false := bne_eq_false_iff_eq.mpr c63
                                    clear c63
                                    by_cases c64 : t509 = a1
                                    · rw [if_pos c64] at H
                                      have c64b0 : (t509 == a1) = true := beq_iff_eq.mpr c64
                                      have c64b1 : (t509 != a1) = false := bne_eq_false_iff_eq.mpr c64
                                      clear c64
                                      have H' := Aside0.mk H
                                      clear H
                                      go_wp2_with (first | ((with_reducible refine gate_callee (f := 44) rfl ?_); refine goesL_ (some 126) rfl rfl Tryd.func44 (by kernel_rfl) rfl #[.string t507] rfl (by (try simp only [List.map_toArray, List.map_cons, List.map_nil]); first | done | rfl | (simp only [List.length_drop, List.length_take]; rfl)) ?_; (with_reducible refine (bits_UnsignedIn.calls kj51 t507 t509 t510 _ A62.out).mono ?_); rintro e w' ⟨rfl, ⟨nd, rfl⟩⟩; refine ⟨_, rfl, ?_⟩))
                                      go_meet
                                      case rel => exact ⟨_, H', ⟨by have := HJ5.out; have := HJ12.out; have := HJ17.out; have := HJ51.out; first | omega | exact Nat.le_refl _⟩, ⟨by repeat (first | (with_reducible first | exact HB.out | apply below_alloc | apply pw_below_drewN | apply below_drew1) | exact HB.out)⟩⟩
                                    · rw [if_neg c64] at H
                                      have c64b0 : (t509 == a1) = false := beq_eq_false_iff_ne.mpr c64
                                      have c64b1 : (t509 != a1) = true := bne_iff_ne.mpr c64
                                      obtain rfl := Option.some.inj H
                                      go_wp2_with (first | ((with_reducible refine gate_callee (f := 44) rfl ?_); refine goesL_ (some 126) rfl rfl Tryd.func44 (by kernel_rfl) rfl #[.string t507] rfl (by (try simp only [List.map_toArray, List.map_cons, List.map_nil]); first | done | rfl | (simp only [List.length_drop, List.length_take]; rfl)) ?_; (with_reducible refine (bits_UnsignedIn.calls kj51 t507 t509 t510 _ A62.out).mono ?_); rintro e w' ⟨rfl, ⟨nd, rfl⟩⟩; refine ⟨_, rfl, ?_⟩))
                                      go_ret
                                      exact ⟨by first | rfl | (simp [errW_none, errW_some] <;> rfl) | (simp [*, errW_none, errW_some] <;> rfl), by repeat (first | (with_reducible first | exact HB.out | apply below_alloc | apply pw_below_drewN | apply below_drew1) | exact HB.out)⟩
                                  · rw [if_neg c63] at H
                                    have c63b0 : (t510 == 0) = false := beq_eq_false_iff_ne.mpr c63
                                    have c63b1 : (t510 != 0) = true := bne_iff_ne.mpr c63
                                    obtain rfl := Option.some.inj H
                                    go_wp2_with (first | ((with_reducible refine gate_callee (f := 44) rfl ?_); refine goesL_ (some 126) rfl rfl Tryd.func44 (by kernel_rfl) rfl #[.string t507] rfl (by (try simp only [List.map_toArray, List.map_cons, List.map_nil]); first | done | rfl | (simp only [List.length_drop, List.length_take]; rfl)) ?_; (with_reducible refine (bits_UnsignedIn.calls kj51 t507 t509 t510 _ A62.out).mono ?_); rintro e w' ⟨rfl, ⟨nd, rfl⟩⟩; refine ⟨_, rfl, ?_⟩))
                                    go_ret
                                    exact ⟨by first | rfl | (simp [errW_none, errW_some] <;> rfl) | (simp [*, errW_none, errW_some] <;> rfl), by repeat (first | (with_reducible first | exact HB.out | apply below_alloc | apply pw_below_drewN | apply below_drew1) | exact HB.out)⟩
                                · rw [if_neg c61] at H
                                  have c61b0 : (t508 == 0) = false := beq_eq_false_iff_ne.mpr c61
                                  have c61b1 : (t508 != 0) = true := bne_iff_ne.mpr c61
                                  (first | rw [c61b0] | (simp only [i64_w, i32_w]; rw [c61b0]) | skip)
                                  have H' := Aside0.mk H
                                  clear H
                                  go_wp2
                                  go_meet
                                  case rel => exact ⟨_, H', ⟨by have := HJ5.out; have := HJ12.out; have := HJ17.out; have := HJ51.out; first | omega | exact Nat.le_refl _⟩, ⟨by repeat (first | (with_reducible first | exact HB.out | apply below_alloc | apply pw_below_drewN | apply below_drew1) | exact HB.out)⟩⟩
                              case rest =>
                                as_aux_lemma =>
                                  clear HC59
                                  try clear c1
                                  try clear c2
                                  try clear p2
                                  try clear c3
                                  try clear c4
                                  try clear c5
                                  try clear c6
                                  try clear p6
                                  try clear c9
                                  try clear c10
                                  try clear c11
                                  try clear c12
                                  try clear c14
                                  try clear c16
                                  try clear c17
                                  try clear c17b0
                                  try clear c17b1
                                  try clear c19
                                  try clear c21
                                  try clear c21b0
                                  try clear c21b1
                                  try clear c21b2
                                  try clear c22
                                  try clear c24
                                  try clear c24b0
                                  try clear c24b1
                                  try clear c25
                                  try clear c25b0
                                  try clear c25b1
                                  try clear c26
                                  try clear c26b0
                                  try clear c26b1
                                  try clear c28
                                  try clear c31
                                  try clear c35
                                  try clear c43
                                  try clear c44
                                  try clear c51
                                  try clear c54
                                  try clear c54b0
                                  try clear c54b1
                                  try clear c56
                                  try clear c56b0
                                  try clear c56b1
                                  try clear c57
                                  try clear c57b0
                                  try clear c57b1
                                  try clear c61
                                  try clear c61b0
                                  try clear c61b1
                                  try clear c63
                                  try clear c63b0
                                  try clear c63b1
                                  try clear c64
                                  try clear c64b0
                                  try clear c64b1
                                  try clear p64
                                  try clear p2
                                  try clear p6
                                  obtain ⟨kq, HA, HJ58, HB⟩ := hcut
                                  cases kq with
                                  | zero => exact absurd HA.out (by simp [examinerlaw08_BitsBack.j4])
                                  | succ kj58 =>
                                    have H := HA.out
                                    clear HA
                                    simp only [examinerlaw08_BitsBack.j4] at H
                                    replace H := Option.bind_eq_some_iff.mp H
                                    obtain ⟨⟨t511, t512⟩, A650, H⟩ := H
                                    replace H : (if t512 = 0 then (if a2.size + t511.size ≤ 9223372036854775807 then (if (a2 ++ t511).size + a2.size ≤ 9223372036854775807 then ((bits_SeptetsIn.f ((a2 ++ t511) ++ a2) (a2.size : Int)).bind fun bt513 => (if bt513.2.2 = 0 then (if bt513.1 = a1 then (if bt513.2.1 = (wrap64 ((a2.size : Int) + (t511.size : Int))) then (examinerlaw08_BitsBack.j5 kj58 a1 a2) else (some false)) else (some false)) else (some false))) else (none)) else (none)) else (examinerlaw08_BitsBack.j5 kj58 a1 a2)) = some r := H
                                    have A65 := Aside0.mk A650
                                    clear A650
                                    have HC66 := Aside0.mk H
                                    clear H
                                    go_upto_if 142 with (first | ((with_reducible refine gate_callee (f := 32) rfl ?_); refine goesL_ (some 138) rfl rfl Tryd.func32 (by kernel_rfl) rfl #[.int .i64 a1] rfl (by (try simp only [List.map_toArray, List.map_cons, List.map_nil]); first | done | rfl | (simp only [List.length_drop, List.length_take]; rfl)) ?_; (with_reducible refine (bits_SeptetsOf.calls kj58 a1 t511 t512 _ A65.out).mono ?_); rintro e w67 ⟨rfl, hb⟩; refine ⟨_, rfl, ?_⟩; have n0_ := Aside0.mk (below_step (by repeat (first | (with_reducible first | exact HB.out | apply below_alloc | apply pw_below_drewN | apply below_drew1) | exact HB.out)) hb); clear HB; have HB := n0_; clear n0_; (try clear hb); (try clear hb2); (try clear hk); (try clear hi)))
                                    (try simp only [Act.put, List.setIfInBounds_toArray, List.set_cons_zero, List.set_cons_succ])
                                    go_cut [] (fun wc => ∃ (kq : Nat), Aside0 (examinerlaw08_BitsBack.j5 kq a1 a2 = some r) ∧ Aside0 (kq ≤ kj58) ∧ Aside0 (Below w.heap.size w wc))
                                    case first =>
                                      have H := HC66.out
                                      clear HC66
                                      by_cases c68 : t512 = 0
                                      · rw [if_pos c68] at H
                                        have c68b0 : (t512 == 0) = true := beq_iff_eq.mpr c68
                                        have c68b1 : (t512 != 0) = false := bne_eq_false_iff_eq.mpr c68
                                        clear c68
                                        (first | rw [c68b0] | (simp only [i64_w, i32_w]; rw [c68b0]) | skip)
                                        by_cases c69 : a2.size + t511.size ≤ 9223372036854775807
                                        · rw [if_pos c69] at H
                                          have c69b0 := eq_true c69
                                          have c69b1 : decide (a2.size + t511.size ≤ 9223372036854775807) = true := decide_eq_true c69
                                          try have c69b2 : (9223372036854775807 < a2.size + t511.size) = False := eq_false (Nat.not_lt.2 c69)
                                          by_cases c70 : (a2 ++ t511).size + a2.size ≤ 9223372036854775807
                                          · rw [if_pos c70] at H
                                            have c70b0 := eq_true c70
                                            have c70b1 : decide ((a2 ++ t511).size + a2.size ≤ 9223372036854775807) = true := decide_eq_true c70
                                            try have c70b2 : (9223372036854775807 < (a2 ++ t511).size + a2.size) = False := eq_false (Nat.not_lt.2 c70)
                                            replace H := Option.bind_eq_some_iff.mp H
                                            obtain ⟨⟨t513, t514, t515⟩, A710, H⟩ := H
                                            replace H : (if t515 = 0 then (if t513 = a1 then (if t514 = (wrap64 ((a2.size : Int) + (t511.size : Int))) then (examinerlaw08_BitsBack.j5 kj58 a1 a2) else (some false)) else (some false)) else (some false)) = some r := H
                                            have A71 := Aside0.mk A710
                                            clear A710
                                            by_cases c72 : t515 = 0
                                            · rw [if_pos c72] at H
                                              have c72b0 : (t515 == 0) = true := beq_iff_eq.mpr c72
                                              have c72b1 : (t515 != 0) = false := bne_eq_false_iff_eq.mpr c72
                                              clear c72
                                              by_cases c73 : t513 = a1
                                              · rw [if_pos c73] at H
                                                have c73b0 : (t513 == a1) = true := beq_iff_eq.mpr c73
                                                have c73b1 : (t513 != a1) = false := bne_eq_false_iff_eq.mpr c73
                                                clear c73
                                                by_cases c74 : t514 = (wrap64 ((a2.size : Int) + (t511.size : Int)))
                                                · rw [if_pos c74] at H
                                                  have c74b0 : (t514 == (wrap64 ((a2.size : Int) + (t511.size : Int)))) = true := beq_iff_eq.mpr c74
                                                  have c74b1 : (t514 != (wrap64 ((a2.size : Int) + (t511.size : Int)))) = false := bne_eq_false_iff_eq.mpr c74
                                                  have c74u := wsum a2.size t511.size (by assumption); rw [c74u] at c74b0 c74b1
                                                  clear c74
                                                  have H' := Aside0.mk H
                                                  clear H
                                                  go_wp2_with (first | ((with_reducible refine gate_callee (f := 47) rfl ?_); refine goesL_ (some 151) rfl rfl Tryd.func47 (by kernel_rfl) rfl #[.string ((a2 ++ t511) ++ a2), .int .i64 (a2.size : Int)] rfl (by (try simp only [List.map_toArray, List.map_cons, List.map_nil]); first | done | rfl | (simp only [List.length_drop, List.length_take]; rfl)) ?_; (with_reducible refine (bits_SeptetsIn.calls ((a2 ++ t511) ++ a2) (a2.size : Int) t513 t514 t515 _ A71.out).mono ?_); rintro e w75 ⟨rfl, hb⟩; refine ⟨_, rfl, ?_⟩; have n0_ := Aside0.mk (below_step (by repeat (first | (with_reducible first | exact HB.out | apply below_alloc | apply pw_below_drewN | apply below_drew1) | exact HB.out)) hb); clear HB; have HB := n0_; clear n0_; (try clear hb); (try clear hb2); (try clear hk); (try clear hi)))
                                                  go_meet
                                                  case rel => exact ⟨_, H', ⟨by have := HJ5.out; have := HJ12.out; have := HJ17.out; have := HJ51.out; have := HJ58.out; first | omega | exact Nat.le_refl _⟩, ⟨by repeat (first | (with_reducible first | exact HB.out | apply below_alloc | apply pw_below_drewN | apply below_drew1) | exact HB.out)⟩⟩
                                                · rw [if_neg c74] at H
                                                  have c74b0 : (t514 == (wrap64 ((a2.size : Int) + (t511.size : Int)))) = false := beq_eq_false_iff_ne.mpr c74
                                                  have c74b1 : (t514 != (wrap64 ((a2.size : Int) + (t511.size : Int)))) = true := bne_iff_ne.mpr c74
                                                  have c74u := wsum a2.size t511.size (by assumption); rw [c74u] at c74b0 c74b1
                                                  obtain rfl := Option.some.inj H
                                                  go_wp2_with (first | ((with_reducible refine gate_callee (f := 47) rfl ?_); refine goesL_ (some 151) rfl rfl Tryd.func47 (by kernel_rfl) rfl #[.string ((a2 ++ t511) ++ a2), .int .i64 (a2.size : Int)] rfl (by (try simp only [List.map_toArray, List.map_cons, List.map_nil]); first | done | rfl | (simp only [List.length_drop, List.length_take]; rfl)) ?_; (with_reducible refine (bits_SeptetsIn.calls ((a2 ++ t511) ++ a2) (a2.size : Int) t513 t514 t515 _ A71.out).mono ?_); rintro e w76 ⟨rfl, hb⟩; refine ⟨_, rfl, ?_⟩; have n0_ := Aside0.mk (below_step (by repeat (first | (with_reducible first | exact HB.out | apply below_alloc | apply pw_below_drewN | apply below_drew1) | exact HB.out)) hb); clear HB; have HB := n0_; clear n0_; (try clear hb); (try clear hb2); (try clear hk); (try clear hi)))
                                                  go_ret
                                                  exact ⟨by first | rfl | (simp [errW_none, errW_some] <;> rfl) | (simp [*, errW_none, errW_some] <;> rfl), by repeat (first | (with_reducible first | exact HB.out | apply below_alloc | apply pw_below_drewN | apply below_drew1) | exact HB.out)⟩
                                              · rw [if_neg c73] at H
                                                have c73b0 : (t513 == a1) = false := beq_eq_false_iff_ne.mpr c73
                                                have c73b1 : (t513 != a1) = true := bne_iff_ne.mpr c73
                                                obtain rfl := Option.some.inj H
                                                go_wp2_with (first | ((with_reducible refine gate_callee (f := 47) rfl ?_); refine goesL_ (some 151) rfl rfl Tryd.func47 (by kernel_rfl) rfl #[.string ((a2 ++ t511) ++ a2), .int .i64 (a2.size : Int)] rfl (by (try simp only [List.map_toArray, List.map_cons, List.map_nil]); first | done | rfl | (simp only [List.length_drop, List.length_take]; rfl)) ?_; (with_reducible refine (bits_SeptetsIn.calls ((a2 ++ t511) ++ a2) (a2.size : Int) t513 t514 t515 _ A71.out).mono ?_); rintro e w77 ⟨rfl, hb⟩; refine ⟨_, rfl, ?_⟩; have n0_ := Aside0.mk (below_step (by repeat (first | (with_reducible first | exact HB.out | apply below_alloc | apply pw_below_drewN | apply below_drew1) | exact HB.out)) hb); clear HB; have HB := n0_; clear n0_; (try clear hb); (try clear hb2); (try clear hk); (try clear hi)))
                                                go_ret
                                                exact ⟨by first | rfl | (simp [errW_none, errW_some] <;> rfl) | (simp [*, errW_none, errW_some] <;> rfl), by repeat (first | (with_reducible first | exact HB.out | apply below_alloc | apply pw_below_drewN | apply below_drew1) | exact HB.out)⟩
                                            · rw [if_neg c72] at H
                                              have c72b0 : (t515 == 0) = false := beq_eq_false_iff_ne.mpr c72
                                              have c72b1 : (t515 != 0) = true := bne_iff_ne.mpr c72
                                              obtain rfl := Option.some.inj H
                                              go_wp2_with (first | ((with_reducible refine gate_callee (f := 47) rfl ?_); refine goesL_ (some 151) rfl rfl Tryd.func47 (by kernel_rfl) rfl #[.string ((a2 ++ t511) ++ a2), .int .i64 (a2.size : Int)] rfl (by (try simp only [List.map_toArray, List.map_cons, List.map_nil]); first | done | rfl | (simp only [List.length_drop, List.length_take]; rfl)) ?_; (with_reducible refine (bits_SeptetsIn.calls ((a2 ++ t511) ++ a2) (a2.size : Int) t513 t514 t515 _ A71.out).mono ?_); rintro e w78 ⟨rfl, hb⟩; refine ⟨_, rfl, ?_⟩; have n0_ := Aside0.mk (below_step (by repeat (first | (with_reducible first | exact HB.out | apply below_alloc | apply pw_below_drewN | apply below_drew1) | exact HB.out)) hb); clear HB; have HB := n0_; clear n0_; (try clear hb); (try clear hb2); (try clear hk); (try clear hi)))
                                              go_ret
                                              exact ⟨by first | rfl | (simp [errW_none, errW_some] <;> rfl) | (simp [*, errW_none, errW_some] <;> rfl), by repeat (first | (with_reducible first | exact HB.out | apply below_alloc | apply pw_below_drewN | apply below_drew1) | exact HB.out)⟩
                                          · rw [if_neg c70] at H
                                            exact absurd H (by simp)
                                        · rw [if_neg c69] at H
                                          exact absurd H (by simp)
                                      · rw [if_neg c68] at H
                                        have c68b0 : (t512 == 0) = false := beq_eq_false_iff_ne.mpr c68
                                        have c68b1 : (t512 != 0) = true := bne_iff_ne.mpr c68
                                        (first | rw [c68b0] | (simp only [i64_w, i32_w]; rw [c68b0]) | skip)
                                        have H' := Aside0.mk H
                                        clear H
                                        go_wp2
                                        go_meet
                                        case rel => exact ⟨_, H', ⟨by have := HJ5.out; have := HJ12.out; have := HJ17.out; have := HJ51.out; have := HJ58.out; first | omega | exact Nat.le_refl _⟩, ⟨by repeat (first | (with_reducible first | exact HB.out | apply below_alloc | apply pw_below_drewN | apply below_drew1) | exact HB.out)⟩⟩
                                    case rest =>
                                      as_aux_lemma =>
                                        clear HC66
                                        try clear c1
                                        try clear c2
                                        try clear p2
                                        try clear c3
                                        try clear c4
                                        try clear c5
                                        try clear c6
                                        try clear p6
                                        try clear c7
                                        try clear c9
                                        try clear c10
                                        try clear c11
                                        try clear c12
                                        try clear c14
                                        try clear c16
                                        try clear c17
                                        try clear c17b0
                                        try clear c17b1
                                        try clear c19
                                        try clear c21
                                        try clear c21b0
                                        try clear c21b1
                                        try clear c21b2
                                        try clear c22
                                        try clear c24
                                        try clear c24b0
                                        try clear c24b1
                                        try clear c25
                                        try clear c25b0
                                        try clear c25b1
                                        try clear c26
                                        try clear c26b0
                                        try clear c26b1
                                        try clear c28
                                        try clear c31
                                        try clear c32
                                        try clear c35
                                        try clear c43
                                        try clear c44
                                        try clear c47
                                        try clear c51
                                        try clear c54
                                        try clear c54b0
                                        try clear c54b1
                                        try clear c56
                                        try clear c56b0
                                        try clear c56b1
                                        try clear c57
                                        try clear c57b0
                                        try clear c57b1
                                        try clear c61
                                        try clear c61b0
                                        try clear c61b1
                                        try clear c63
                                        try clear c63b0
                                        try clear c63b1
                                        try clear c64
                                        try clear c64b0
                                        try clear c64b1
                                        try clear p64
                                        try clear c68
                                        try clear c68b0
                                        try clear c68b1
                                        try clear c69
                                        try clear c69b0
                                        try clear c69b1
                                        try clear c69b2
                                        try clear c70
                                        try clear c70b0
                                        try clear c70b1
                                        try clear c70b2
                                        try clear c72
                                        try clear c72b0
                                        try clear c72b1
                                        try clear c73
                                        try clear c73b0
                                        try clear c73b1
                                        try clear c74
                                        try clear c74b0
                                        try clear c74b1
                                        try clear p2
                                        try clear p6
                                        try clear p64
                                        obtain ⟨kq, HA, HJ65, HB⟩ := hcut
                                        cases kq with
                                        | zero => exact absurd HA.out (by simp [examinerlaw08_BitsBack.j5])
                                        | succ kj65 =>
                                          have H := HA.out
                                          clear HA
                                          simp only [examinerlaw08_BitsBack.j5] at H
                                          have H' := Aside0.mk H
                                          clear H
                                          go_wp2
                                          go_loopg [27] kj65 (fun kq v27 w' => ∃ (x27_7 : Int), v27 = .int .i64 x27_7 ∧ Aside0 (examinerlaw08_BitsBack.l0 kq a1 a2 x27_7 = some r) ∧ Aside0 (kq ≤ kj65) ∧ Aside0 (Below w.heap.size w w'))
                                          case atStart => exact ⟨(0), (by first | rfl | (simp; done) | (simp [*]; done)), H', ⟨Nat.le_refl _⟩, ⟨by repeat (first | (with_reducible first | exact HB.out | apply below_alloc | apply pw_below_drewN | apply below_drew1) | exact HB.out)⟩⟩
                                          case round =>
                                            as_aux_lemma =>
                                              clear H'
                                              try clear c1
                                              try clear c2
                                              try clear p2
                                              try clear c3
                                              try clear c4
                                              try clear c5
                                              try clear c6
                                              try clear p6
                                              try clear c7
                                              try clear c9
                                              try clear c10
                                              try clear c11
                                              try clear c12
                                              try clear c14
                                              try clear c16
                                              try clear c17
                                              try clear c17b0
                                              try clear c17b1
                                              try clear c19
                                              try clear c21
                                              try clear c21b0
                                              try clear c21b1
                                              try clear c21b2
                                              try clear c22
                                              try clear c24
                                              try clear c24b0
                                              try clear c24b1
                                              try clear c25
                                              try clear c25b0
                                              try clear c25b1
                                              try clear c26
                                              try clear c26b0
                                              try clear c26b1
                                              try clear c28
                                              try clear c31
                                              try clear c32
                                              try clear c35
                                              try clear c43
                                              try clear c44
                                              try clear c47
                                              try clear c51
                                              try clear c54
                                              try clear c54b0
                                              try clear c54b1
                                              try clear c56
                                              try clear c56b0
                                              try clear c56b1
                                              try clear c57
                                              try clear c57b0
                                              try clear c57b1
                                              try clear c61
                                              try clear c61b0
                                              try clear c61b1
                                              try clear c63
                                              try clear c63b0
                                              try clear c63b1
                                              try clear c64
                                              try clear c64b0
                                              try clear c64b1
                                              try clear p64
                                              try clear c68
                                              try clear c68b0
                                              try clear c68b1
                                              try clear c69
                                              try clear c69b0
                                              try clear c69b1
                                              try clear c69b2
                                              try clear c70
                                              try clear c70b0
                                              try clear c70b1
                                              try clear c70b2
                                              try clear c72
                                              try clear c72b0
                                              try clear c72b1
                                              try clear c73
                                              try clear c73b0
                                              try clear c73b1
                                              try clear c74
                                              try clear c74b0
                                              try clear c74b1
                                              try clear p2
                                              try clear p6
                                              try clear p64
                                              obtain ⟨x27_7, rfl, HA, HK7, HB⟩ := hrel
                                              cases gk with
                                              | zero => exact absurd HA.out (by simp [examinerlaw08_BitsBack.l0])
                                              | succ k7 =>
                                                have H := HA.out
                                                clear HA
                                                simp only [examinerlaw08_BitsBack.l0] at H
                                                by_cases c79 : x27_7 ≤ 3
                                                · rw [if_pos c79] at H
                                                  have c79b0 : decide (x27_7 ≤ 3) = true := decide_eq_true c79
                                                  clear c79
                                                  replace H := Option.bind_eq_some_iff.mp H
                                                  obtain ⟨⟨t521, t522⟩, A800, H⟩ := H
                                                  replace H : (if t522 = 0 then (if a2.size + t521.size ≤ 9223372036854775807 then (if (a2 ++ t521).size + a2.size ≤ 9223372036854775807 then ((bits_LengthIn.f k7 ((a2 ++ t521) ++ a2) (a2.size : Int)).bind fun bt523 => (if bt523.2.2 = 0 then (if bt523.1 = a1 then (if bt523.2.1 = (wrap64 ((a2.size : Int) + (t521.size : Int))) then (examinerlaw08_BitsBack.l0 k7 a1 a2 (wrap64 (x27_7 + 1))) else (some false)) else (some false)) else (some false))) else (none)) else (none)) else (examinerlaw08_BitsBack.l0 k7 a1 a2 (wrap64 (x27_7 + 1)))) = some r := H
                                                  have A80 := Aside0.mk A800
                                                  clear A800
                                                  by_cases c81 : t522 = 0
                                                  · rw [if_pos c81] at H
                                                    have c81b0 : (t522 == 0) = true := beq_iff_eq.mpr c81
                                                    have c81b1 : (t522 != 0) = false := bne_eq_false_iff_eq.mpr c81
                                                    clear c81
                                                    by_cases c82 : a2.size + t521.size ≤ 9223372036854775807
                                                    · rw [if_pos c82] at H
                                                      have c82b0 := eq_true c82
                                                      have c82b1 : decide (a2.size + t521.size ≤ 9223372036854775807) = true := decide_eq_true c82
                                                      try have c82b2 : (9223372036854775807 < a2.size + t521.size) = False := eq_false (Nat.not_lt.2 c82)
                                                      by_cases c83 : (a2 ++ t521).size + a2.size ≤ 9223372036854775807
                                                      · rw [if_pos c83] at H
                                                        have c83b0 := eq_true c83
                                                        have c83b1 : decide ((a2 ++ t521).size + a2.size ≤ 9223372036854775807) = true := decide_eq_true c83
                                                        try have c83b2 : (9223372036854775807 < (a2 ++ t521).size + a2.size) = False := eq_false (Nat.not_lt.2 c83)
                                                        replace H := Option.bind_eq_some_iff.mp H
                                                        obtain ⟨⟨t523, t524, t525⟩, A840, H⟩ := H
                                                        replace H : (if t525 = 0 then (if t523 = a1 then (if t524 = (wrap64 ((a2.size : Int) + (t521.size : Int))) then (examinerlaw08_BitsBack.l0 k7 a1 a2 (wrap64 (x27_7 + 1))) else (some false)) else (some false)) else (some false)) = some r := H
                                                        have A84 := Aside0.mk A840
                                                        clear A840
                                                        by_cases c85 : t525 = 0
                                                        · rw [if_pos c85] at H
                                                          have c85b0 : (t525 == 0) = true := beq_iff_eq.mpr c85
                                                          have c85b1 : (t525 != 0) = false := bne_eq_false_iff_eq.mpr c85
                                                          clear c85
                                                          by_cases c86 : t523 = a1
                                                          · rw [if_pos c86] at H
                                                            have c86b0 : (t523 == a1) = true := beq_iff_eq.mpr c86
                                                            have c86b1 : (t523 != a1) = false := bne_eq_false_iff_eq.mpr c86
                                                            clear c86
                                                            by_cases c87 : t524 = (wrap64 ((a2.size : Int) + (t521.size : Int)))
                                                            · rw [if_pos c87] at H
                                                              have c87b0 : (t524 == (wrap64 ((a2.size : Int) + (t521.size : Int)))) = true := beq_iff_eq.mpr c87
                                                              have c87b1 : (t524 != (wrap64 ((a2.size : Int) + (t521.size : Int)))) = false := bne_eq_false_iff_eq.mpr c87
                                                              have c87u := wsum a2.size t521.size (by assumption); rw [c87u] at c87b0 c87b1
                                                              clear c87
                                                              have H' := Aside0.mk H
                                                              clear H
                                                              go_wp2_with (first | ((with_reducible refine gate_callee (f := 37) rfl ?_); refine goesL_ (some 178) rfl rfl Tryd.func37 (by kernel_rfl) rfl #[.int .i64 a1, .int .i64 x27_7] rfl (by (try simp only [List.map_toArray, List.map_cons, List.map_nil]); first | done | rfl | (simp only [List.length_drop, List.length_take]; rfl)) ?_; (with_reducible refine (bits_LengthOf.calls k7 a1 x27_7 t521 t522 _ A80.out).mono ?_); rintro e w88 ⟨rfl, hb⟩; refine ⟨_, rfl, ?_⟩; have n0_ := Aside0.mk (below_step (by repeat (first | (with_reducible first | exact HB.out | apply below_alloc | apply pw_below_drewN | apply below_drew1) | exact HB.out)) hb); clear HB; have HB := n0_; clear n0_; (try clear hb); (try clear hb2); (try clear hk); (try clear hi)) | ((with_reducible refine gate_callee (f := 49) rfl ?_); refine goesL_ (some 191) rfl rfl Tryd.func49 (by kernel_rfl) rfl #[.string ((a2 ++ t521) ++ a2), .int .i64 (a2.size : Int)] rfl (by (try simp only [List.map_toArray, List.map_cons, List.map_nil]); first | done | rfl | (simp only [List.length_drop, List.length_take]; rfl)) ?_; (with_reducible refine (bits_LengthIn.calls k7 ((a2 ++ t521) ++ a2) (a2.size : Int) t523 t524 t525 _ A84.out).mono ?_); rintro e w' ⟨rfl, ⟨nd, rfl⟩⟩; refine ⟨_, rfl, ?_⟩))
                                                              go_roundg k7
                                                              case measure => have := HJ5.out; have := HJ12.out; have := HJ17.out; have := HJ51.out; have := HJ58.out; have := HJ65.out; have := HK7.out; omega
                                                              case rel => exact ⟨(wrap64 (x27_7 + 1)), (by first | rfl | (simp; done) | (simp [*]; done)), H', ⟨by have := HJ5.out; have := HJ12.out; have := HJ17.out; have := HJ51.out; have := HJ58.out; have := HJ65.out; have := HK7.out; omega⟩, ⟨by repeat (first | (with_reducible first | exact HB.out | apply below_alloc | apply pw_below_drewN | apply below_drew1) | exact HB.out)⟩⟩
                                                            · rw [if_neg c87] at H
                                                              have c87b0 : (t524 == (wrap64 ((a2.size : Int) + (t521.size : Int)))) = false := beq_eq_false_iff_ne.mpr c87
                                                              have c87b1 : (t524 != (wrap64 ((a2.size : Int) + (t521.size : Int)))) = true := bne_iff_ne.mpr c87
                                                              have c87u := wsum a2.size t521.size (by assumption); rw [c87u] at c87b0 c87b1
                                                              obtain rfl := Option.some.inj H
                                                              go_wp2_with (first | ((with_reducible refine gate_callee (f := 37) rfl ?_); refine goesL_ (some 178) rfl rfl Tryd.func37 (by kernel_rfl) rfl #[.int .i64 a1, .int .i64 x27_7] rfl (by (try simp only [List.map_toArray, List.map_cons, List.map_nil]); first | done | rfl | (simp only [List.length_drop, List.length_take]; rfl)) ?_; (with_reducible refine (bits_LengthOf.calls k7 a1 x27_7 t521 t522 _ A80.out).mono ?_); rintro e w89 ⟨rfl, hb⟩; refine ⟨_, rfl, ?_⟩; have n0_ := Aside0.mk (below_step (by repeat (first | (with_reducible first | exact HB.out | apply below_alloc | apply pw_below_drewN | apply below_drew1) | exact HB.out)) hb); clear HB; have HB := n0_; clear n0_; (try clear hb); (try clear hb2); (try clear hk); (try clear hi)) | ((with_reducible refine gate_callee (f := 49) rfl ?_); refine goesL_ (some 191) rfl rfl Tryd.func49 (by kernel_rfl) rfl #[.string ((a2 ++ t521) ++ a2), .int .i64 (a2.size : Int)] rfl (by (try simp only [List.map_toArray, List.map_cons, List.map_nil]); first | done | rfl | (simp only [List.length_drop, List.length_take]; rfl)) ?_; (with_reducible refine (bits_LengthIn.calls k7 ((a2 ++ t521) ++ a2) (a2.size : Int) t523 t524 t525 _ A84.out).mono ?_); rintro e w' ⟨rfl, ⟨nd, rfl⟩⟩; refine ⟨_, rfl, ?_⟩))
                                                              go_ret
                                                              exact ⟨by first | rfl | (simp [errW_none, errW_some] <;> rfl) | (simp [*, errW_none, errW_some] <;> rfl), by repeat (first | (with_reducible first | exact HB.out | apply below_alloc | apply pw_below_drewN | apply below_drew1) | exact HB.out)⟩
                                                          · rw [if_neg c86] at H
                                                            have c86b0 : (t523 == a1) = false := beq_eq_false_iff_ne.mpr c86
                                                            have c86b1 : (t523 != a1) = true := bne_iff_ne.mpr c86
                                                            obtain rfl := Option.some.inj H
                                                            go_wp2_with (first | ((with_reducible refine gate_callee (f := 37) rfl ?_); refine goesL_ (some 178) rfl rfl Tryd.func37 (by kernel_rfl) rfl #[.int .i64 a1, .int .i64 x27_7] rfl (by (try simp only [List.map_toArray, List.map_cons, List.map_nil]); first | done | rfl | (simp only [List.length_drop, List.length_take]; rfl)) ?_; (with_reducible refine (bits_LengthOf.calls k7 a1 x27_7 t521 t522 _ A80.out).mono ?_); rintro e w90 ⟨rfl, hb⟩; refine ⟨_, rfl, ?_⟩; have n0_ := Aside0.mk (below_step (by repeat (first | (with_reducible first | exact HB.out | apply below_alloc | apply pw_below_drewN | apply below_drew1) | exact HB.out)) hb); clear HB; have HB := n0_; clear n0_; (try clear hb); (try clear hb2); (try clear hk); (try clear hi)) | ((with_reducible refine gate_callee (f := 49) rfl ?_); refine goesL_ (some 191) rfl rfl Tryd.func49 (by kernel_rfl) rfl #[.string ((a2 ++ t521) ++ a2), .int .i64 (a2.size : Int)] rfl (by (try simp only [List.map_toArray, List.map_cons, List.map_nil]); first | done | rfl | (simp only [List.length_drop, List.length_take]; rfl)) ?_; (with_reducible refine (bits_LengthIn.calls k7 ((a2 ++ t521) ++ a2) (a2.size : Int) t523 t524 t525 _ A84.out).mono ?_); rintro e w' ⟨rfl, ⟨nd, rfl⟩⟩; refine ⟨_, rfl, ?_⟩))
                                                            go_ret
                                                            exact ⟨by first | rfl | (simp [errW_none, errW_some] <;> rfl) | (simp [*, errW_none, errW_some] <;> rfl), by repeat (first | (with_reducible first | exact HB.out | apply below_alloc | apply pw_below_drewN | apply below_drew1) | exact HB.out)⟩
                                                        · rw [if_neg c85] at H
                                                          have c85b0 : (t525 == 0) = false := beq_eq_false_iff_ne.mpr c85
                                                          have c85b1 : (t525 != 0) = true := bne_iff_ne.mpr c85
                                                          obtain rfl := Option.some.inj H
                                                          go_wp2_with (first | ((with_reducible refine gate_callee (f := 37) rfl ?_); refine goesL_ (some 178) rfl rfl Tryd.func37 (by kernel_rfl) rfl #[.int .i64 a1, .int .i64 x27_7] rfl (by (try simp only [List.map_toArray, List.map_cons, List.map_nil]); first | done | rfl | (simp only [List.length_drop, List.length_take]; rfl)) ?_; (with_reducible refine (bits_LengthOf.calls k7 a1 x27_7 t521 t522 _ A80.out).mono ?_); rintro e w91 ⟨rfl, hb⟩; refine ⟨_, rfl, ?_⟩; have n0_ := Aside0.mk (below_step (by repeat (first | (with_reducible first | exact HB.out | apply below_alloc | apply pw_below_drewN | apply below_drew1) | exact HB.out)) hb); clear HB; have HB := n0_; clear n0_; (try clear hb); (try clear hb2); (try clear hk); (try clear hi)) | ((with_reducible refine gate_callee (f := 49) rfl ?_); refine goesL_ (some 191) rfl rfl Tryd.func49 (by kernel_rfl) rfl #[.string ((a2 ++ t521) ++ a2), .int .i64 (a2.size : Int)] rfl (by (try simp only [List.map_toArray, List.map_cons, List.map_nil]); first | done | rfl | (simp only [List.length_drop, List.length_take]; rfl)) ?_; (with_reducible refine (bits_LengthIn.calls k7 ((a2 ++ t521) ++ a2) (a2.size : Int) t523 t524 t525 _ A84.out).mono ?_); rintro e w' ⟨rfl, ⟨nd, rfl⟩⟩; refine ⟨_, rfl, ?_⟩))
                                                          go_ret
                                                          exact ⟨by first | rfl | (simp [errW_none, errW_some] <;> rfl) | (simp [*, errW_none, errW_some] <;> rfl), by repeat (first | (with_reducible first | exact HB.out | apply below_alloc | apply pw_below_drewN | apply below_drew1) | exact HB.out)⟩
                                                      · rw [if_neg c83] at H
                                                        exact absurd H (by simp)
                                                    · rw [if_neg c82] at H
                                                      exact absurd H (by simp)
                                                  · rw [if_neg c81] at H
                                                    have c81b0 : (t522 == 0) = false := beq_eq_false_iff_ne.mpr c81
                                                    have c81b1 : (t522 != 0) = true := bne_iff_ne.mpr c81
                                                    have H' := Aside0.mk H
                                                    clear H
                                                    go_wp2_with (first | ((with_reducible refine gate_callee (f := 37) rfl ?_); refine goesL_ (some 178) rfl rfl Tryd.func37 (by kernel_rfl) rfl #[.int .i64 a1, .int .i64 x27_7] rfl (by (try simp only [List.map_toArray, List.map_cons, List.map_nil]); first | done | rfl | (simp only [List.length_drop, List.length_take]; rfl)) ?_; (with_reducible refine (bits_LengthOf.calls k7 a1 x27_7 t521 t522 _ A80.out).mono ?_); rintro e w92 ⟨rfl, hb⟩; refine ⟨_, rfl, ?_⟩; have n0_ := Aside0.mk (below_step (by repeat (first | (with_reducible first | exact HB.out | apply below_alloc | apply pw_below_drewN | apply below_drew1) | exact HB.out)) hb); clear HB; have HB := n0_; clear n0_; (try clear hb); (try clear hb2); (try clear hk); (try clear hi)))
                                                    go_roundg k7
                                                    case measure => have := HJ5.out; have := HJ12.out; have := HJ17.out; have := HJ51.out; have := HJ58.out; have := HJ65.out; have := HK7.out; omega
                                                    case rel => exact ⟨(wrap64 (x27_7 + 1)), (by first | rfl | (simp; done) | (simp [*]; done)), H', ⟨by have := HJ5.out; have := HJ12.out; have := HJ17.out; have := HJ51.out; have := HJ58.out; have := HJ65.out; have := HK7.out; omega⟩, ⟨by repeat (first | (with_reducible first | exact HB.out | apply below_alloc | apply pw_below_drewN | apply below_drew1) | exact HB.out)⟩⟩
                                                · rw [if_neg c79] at H
                                                  have c79b0 : decide (x27_7 ≤ 3) = false := decide_eq_false c79
                                                  clear c79
                                                  replace H := Option.bind_eq_some_iff.mp H
                                                  obtain ⟨⟨t516, t517⟩, A930, H⟩ := H
                                                  replace H : ((bits_FragmentIn.f t516 0).bind fun bt518 => (if t517 = 0 then (if bt518.2.2 = 0 then (if bt518.1 = a1 then (some (bt518.2.1 == (t516.size : Int))) else (some false)) else (some false)) else (some true))) = some r := H
                                                  have A93 := Aside0.mk A930
                                                  clear A930
                                                  replace H := Option.bind_eq_some_iff.mp H
                                                  obtain ⟨⟨t518, t519, t520⟩, A940, H⟩ := H
                                                  replace H : (if t517 = 0 then (if t520 = 0 then (if t518 = a1 then (some (t519 == (t516.size : Int))) else (some false)) else (some false)) else (some true)) = some r := H
                                                  have A94 := Aside0.mk A940
                                                  clear A940
                                                  by_cases c95 : t517 = 0
                                                  · rw [if_pos c95] at H
                                                    have c95b0 : (t517 == 0) = true := beq_iff_eq.mpr c95
                                                    have c95b1 : (t517 != 0) = false := bne_eq_false_iff_eq.mpr c95
                                                    clear c95
                                                    by_cases c96 : t520 = 0
                                                    · rw [if_pos c96] at H
                                                      have c96b0 : (t520 == 0) = true := beq_iff_eq.mpr c96
                                                      have c96b1 : (t520 != 0) = false := bne_eq_false_iff_eq.mpr c96
                                                      clear c96
                                                      by_cases c97 : t518 = a1
                                                      · rw [if_pos c97] at H
                                                        have c97b0 : (t518 == a1) = true := beq_iff_eq.mpr c97
                                                        have c97b1 : (t518 != a1) = false := bne_eq_false_iff_eq.mpr c97
                                                        clear c97
                                                        obtain rfl := Option.some.inj H
                                                        go_wp2_with (first | ((with_reducible refine gate_callee (f := 39) rfl ?_); refine goesL_ (some 213) rfl rfl Tryd.func39 (by kernel_rfl) rfl #[.int .i64 a1] rfl (by (try simp only [List.map_toArray, List.map_cons, List.map_nil]); first | done | rfl | (simp only [List.length_drop, List.length_take]; rfl)) ?_; (with_reducible refine (bits_FragmentOf.calls a1 t516 t517 _ A93.out).mono ?_); rintro e w98 ⟨rfl, hb⟩; refine ⟨_, rfl, ?_⟩; have n0_ := Aside0.mk (below_step (by repeat (first | (with_reducible first | exact HB.out | apply below_alloc | apply pw_below_drewN | apply below_drew1) | exact HB.out)) hb); clear HB; have HB := n0_; clear n0_; (try clear hb); (try clear hb2); (try clear hk); (try clear hi)) | ((with_reducible refine gate_callee (f := 25) rfl ?_); refine goesL_ (some 218) rfl rfl Tryd.func25 (by kernel_rfl) rfl #[.string t516, .int .i64 0] rfl (by (try simp only [List.map_toArray, List.map_cons, List.map_nil]); first | done | rfl | (simp only [List.length_drop, List.length_take]; rfl)) ?_; (with_reducible refine (bits_FragmentIn.calls t516 0 t518 t519 t520 _ A94.out).mono ?_); rintro e w99 ⟨rfl, hb⟩; refine ⟨_, rfl, ?_⟩; have n0_ := Aside0.mk (below_step (by repeat (first | (with_reducible first | exact HB.out | apply below_alloc | apply pw_below_drewN | apply below_drew1) | exact HB.out)) hb); clear HB; have HB := n0_; clear n0_; (try clear hb); (try clear hb2); (try clear hk); (try clear hi)))
                                                        go_ret
                                                        exact ⟨by first | rfl | (simp [errW_none, errW_some] <;> rfl) | (simp [*, errW_none, errW_some] <;> rfl), by repeat (first | (with_reducible first | exact HB.out | apply below_alloc | apply pw_below_drewN | apply below_drew1) | exact HB.out)⟩
                                                      · rw [if_neg c97] at H
                                                        have c97b0 : (t518 == a1) = false := beq_eq_false_iff_ne.mpr c97
                                                        have c97b1 : (t518 != a1) = true := bne_iff_ne.mpr c97
                                                        obtain rfl := Option.some.inj H
                                                        go_wp2_with (first | ((with_reducible refine gate_callee (f := 39) rfl ?_); refine goesL_ (some 213) rfl rfl Tryd.func39 (by kernel_rfl) rfl #[.int .i64 a1] rfl (by (try simp only [List.map_toArray, List.map_cons, List.map_nil]); first | done | rfl | (simp only [List.length_drop, List.length_take]; rfl)) ?_; (with_reducible refine (bits_FragmentOf.calls a1 t516 t517 _ A93.out).mono ?_); rintro e w100 ⟨rfl, hb⟩; refine ⟨_, rfl, ?_⟩; have n0_ := Aside0.mk (below_step (by repeat (first | (with_reducible first | exact HB.out | apply below_alloc | apply pw_below_drewN | apply below_drew1) | exact HB.out)) hb); clear HB; have HB := n0_; clear n0_; (try clear hb); (try clear hb2); (try clear hk); (try clear hi)) | ((with_reducible refine gate_callee (f := 25) rfl ?_); refine goesL_ (some 218) rfl rfl Tryd.func25 (by kernel_rfl) rfl #[.string t516, .int .i64 0] rfl (by (try simp only [List.map_toArray, List.map_cons, List.map_nil]); first | done | rfl | (simp only [List.length_drop, List.length_take]; rfl)) ?_; (with_reducible refine (bits_FragmentIn.calls t516 0 t518 t519 t520 _ A94.out).mono ?_); rintro e w101 ⟨rfl, hb⟩; refine ⟨_, rfl, ?_⟩; have n0_ := Aside0.mk (below_step (by repeat (first | (with_reducible first | exact HB.out | apply below_alloc | apply pw_below_drewN | apply below_drew1) | exact HB.out)) hb); clear HB; have HB := n0_; clear n0_; (try clear hb); (try clear hb2); (try clear hk); (try clear hi)))
                                                        go_ret
                                                        exact ⟨by first | rfl | (simp [errW_none, errW_some] <;> rfl) | (simp [*, errW_none, errW_some] <;> rfl), by repeat (first | (with_reducible first | exact HB.out | apply below_alloc | apply pw_below_drewN | apply below_drew1) | exact HB.out)⟩
                                                    · rw [if_neg c96] at H
                                                      have c96b0 : (t520 == 0) = false := beq_eq_false_iff_ne.mpr c96
                                                      have c96b1 : (t520 != 0) = true := bne_iff_ne.mpr c96
                                                      obtain rfl := Option.some.inj H
                                                      go_wp2_with (first | ((with_reducible refine gate_callee (f := 39) rfl ?_); refine goesL_ (some 213) rfl rfl Tryd.func39 (by kernel_rfl) rfl #[.int .i64 a1] rfl (by (try simp only [List.map_toArray, List.map_cons, List.map_nil]); first | done | rfl | (simp only [List.length_drop, List.length_take]; rfl)) ?_; (with_reducible refine (bits_FragmentOf.calls a1 t516 t517 _ A93.out).mono ?_); rintro e w102 ⟨rfl, hb⟩; refine ⟨_, rfl, ?_⟩; have n0_ := Aside0.mk (below_step (by repeat (first | (with_reducible first | exact HB.out | apply below_alloc | apply pw_below_drewN | apply below_drew1) | exact HB.out)) hb); clear HB; have HB := n0_; clear n0_; (try clear hb); (try clear hb2); (try clear hk); (try clear hi)) | ((with_reducible refine gate_callee (f := 25) rfl ?_); refine goesL_ (some 218) rfl rfl Tryd.func25 (by kernel_rfl) rfl #[.string t516, .int .i64 0] rfl (by (try simp only [List.map_toArray, List.map_cons, List.map_nil]); first | done | rfl | (simp only [List.length_drop, List.length_take]; rfl)) ?_; (with_reducible refine (bits_FragmentIn.calls t516 0 t518 t519 t520 _ A94.out).mono ?_); rintro e w103 ⟨rfl, hb⟩; refine ⟨_, rfl, ?_⟩; have n0_ := Aside0.mk (below_step (by repeat (first | (with_reducible first | exact HB.out | apply below_alloc | apply pw_below_drewN | apply below_drew1) | exact HB.out)) hb); clear HB; have HB := n0_; clear n0_; (try clear hb); (try clear hb2); (try clear hk); (try clear hi)))
                                                      go_ret
                                                      exact ⟨by first | rfl | (simp [errW_none, errW_some] <;> rfl) | (simp [*, errW_none, errW_some] <;> rfl), by repeat (first | (with_reducible first | exact HB.out | apply below_alloc | apply pw_below_drewN | apply below_drew1) | exact HB.out)⟩
                                                  · rw [if_neg c95] at H
                                                    have c95b0 : (t517 == 0) = false := beq_eq_false_iff_ne.mpr c95
                                                    have c95b1 : (t517 != 0) = true := bne_iff_ne.mpr c95
                                                    obtain rfl := Option.some.inj H
                                                    go_wp2_with (first | ((with_reducible refine gate_callee (f := 39) rfl ?_); refine goesL_ (some 213) rfl rfl Tryd.func39 (by kernel_rfl) rfl #[.int .i64 a1] rfl (by (try simp only [List.map_toArray, List.map_cons, List.map_nil]); first | done | rfl | (simp only [List.length_drop, List.length_take]; rfl)) ?_; (with_reducible refine (bits_FragmentOf.calls a1 t516 t517 _ A93.out).mono ?_); rintro e w104 ⟨rfl, hb⟩; refine ⟨_, rfl, ?_⟩; have n0_ := Aside0.mk (below_step (by repeat (first | (with_reducible first | exact HB.out | apply below_alloc | apply pw_below_drewN | apply below_drew1) | exact HB.out)) hb); clear HB; have HB := n0_; clear n0_; (try clear hb); (try clear hb2); (try clear hk); (try clear hi)) | ((with_reducible refine gate_callee (f := 25) rfl ?_); refine goesL_ (some 218) rfl rfl Tryd.func25 (by kernel_rfl) rfl #[.string t516, .int .i64 0] rfl (by (try simp only [List.map_toArray, List.map_cons, List.map_nil]); first | done | rfl | (simp only [List.length_drop, List.length_take]; rfl)) ?_; (with_reducible refine (bits_FragmentIn.calls t516 0 t518 t519 t520 _ A94.out).mono ?_); rintro e w105 ⟨rfl, hb⟩; refine ⟨_, rfl, ?_⟩; have n0_ := Aside0.mk (below_step (by repeat (first | (with_reducible first | exact HB.out | apply below_alloc | apply pw_below_drewN | apply below_drew1) | exact HB.out)) hb); clear HB; have HB := n0_; clear n0_; (try clear hb); (try clear hb2); (try clear hk); (try clear hi)))
                                                    go_ret
                                                    exact ⟨by first | rfl | (simp [errW_none, errW_some] <;> rfl) | (simp [*, errW_none, errW_some] <;> rfl), by repeat (first | (with_reducible first | exact HB.out | apply below_alloc | apply pw_below_drewN | apply below_drew1) | exact HB.out)⟩
  · replace c5 := Bool.eq_false_iff.mpr c5
    subst c5
    have H1 : (some false) = some r := by rw [if_neg (show ¬ (false = true) by decide)] at H; exact H
    clear H
    have H := H1
    clear H1
    obtain rfl := Option.some.inj H
    go_enter Tryd.func10, Tryd.ntmps10
    go_wp2_with (first | ((with_reducible refine gate_callee (f := 11) rfl ?_); refine goesL_ (some 38) rfl rfl Tryd.func11 (by kernel_rfl) rfl #[] rfl (by (try simp only [List.map_toArray, List.map_cons, List.map_nil]); first | done | rfl | (simp only [List.length_drop, List.length_take]; rfl)) ?_; (with_reducible refine (examinerlaw08_awake.calls k  false _ A4.out).mono ?_); rintro e w106 ⟨rfl, hb⟩; refine ⟨_, rfl, ?_⟩; have n0_ := Aside0.mk (below_step (by repeat (first | (with_reducible first | exact HB.out | apply below_alloc | apply pw_below_drewN | apply below_drew1) | exact HB.out)) hb); clear HB; have HB := n0_; clear n0_; (try clear hb); (try clear hb2); (try clear hk); (try clear hi)))
    go_ret
    exact ⟨by first | rfl | (simp [errW_none, errW_some] <;> rfl) | (simp [*, errW_none, errW_some] <;> rfl), by repeat (first | (with_reducible first | exact HB.out | apply below_alloc | apply pw_below_drewN | apply below_drew1) | exact HB.out)⟩

end Go.Proofs.YthicmbhldjebfaaDoor.PA
