-- Laid by pp.py (a program of this session, over the kit's printer) out of the translation. Not trusted: Lean checks it.
import Derived.Test.YthicmbhldjebfaaDoorPAx0
import Derived.Test.YthicmbhldjebfaaDoorPAx6
import Derived.Test.YthicmbhldjebfaaDoorPAx7
import Derived.Test.YthicmbhldjebfaaDoorPAx10
import Derived.Test.YthicmbhldjebfaaDoorPAx17
import Derived.Test.YthicmbhldjebfaaDoorPAx20
namespace Go.Proofs.YthicmbhldjebfaaDoor.PA
open Go.RowKit Go.Proofs.YthicmbhldjebfaaDoorW.PrintWords Go.Proofs.YthicmbhldjebfaaDoorW.PrintLast Go.Proofs.YthicmbhldjebfaaDoorW.PrintMore
attribute [local go_sem] max2_int min2_int max_two min_two max_three min_three max_four min_four   -- for this text's walks alone
set_option linter.unusedVariables false
set_option linter.unusedSimpArgs false

/-! ### examinerlaw08_BitsShortest: function 7 -/
mutual
def examinerlaw08_BitsShortest.j0 : Nat → Int → Int → Option (Bool)
  | 0, _, _ => none
  | k + 1, x0, x1 => (examinerbase_Within.f x0 0 1152921504606846976).bind fun t363 => (if t363 = true then ((examinerbase_Within.f x1 0 1152921504606846976).bind fun t364 => (examinerlaw08_BitsShortest.j1 k x0 x1 (!t364))) else (examinerlaw08_BitsShortest.j1 k x0 x1 true))
def examinerlaw08_BitsShortest.j1 : Nat → Int → Int → Bool → Option (Bool)
  | 0, _, _, _ => none
  | k + 1, x0, x1, x74 => if x74 = true then (some true) else ((bits_UnsignedOf.f x0).bind fun bt365 => ((bits_UnsignedOf.f x1).bind fun bt367 => ((bits_SeptetsOf.f k x0).bind fun bt369 => ((bits_SeptetsOf.f k x1).bind fun bt371 => (if bt365.2 = 0 then (if bt367.2 = 0 then (if bt369.2 = 0 then (if bt371.2 = 0 then (examinerlaw08_BitsShortest.j2 k x0 x1 bt365.1 bt367.1 bt369.1 bt371.1 (bt365.1.toList == ([] : List UInt8))) else (examinerlaw08_BitsShortest.j2 k x0 x1 bt365.1 bt367.1 bt369.1 bt371.1 true)) else (examinerlaw08_BitsShortest.j2 k x0 x1 bt365.1 bt367.1 bt369.1 bt371.1 true)) else (examinerlaw08_BitsShortest.j2 k x0 x1 bt365.1 bt367.1 bt369.1 bt371.1 true)) else (examinerlaw08_BitsShortest.j2 k x0 x1 bt365.1 bt367.1 bt369.1 bt371.1 true))))))
def examinerlaw08_BitsShortest.j2 : Nat → Int → Int → ByteArray → ByteArray → ByteArray → ByteArray → Bool → Option (Bool)
  | 0, _, _, _, _, _, _, _ => none
  | k + 1, x0, x1, x12, x14, x16, x18, x112 => if x112 = true then (some false) else (if (x12.size : Int) > 1 then (if 1 ≤ (x12.size : Int) then ((bits_UnsignedIn.f k (x12.extract 1 x12.size)).bind fun bt373 => (if bt373.2 = 0 then (examinerlaw08_BitsShortest.j3 k x0 x1 x12 x14 x16 x18 (bt373.1 == x0)) else (examinerlaw08_BitsShortest.j3 k x0 x1 x12 x14 x16 x18 true))) else (none)) else ((examinerlaw08_isLess.f x12 x14).bind fun t377 => (if (t377 == (decide (x0 < x1))) = true then ((examinerlaw08_isLess.f x16 x18).bind fun t378 => (some (t378 == (decide (x0 < x1))))) else (some false))))
def examinerlaw08_BitsShortest.j3 : Nat → Int → Int → ByteArray → ByteArray → ByteArray → ByteArray → Bool → Option (Bool)
  | 0, _, _, _, _, _, _, _ => none
  | k + 1, x0, x1, x12, x14, x16, x18, x128 => if x128 = true then (some false) else ((examinerlaw08_isLess.f x12 x14).bind fun t375 => (if (t375 == (decide (x0 < x1))) = true then ((examinerlaw08_isLess.f x16 x18).bind fun t376 => (some (t376 == (decide (x0 < x1))))) else (some false)))
end
def examinerlaw08_BitsShortest.f (k : Nat) (a0 : Int) (a1 : Int) : Option (Bool) := (examinerlaw08_awake.f k).bind fun t354 => (if t354 = true then ((bits_SignedOf.f k a0).bind fun bt355 => (if bt355.2 = 0 then (if bt355.1.toList = ([] : List UInt8) then (some false) else ((examinerbase_Count.f (decide (a0 < 0))).bind fun t357 => ((examinerref08_Octet.f (wrap64 (255 * t357))).bind fun t358 => (if t358.size + bt355.1.size ≤ 9223372036854775807 then ((bits_SignedIn.f k (t358 ++ bt355.1)).bind fun bt359 => (if 1 ≤ (bt355.1.size : Int) then ((bits_SignedIn.f k (bt355.1.extract 1 bt355.1.size)).bind fun bt361 => (if bt359.2 = 0 then (if bt359.1 = a0 then (if bt361.2 = 0 then (if bt361.1 = a0 then (some false) else (examinerlaw08_BitsShortest.j0 k a0 a1)) else (examinerlaw08_BitsShortest.j0 k a0 a1)) else (some false)) else (some false))) else (none))) else (none))))) else (examinerlaw08_BitsShortest.j0 k a0 a1))) else (some false))
theorem examinerlaw08_BitsShortest.mono_l : ∀ k, (∀ y0 y1, LeO (examinerlaw08_BitsShortest.j0 k y0 y1) (examinerlaw08_BitsShortest.j0 (k + 1) y0 y1)) ∧ (∀ y0 y1 y2, LeO (examinerlaw08_BitsShortest.j1 k y0 y1 y2) (examinerlaw08_BitsShortest.j1 (k + 1) y0 y1 y2)) ∧ (∀ y0 y1 y2 y3 y4 y5 y6, LeO (examinerlaw08_BitsShortest.j2 k y0 y1 y2 y3 y4 y5 y6) (examinerlaw08_BitsShortest.j2 (k + 1) y0 y1 y2 y3 y4 y5 y6)) ∧ (∀ y0 y1 y2 y3 y4 y5 y6, LeO (examinerlaw08_BitsShortest.j3 k y0 y1 y2 y3 y4 y5 y6) (examinerlaw08_BitsShortest.j3 (k + 1) y0 y1 y2 y3 y4 y5 y6))
  | 0 => ⟨fun _ _ r h => by simp [examinerlaw08_BitsShortest.j0] at h, fun _ _ _ r h => by simp [examinerlaw08_BitsShortest.j1] at h, fun _ _ _ _ _ _ _ r h => by simp [examinerlaw08_BitsShortest.j2] at h, fun _ _ _ _ _ _ _ r h => by simp [examinerlaw08_BitsShortest.j3] at h⟩
  | k + 1 => by
    obtain ⟨ih0, ih1, ih2, ih3⟩ := examinerlaw08_BitsShortest.mono_l k
    refine ⟨?_, ?_, ?_, ?_⟩
    · intro y0 y1
      unfold examinerlaw08_BitsShortest.j0
      repeat' first
      | (with_reducible exact ih0 _ _)
      | (with_reducible exact ih1 _ _ _)
      | (with_reducible exact ih2 _ _ _ _ _ _ _)
      | (with_reducible exact ih3 _ _ _ _ _ _ _)
      | (with_reducible exact bits_SeptetsOf.mono _ _)
      | (with_reducible exact bits_SignedIn.mono _ _)
      | (with_reducible exact bits_SignedOf.mono _ _)
      | (with_reducible exact bits_UnsignedIn.mono _ _)
      | (with_reducible exact examinerlaw08_awake.mono _)
      | (with_reducible exact LeO.refl _)
      | (with_reducible exact LeO.none _)
      | (with_reducible refine LeO.ite ?_ ?_)
      | (with_reducible refine LeO.bind ?_ (fun _ => ?_))
      | exact ih0 _ _
      | exact ih1 _ _ _
      | exact ih2 _ _ _ _ _ _ _
      | exact ih3 _ _ _ _ _ _ _
      | exact bits_SeptetsOf.mono _ _
      | exact bits_SignedIn.mono _ _
      | exact bits_SignedOf.mono _ _
      | exact bits_UnsignedIn.mono _ _
      | exact examinerlaw08_awake.mono _
      | exact LeO.none _
      | refine LeO.ite ?_ ?_
      | refine LeO.bind ?_ (fun _ => ?_)
    · intro y0 y1 y2
      unfold examinerlaw08_BitsShortest.j1
      repeat' first
      | (with_reducible exact ih0 _ _)
      | (with_reducible exact ih1 _ _ _)
      | (with_reducible exact ih2 _ _ _ _ _ _ _)
      | (with_reducible exact ih3 _ _ _ _ _ _ _)
      | (with_reducible exact bits_SeptetsOf.mono _ _)
      | (with_reducible exact bits_SignedIn.mono _ _)
      | (with_reducible exact bits_SignedOf.mono _ _)
      | (with_reducible exact bits_UnsignedIn.mono _ _)
      | (with_reducible exact examinerlaw08_awake.mono _)
      | (with_reducible exact LeO.refl _)
      | (with_reducible exact LeO.none _)
      | (with_reducible refine LeO.ite ?_ ?_)
      | (with_reducible refine LeO.bind ?_ (fun _ => ?_))
      | exact ih0 _ _
      | exact ih1 _ _ _
      | exact ih2 _ _ _ _ _ _ _
      | exact ih3 _ _ _ _ _ _ _
      | exact bits_SeptetsOf.mono _ _
      | exact bits_SignedIn.mono _ _
      | exact bits_SignedOf.mono _ _
      | exact bits_UnsignedIn.mono _ _
      | exact examinerlaw08_awake.mono _
      | exact LeO.none _
      | refine LeO.ite ?_ ?_
      | refine LeO.bind ?_ (fun _ => ?_)
    · intro y0 y1 y2 y3 y4 y5 y6
      unfold examinerlaw08_BitsShortest.j2
      repeat' first
      | (with_reducible exact ih0 _ _)
      | (with_reducible exact ih1 _ _ _)
      | (with_reducible exact ih2 _ _ _ _ _ _ _)
      | (with_reducible exact ih3 _ _ _ _ _ _ _)
      | (with_reducible exact bits_SeptetsOf.mono _ _)
      | (with_reducible exact bits_SignedIn.mono _ _)
      | (with_reducible exact bits_SignedOf.mono _ _)
      | (with_reducible exact bits_UnsignedIn.mono _ _)
      | (with_reducible exact examinerlaw08_awake.mono _)
      | (with_reducible exact LeO.refl _)
      | (with_reducible exact LeO.none _)
      | (with_reducible refine LeO.ite ?_ ?_)
      | (with_reducible refine LeO.bind ?_ (fun _ => ?_))
      | exact ih0 _ _
      | exact ih1 _ _ _
      | exact ih2 _ _ _ _ _ _ _
      | exact ih3 _ _ _ _ _ _ _
      | exact bits_SeptetsOf.mono _ _
      | exact bits_SignedIn.mono _ _
      | exact bits_SignedOf.mono _ _
      | exact bits_UnsignedIn.mono _ _
      | exact examinerlaw08_awake.mono _
      | exact LeO.none _
      | refine LeO.ite ?_ ?_
      | refine LeO.bind ?_ (fun _ => ?_)
    · intro y0 y1 y2 y3 y4 y5 y6
      unfold examinerlaw08_BitsShortest.j3
      repeat' first
      | (with_reducible exact ih0 _ _)
      | (with_reducible exact ih1 _ _ _)
      | (with_reducible exact ih2 _ _ _ _ _ _ _)
      | (with_reducible exact ih3 _ _ _ _ _ _ _)
      | (with_reducible exact bits_SeptetsOf.mono _ _)
      | (with_reducible exact bits_SignedIn.mono _ _)
      | (with_reducible exact bits_SignedOf.mono _ _)
      | (with_reducible exact bits_UnsignedIn.mono _ _)
      | (with_reducible exact examinerlaw08_awake.mono _)
      | (with_reducible exact LeO.refl _)
      | (with_reducible exact LeO.none _)
      | (with_reducible refine LeO.ite ?_ ?_)
      | (with_reducible refine LeO.bind ?_ (fun _ => ?_))
      | exact ih0 _ _
      | exact ih1 _ _ _
      | exact ih2 _ _ _ _ _ _ _
      | exact ih3 _ _ _ _ _ _ _
      | exact bits_SeptetsOf.mono _ _
      | exact bits_SignedIn.mono _ _
      | exact bits_SignedOf.mono _ _
      | exact bits_UnsignedIn.mono _ _
      | exact examinerlaw08_awake.mono _
      | exact LeO.none _
      | refine LeO.ite ?_ ?_
      | refine LeO.bind ?_ (fun _ => ?_)
theorem examinerlaw08_BitsShortest.mono : ∀ a0 a1 k, LeO (examinerlaw08_BitsShortest.f k a0 a1) (examinerlaw08_BitsShortest.f (k + 1) a0 a1) := by
  intro a0 a1 k
  obtain ⟨ih0, ih1, ih2, ih3⟩ := examinerlaw08_BitsShortest.mono_l k
  unfold examinerlaw08_BitsShortest.f
  repeat' first
      | (with_reducible exact ih0 _ _)
      | (with_reducible exact ih1 _ _ _)
      | (with_reducible exact ih2 _ _ _ _ _ _ _)
      | (with_reducible exact ih3 _ _ _ _ _ _ _)
      | (with_reducible exact bits_SeptetsOf.mono _ _)
      | (with_reducible exact bits_SignedIn.mono _ _)
      | (with_reducible exact bits_SignedOf.mono _ _)
      | (with_reducible exact bits_UnsignedIn.mono _ _)
      | (with_reducible exact examinerlaw08_awake.mono _)
      | (with_reducible exact LeO.refl _)
      | (with_reducible exact LeO.none _)
      | (with_reducible refine LeO.ite ?_ ?_)
      | (with_reducible refine LeO.bind ?_ (fun _ => ?_))
      | exact ih0 _ _
      | exact ih1 _ _ _
      | exact ih2 _ _ _ _ _ _ _
      | exact ih3 _ _ _ _ _ _ _
      | exact bits_SeptetsOf.mono _ _
      | exact bits_SignedIn.mono _ _
      | exact bits_SignedOf.mono _ _
      | exact bits_UnsignedIn.mono _ _
      | exact examinerlaw08_awake.mono _
      | exact LeO.none _
      | refine LeO.ite ?_ ?_
      | refine LeO.bind ?_ (fun _ => ?_)
set_option maxHeartbeats 8000000 in
set_option maxRecDepth 100000 in
theorem examinerlaw08_BitsShortest.calls (k : Nat) (a0 : Int) (a1 : Int) (r : Bool) (w : World) (h : examinerlaw08_BitsShortest.f k a0 a1 = some r) :
    Calls Tryd.prog 7 #[.int .i64 a0, .int .i64 a1] w fun e w' => e = .returned (.bool r) ∧ Below w.heap.size w w' := by
  have HB := Aside0.mk (Below.refl w.heap.size w)
  have H : ((examinerlaw08_awake.f k).bind fun t354 => (if t354 = true then ((bits_SignedOf.f k a0).bind fun bt355 => (if bt355.2 = 0 then (if bt355.1.toList = ([] : List UInt8) then (some false) else ((examinerbase_Count.f (decide (a0 < 0))).bind fun t357 => ((examinerref08_Octet.f (wrap64 (255 * t357))).bind fun t358 => (if t358.size + bt355.1.size ≤ 9223372036854775807 then ((bits_SignedIn.f k (t358 ++ bt355.1)).bind fun bt359 => (if 1 ≤ (bt355.1.size : Int) then ((bits_SignedIn.f k (bt355.1.extract 1 bt355.1.size)).bind fun bt361 => (if bt359.2 = 0 then (if bt359.1 = a0 then (if bt361.2 = 0 then (if bt361.1 = a0 then (some false) else (examinerlaw08_BitsShortest.j0 k a0 a1)) else (examinerlaw08_BitsShortest.j0 k a0 a1)) else (some false)) else (some false))) else (none))) else (none))))) else (examinerlaw08_BitsShortest.j0 k a0 a1))) else (some false))) = some r := h
  clear h
  replace H := Option.bind_eq_some_iff.mp H
  obtain ⟨t354, A30, H⟩ := H
  replace H : (if t354 = true then ((bits_SignedOf.f k a0).bind fun bt355 => (if bt355.2 = 0 then (if bt355.1.toList = ([] : List UInt8) then (some false) else ((examinerbase_Count.f (decide (a0 < 0))).bind fun t357 => ((examinerref08_Octet.f (wrap64 (255 * t357))).bind fun t358 => (if t358.size + bt355.1.size ≤ 9223372036854775807 then ((bits_SignedIn.f k (t358 ++ bt355.1)).bind fun bt359 => (if 1 ≤ (bt355.1.size : Int) then ((bits_SignedIn.f k (bt355.1.extract 1 bt355.1.size)).bind fun bt361 => (if bt359.2 = 0 then (if bt359.1 = a0 then (if bt361.2 = 0 then (if bt361.1 = a0 then (some false) else (examinerlaw08_BitsShortest.j0 k a0 a1)) else (examinerlaw08_BitsShortest.j0 k a0 a1)) else (some false)) else (some false))) else (none))) else (none))))) else (examinerlaw08_BitsShortest.j0 k a0 a1))) else (some false)) = some r := H
  have A3 := Aside0.mk A30
  clear A30
  by_cases c4 : t354 = true
  · subst c4
    have H1 : ((bits_SignedOf.f k a0).bind fun bt355 => (if bt355.2 = 0 then (if bt355.1.toList = ([] : List UInt8) then (some false) else ((examinerbase_Count.f (decide (a0 < 0))).bind fun t357 => ((examinerref08_Octet.f (wrap64 (255 * t357))).bind fun t358 => (if t358.size + bt355.1.size ≤ 9223372036854775807 then ((bits_SignedIn.f k (t358 ++ bt355.1)).bind fun bt359 => (if 1 ≤ (bt355.1.size : Int) then ((bits_SignedIn.f k (bt355.1.extract 1 bt355.1.size)).bind fun bt361 => (if bt359.2 = 0 then (if bt359.1 = a0 then (if bt361.2 = 0 then (if bt361.1 = a0 then (some false) else (examinerlaw08_BitsShortest.j0 k a0 a1)) else (examinerlaw08_BitsShortest.j0 k a0 a1)) else (some false)) else (some false))) else (none))) else (none))))) else (examinerlaw08_BitsShortest.j0 k a0 a1))) = some r := by rw [if_pos rfl] at H; exact H
    clear H
    have H := H1
    clear H1
    replace H := Option.bind_eq_some_iff.mp H
    obtain ⟨⟨t355, t356⟩, A50, H⟩ := H
    replace H : (if t356 = 0 then (if t355.toList = ([] : List UInt8) then (some false) else ((examinerbase_Count.f (decide (a0 < 0))).bind fun t357 => ((examinerref08_Octet.f (wrap64 (255 * t357))).bind fun t358 => (if t358.size + t355.size ≤ 9223372036854775807 then ((bits_SignedIn.f k (t358 ++ t355)).bind fun bt359 => (if 1 ≤ (t355.size : Int) then ((bits_SignedIn.f k (t355.extract 1 t355.size)).bind fun bt361 => (if bt359.2 = 0 then (if bt359.1 = a0 then (if bt361.2 = 0 then (if bt361.1 = a0 then (some false) else (examinerlaw08_BitsShortest.j0 k a0 a1)) else (examinerlaw08_BitsShortest.j0 k a0 a1)) else (some false)) else (some false))) else (none))) else (none))))) else (examinerlaw08_BitsShortest.j0 k a0 a1)) = some r := H
    have A5 := Aside0.mk A50
    clear A50
    have HC6 := Aside0.mk H
    clear H
    go_enter Tryd.func7, Tryd.ntmps7
    go_upto_if 30 with (first | ((with_reducible refine gate_callee (f := 11) rfl ?_); refine goesL_ (some 22) rfl rfl Tryd.func11 (by kernel_rfl) rfl #[] rfl (by (try simp only [List.map_toArray, List.map_cons, List.map_nil]); first | done | rfl | (simp only [List.length_drop, List.length_take]; rfl)) ?_; (with_reducible refine (examinerlaw08_awake.calls k  true _ A3.out).mono ?_); rintro e w7 ⟨rfl, hb⟩; refine ⟨_, rfl, ?_⟩; have n0_ := Aside0.mk (below_step (by repeat (first | (with_reducible first | exact HB.out | apply below_alloc | apply pw_below_drewN | apply below_drew1) | exact HB.out)) hb); clear HB; have HB := n0_; clear n0_; (try clear hb); (try clear hb2); (try clear hk); (try clear hi)) | ((with_reducible refine gate_callee (f := 35) rfl ?_); refine goesL_ (some 26) rfl rfl Tryd.func35 (by kernel_rfl) rfl #[.int .i64 a0] rfl (by (try simp only [List.map_toArray, List.map_cons, List.map_nil]); first | done | rfl | (simp only [List.length_drop, List.length_take]; rfl)) ?_; (with_reducible refine (bits_SignedOf.calls k a0 t355 t356 _ A5.out).mono ?_); rintro e w8 ⟨rfl, hb⟩; refine ⟨_, rfl, ?_⟩; have n0_ := Aside0.mk (below_step (by repeat (first | (with_reducible first | exact HB.out | apply below_alloc | apply pw_below_drewN | apply below_drew1) | exact HB.out)) hb); clear HB; have HB := n0_; clear n0_; (try clear hb); (try clear hb2); (try clear hk); (try clear hi)))
    (try simp only [Act.put, List.setIfInBounds_toArray, List.set_cons_zero, List.set_cons_succ])
    go_cut [] (fun wc => ∃ (kq : Nat), Aside0 (examinerlaw08_BitsShortest.j0 kq a0 a1 = some r) ∧ Aside0 (kq ≤ k) ∧ Aside0 (Below w.heap.size w wc))
    case first =>
      have H := HC6.out
      clear HC6
      by_cases c9 : t356 = 0
      · rw [if_pos c9] at H
        have c9b0 : (t356 == 0) = true := beq_iff_eq.mpr c9
        have c9b1 : (t356 != 0) = false := bne_eq_false_iff_eq.mpr c9
        clear c9
        (first | rw [c9b0] | (simp only [i64_w, i32_w]; rw [c9b0]) | skip)
        by_cases c10 : t355.toList = ([] : List UInt8)
        · rw [if_pos c10] at H
          have c10b0 : (t355.toList == ([] : List UInt8)) = true := beq_iff_eq.mpr c10
          have c10b1 : (t355.toList != ([] : List UInt8)) = false := bne_eq_false_iff_eq.mpr c10
          clear c10
          obtain rfl := Option.some.inj H
          go_wp2
          go_ret
          exact ⟨by first | rfl | (simp [errW_none, errW_some] <;> rfl) | (simp [*, errW_none, errW_some] <;> rfl), by repeat (first | (with_reducible first | exact HB.out | apply below_alloc | apply pw_below_drewN | apply below_drew1) | exact HB.out)⟩
        · rw [if_neg c10] at H
          have c10b0 : (t355.toList == ([] : List UInt8)) = false := beq_eq_false_iff_ne.mpr c10
          have c10b1 : (t355.toList != ([] : List UInt8)) = true := bne_iff_ne.mpr c10
          replace H := Option.bind_eq_some_iff.mp H
          obtain ⟨t357, A110, H⟩ := H
          replace H : ((examinerref08_Octet.f (wrap64 (255 * t357))).bind fun t358 => (if t358.size + t355.size ≤ 9223372036854775807 then ((bits_SignedIn.f k (t358 ++ t355)).bind fun bt359 => (if 1 ≤ (t355.size : Int) then ((bits_SignedIn.f k (t355.extract 1 t355.size)).bind fun bt361 => (if bt359.2 = 0 then (if bt359.1 = a0 then (if bt361.2 = 0 then (if bt361.1 = a0 then (some false) else (examinerlaw08_BitsShortest.j0 k a0 a1)) else (examinerlaw08_BitsShortest.j0 k a0 a1)) else (some false)) else (some false))) else (none))) else (none))) = some r := H
          have A11 := Aside0.mk A110
          clear A110
          replace H := Option.bind_eq_some_iff.mp H
          obtain ⟨t358, A120, H⟩ := H
          replace H : (if t358.size + t355.size ≤ 9223372036854775807 then ((bits_SignedIn.f k (t358 ++ t355)).bind fun bt359 => (if 1 ≤ (t355.size : Int) then ((bits_SignedIn.f k (t355.extract 1 t355.size)).bind fun bt361 => (if bt359.2 = 0 then (if bt359.1 = a0 then (if bt361.2 = 0 then (if bt361.1 = a0 then (some false) else (examinerlaw08_BitsShortest.j0 k a0 a1)) else (examinerlaw08_BitsShortest.j0 k a0 a1)) else (some false)) else (some false))) else (none))) else (none)) = some r := H
          have A12 := Aside0.mk A120
          clear A120
          by_cases c13 : t358.size + t355.size ≤ 9223372036854775807
          · rw [if_pos c13] at H
            have c13b0 := eq_true c13
            have c13b1 : decide (t358.size + t355.size ≤ 9223372036854775807) = true := decide_eq_true c13
            try have c13b2 : (9223372036854775807 < t358.size + t355.size) = False := eq_false (Nat.not_lt.2 c13)
            replace H := Option.bind_eq_some_iff.mp H
            obtain ⟨⟨t359, t360⟩, A140, H⟩ := H
            replace H : (if 1 ≤ (t355.size : Int) then ((bits_SignedIn.f k (t355.extract 1 t355.size)).bind fun bt361 => (if t360 = 0 then (if t359 = a0 then (if bt361.2 = 0 then (if bt361.1 = a0 then (some false) else (examinerlaw08_BitsShortest.j0 k a0 a1)) else (examinerlaw08_BitsShortest.j0 k a0 a1)) else (some false)) else (some false))) else (none)) = some r := H
            have A14 := Aside0.mk A140
            clear A140
            by_cases c15 : 1 ≤ (t355.size : Int)
            · rw [if_pos c15] at H
              have c15b0 := eq_true c15
              have c15b1 : decide (1 ≤ (t355.size : Int)) = true := decide_eq_true c15
              clear c15
              replace H := Option.bind_eq_some_iff.mp H
              obtain ⟨⟨t361, t362⟩, A160, H⟩ := H
              replace H : (if t360 = 0 then (if t359 = a0 then (if t362 = 0 then (if t361 = a0 then (some false) else (examinerlaw08_BitsShortest.j0 k a0 a1)) else (examinerlaw08_BitsShortest.j0 k a0 a1)) else (some false)) else (some false)) = some r := H
              have A16 := Aside0.mk A160
              clear A160
              by_cases c17 : t360 = 0
              · rw [if_pos c17] at H
                have c17b0 : (t360 == 0) = true := beq_iff_eq.mpr c17
                have c17b1 : (t360 != 0) = false := bne_eq_false_iff_eq.mpr c17
                clear c17
                by_cases c18 : t359 = a0
                · rw [if_pos c18] at H
                  have c18b0 : (t359 == a0) = true := beq_iff_eq.mpr c18
                  have c18b1 : (t359 != a0) = false := bne_eq_false_iff_eq.mpr c18
                  clear c18
                  by_cases c19 : t362 = 0
                  · rw [if_pos c19] at H
                    have c19b0 : (t362 == 0) = true := beq_iff_eq.mpr c19
                    have c19b1 : (t362 != 0) = false := bne_eq_false_iff_eq.mpr c19
                    clear c19
                    by_cases c20 : t361 = a0
                    · rw [if_pos c20] at H
                      have c20b0 : (t361 == a0) = true := beq_iff_eq.mpr c20
                      have c20b1 : (t361 != a0) = false := bne_eq_false_iff_eq.mpr c20
                      clear c20
                      obtain rfl := Option.some.inj H
                      go_wp2_with (first | ((with_reducible refine gate_callee (f := 42) rfl ?_); refine goesL_ (some 35) rfl rfl Tryd.func42 (by kernel_rfl) rfl #[.bool (decide (a0 < 0))] rfl (by (try simp only [List.map_toArray, List.map_cons, List.map_nil]); first | done | rfl | (simp only [List.length_drop, List.length_take]; rfl)) ?_; (with_reducible refine (examinerbase_Count.calls (decide (a0 < 0)) t357 _ A11.out).mono ?_); rintro e w' ⟨rfl, ⟨nd, rfl⟩⟩; refine ⟨_, rfl, ?_⟩) | ((with_reducible refine gate_callee (f := 41) rfl ?_); refine goesL_ (some 37) rfl rfl Tryd.func41 (by kernel_rfl) rfl #[.int .i64 (wrap64 (255 * t357))] rfl (by (try simp only [List.map_toArray, List.map_cons, List.map_nil]); first | done | rfl | (simp only [List.length_drop, List.length_take]; rfl)) ?_; (with_reducible refine (examinerref08_Octet.calls (wrap64 (255 * t357)) t358 _ A12.out).mono ?_); rintro e w21 ⟨rfl, hb⟩; refine ⟨_, rfl, ?_⟩; have n0_ := Aside0.mk (below_step (by repeat (first | (with_reducible first | exact HB.out | apply below_alloc | apply pw_below_drewN | apply below_drew1) | exact HB.out)) hb); clear HB; have HB := n0_; clear n0_; (try clear hb); (try clear hb2); (try clear hk); (try clear hi)) | ((with_reducible refine gate_callee (f := 43) rfl ?_); refine goesL_ (some 42) rfl rfl Tryd.func43 (by kernel_rfl) rfl #[.string (t358 ++ t355)] rfl (by (try simp only [List.map_toArray, List.map_cons, List.map_nil]); first | done | rfl | (simp only [List.length_drop, List.length_take]; rfl)) ?_; (with_reducible refine (bits_SignedIn.calls k (t358 ++ t355) t359 t360 _ A14.out).mono ?_); rintro e w' ⟨rfl, ⟨nd, rfl⟩⟩; refine ⟨_, rfl, ?_⟩) | ((with_reducible refine gate_callee (f := 43) rfl ?_); refine goesL_ (some 48) rfl rfl Tryd.func43 (by kernel_rfl) rfl #[.string (t355.extract 1 t355.size)] rfl (by (try simp only [List.map_toArray, List.map_cons, List.map_nil]); first | done | rfl | (simp only [List.length_drop, List.length_take]; rfl)) ?_; (with_reducible refine (bits_SignedIn.calls k (t355.extract 1 t355.size) t361 t362 _ A16.out).mono ?_); rintro e w' ⟨rfl, ⟨nd, rfl⟩⟩; refine ⟨_, rfl, ?_⟩))
                      go_ret
                      exact ⟨by first | rfl | (simp [errW_none, errW_some] <;> rfl) | (simp [*, errW_none, errW_some] <;> rfl), by repeat (first | (with_reducible first | exact HB.out | apply below_alloc | apply pw_below_drewN | apply below_drew1) | exact HB.out)⟩
                    · rw [if_neg c20] at H
                      have c20b0 : (t361 == a0) = false := beq_eq_false_iff_ne.mpr c20
                      have c20b1 : (t361 != a0) = true := bne_iff_ne.mpr c20
                      have H' := Aside0.mk H
                      clear H
                      go_wp2_with (first | ((with_reducible refine gate_callee (f := 42) rfl ?_); refine goesL_ (some 35) rfl rfl Tryd.func42 (by kernel_rfl) rfl #[.bool (decide (a0 < 0))] rfl (by (try simp only [List.map_toArray, List.map_cons, List.map_nil]); first | done | rfl | (simp only [List.length_drop, List.length_take]; rfl)) ?_; (with_reducible refine (examinerbase_Count.calls (decide (a0 < 0)) t357 _ A11.out).mono ?_); rintro e w' ⟨rfl, ⟨nd, rfl⟩⟩; refine ⟨_, rfl, ?_⟩) | ((with_reducible refine gate_callee (f := 41) rfl ?_); refine goesL_ (some 37) rfl rfl Tryd.func41 (by kernel_rfl) rfl #[.int .i64 (wrap64 (255 * t357))] rfl (by (try simp only [List.map_toArray, List.map_cons, List.map_nil]); first | done | rfl | (simp only [List.length_drop, List.length_take]; rfl)) ?_; (with_reducible refine (examinerref08_Octet.calls (wrap64 (255 * t357)) t358 _ A12.out).mono ?_); rintro e w22 ⟨rfl, hb⟩; refine ⟨_, rfl, ?_⟩; have n0_ := Aside0.mk (below_step (by repeat (first | (with_reducible first | exact HB.out | apply below_alloc | apply pw_below_drewN | apply below_drew1) | exact HB.out)) hb); clear HB; have HB := n0_; clear n0_; (try clear hb); (try clear hb2); (try clear hk); (try clear hi)) | ((with_reducible refine gate_callee (f := 43) rfl ?_); refine goesL_ (some 42) rfl rfl Tryd.func43 (by kernel_rfl) rfl #[.string (t358 ++ t355)] rfl (by (try simp only [List.map_toArray, List.map_cons, List.map_nil]); first | done | rfl | (simp only [List.length_drop, List.length_take]; rfl)) ?_; (with_reducible refine (bits_SignedIn.calls k (t358 ++ t355) t359 t360 _ A14.out).mono ?_); rintro e w' ⟨rfl, ⟨nd, rfl⟩⟩; refine ⟨_, rfl, ?_⟩) | ((with_reducible refine gate_callee (f := 43) rfl ?_); refine goesL_ (some 48) rfl rfl Tryd.func43 (by kernel_rfl) rfl #[.string (t355.extract 1 t355.size)] rfl (by (try simp only [List.map_toArray, List.map_cons, List.map_nil]); first | done | rfl | (simp only [List.length_drop, List.length_take]; rfl)) ?_; (with_reducible refine (bits_SignedIn.calls k (t355.extract 1 t355.size) t361 t362 _ A16.out).mono ?_); rintro e w' ⟨rfl, ⟨nd, rfl⟩⟩; refine ⟨_, rfl, ?_⟩))
                      go_meet
                      case rel => exact ⟨_, H', ⟨by first | omega | exact Nat.le_refl _⟩, ⟨by repeat (first | (with_reducible first | exact HB.out | apply below_alloc | apply pw_below_drewN | apply below_drew1) | exact HB.out)⟩⟩
                  · rw [if_neg c19] at H
                    have c19b0 : (t362 == 0) = false := beq_eq_false_iff_ne.mpr c19
                    have c19b1 : (t362 != 0) = true := bne_iff_ne.mpr c19
                    have H' := Aside0.mk H
                    clear H
                    go_wp2_with (first | ((with_reducible refine gate_callee (f := 42) rfl ?_); refine goesL_ (some 35) rfl rfl Tryd.func42 (by kernel_rfl) rfl #[.bool (decide (a0 < 0))] rfl (by (try simp only [List.map_toArray, List.map_cons, List.map_nil]); first | done | rfl | (simp only [List.length_drop, List.length_take]; rfl)) ?_; (with_reducible refine (examinerbase_Count.calls (decide (a0 < 0)) t357 _ A11.out).mono ?_); rintro e w' ⟨rfl, ⟨nd, rfl⟩⟩; refine ⟨_, rfl, ?_⟩) | ((with_reducible refine gate_callee (f := 41) rfl ?_); refine goesL_ (some 37) rfl rfl Tryd.func41 (by kernel_rfl) rfl #[.int .i64 (wrap64 (255 * t357))] rfl (by (try simp only [List.map_toArray, List.map_cons, List.map_nil]); first | done | rfl | (simp only [List.length_drop, List.length_take]; rfl)) ?_; (with_reducible refine (examinerref08_Octet.calls (wrap64 (255 * t357)) t358 _ A12.out).mono ?_); rintro e w23 ⟨rfl, hb⟩; refine ⟨_, rfl, ?_⟩; have n0_ := Aside0.mk (below_step (by repeat (first | (with_reducible first | exact HB.out | apply below_alloc | apply pw_below_drewN | apply below_drew1) | exact HB.out)) hb); clear HB; have HB := n0_; clear n0_; (try clear hb); (try clear hb2); (try clear hk); (try clear hi)) | ((with_reducible refine gate_callee (f := 43) rfl ?_); refine goesL_ (some 42) rfl rfl Tryd.func43 (by kernel_rfl) rfl #[.string (t358 ++ t355)] rfl (by (try simp only [List.map_toArray, List.map_cons, List.map_nil]); first | done | rfl | (simp only [List.length_drop, List.length_take]; rfl)) ?_; (with_reducible refine (bits_SignedIn.calls k (t358 ++ t355) t359 t360 _ A14.out).mono ?_); rintro e w' ⟨rfl, ⟨nd, rfl⟩⟩; refine ⟨_, rfl, ?_⟩) | ((with_reducible refine gate_callee (f := 43) rfl ?_); refine goesL_ (some 48) rfl rfl Tryd.func43 (by kernel_rfl) rfl #[.string (t355.extract 1 t355.size)] rfl (by (try simp only [List.map_toArray, List.map_cons, List.map_nil]); first | done | rfl | (simp only [List.length_drop, List.length_take]; rfl)) ?_; (with_reducible refine (bits_SignedIn.calls k (t355.extract 1 t355.size) t361 t362 _ A16.out).mono ?_); rintro e w' ⟨rfl, ⟨nd, rfl⟩⟩; refine ⟨_, rfl, ?_⟩))
                    go_meet
                    case rel => exact ⟨_, H', ⟨by first | omega | exact Nat.le_refl _⟩, ⟨by repeat (first | (with_reducible first | exact HB.out | apply below_alloc | apply pw_below_drewN | apply below_drew1) | exact HB.out)⟩⟩
                · rw [if_neg c18] at H
                  have c18b0 : (t359 == a0) = false := beq_eq_false_iff_ne.mpr c18
                  have c18b1 : (t359 != a0) = true := bne_iff_ne.mpr c18
                  obtain rfl := Option.some.inj H
                  go_wp2_with (first | ((with_reducible refine gate_callee (f := 42) rfl ?_); refine goesL_ (some 35) rfl rfl Tryd.func42 (by kernel_rfl) rfl #[.bool (decide (a0 < 0))] rfl (by (try simp only [List.map_toArray, List.map_cons, List.map_nil]); first | done | rfl | (simp only [List.length_drop, List.length_take]; rfl)) ?_; (with_reducible refine (examinerbase_Count.calls (decide (a0 < 0)) t357 _ A11.out).mono ?_); rintro e w' ⟨rfl, ⟨nd, rfl⟩⟩; refine ⟨_, rfl, ?_⟩) | ((with_reducible refine gate_callee (f := 41) rfl ?_); refine goesL_ (some 37) rfl rfl Tryd.func41 (by kernel_rfl) rfl #[.int .i64 (wrap64 (255 * t357))] rfl (by (try simp only [List.map_toArray, List.map_cons, List.map_nil]); first | done | rfl | (simp only [List.length_drop, List.length_take]; rfl)) ?_; (with_reducible refine (examinerref08_Octet.calls (wrap64 (255 * t357)) t358 _ A12.out).mono ?_); rintro e w24 ⟨rfl, hb⟩; refine ⟨_, rfl, ?_⟩; have n0_ := Aside0.mk (below_step (by repeat (first | (with_reducible first | exact HB.out | apply below_alloc | apply pw_below_drewN | apply below_drew1) | exact HB.out)) hb); clear HB; have HB := n0_; clear n0_; (try clear hb); (try clear hb2); (try clear hk); (try clear hi)) | ((with_reducible refine gate_callee (f := 43) rfl ?_); refine goesL_ (some 42) rfl rfl Tryd.func43 (by kernel_rfl) rfl #[.string (t358 ++ t355)] rfl (by (try simp only [List.map_toArray, List.map_cons, List.map_nil]); first | done | rfl | (simp only [List.length_drop, List.length_take]; rfl)) ?_; (with_reducible refine (bits_SignedIn.calls k (t358 ++ t355) t359 t360 _ A14.out).mono ?_); rintro e w' ⟨rfl, ⟨nd, rfl⟩⟩; refine ⟨_, rfl, ?_⟩) | ((with_reducible refine gate_callee (f := 43) rfl ?_); refine goesL_ (some 48) rfl rfl Tryd.func43 (by kernel_rfl) rfl #[.string (t355.extract 1 t355.size)] rfl (by (try simp only [List.map_toArray, List.map_cons, List.map_nil]); first | done | rfl | (simp only [List.length_drop, List.length_take]; rfl)) ?_; (with_reducible refine (bits_SignedIn.calls k (t355.extract 1 t355.size) t361 t362 _ A16.out).mono ?_); rintro e w' ⟨rfl, ⟨nd, rfl⟩⟩; refine ⟨_, rfl, ?_⟩))
                  go_ret
                  exact ⟨by first | rfl | (simp [errW_none, errW_some] <;> rfl) | (simp [*, errW_none, errW_some] <;> rfl), by repeat (first | (with_reducible first | exact HB.out | apply below_alloc | apply pw_below_drewN | apply below_drew1) | exact HB.out)⟩
              · rw [if_neg c17] at H
                have c17b0 : (t360 == 0) = false := beq_eq_false_iff_ne.mpr c17
                have c17b1 : (t360 != 0) = true := bne_iff_ne.mpr c17
                obtain rfl := Option.some.inj H
                go_wp2_with (first | ((with_reducible refine gate_callee (f := 42) rfl ?_); refine goesL_ (some 35) rfl rfl Tryd.func42 (by kernel_rfl) rfl #[.bool (decide (a0 < 0))] rfl (by (try simp only [List.map_toArray, List.map_cons, List.map_nil]); first | done | rfl | (simp only [List.length_drop, List.length_take]; rfl)) ?_; (with_reducible refine (examinerbase_Count.calls (decide (a0 < 0)) t357 _ A11.out).mono ?_); rintro e w' ⟨rfl, ⟨nd, rfl⟩⟩; refine ⟨_, rfl, ?_⟩) | ((with_reducible refine gate_callee (f := 41) rfl ?_); refine goesL_ (some 37) rfl rfl Tryd.func41 (by kernel_rfl) rfl #[.int .i64 (wrap64 (255 * t357))] rfl (by (try simp only [List.map_toArray, List.map_cons, List.map_nil]); first | done | rfl | (simp only [List.length_drop, List.length_take]; rfl)) ?_; (with_reducible refine (examinerref08_Octet.calls (wrap64 (255 * t357)) t358 _ A12.out).mono ?_); rintro e w25 ⟨rfl, hb⟩; refine ⟨_, rfl, ?_⟩; have n0_ := Aside0.mk (below_step (by repeat (first | (with_reducible first | exact HB.out | apply below_alloc | apply pw_below_drewN | apply below_drew1) | exact HB.out)) hb); clear HB; have HB := n0_; clear n0_; (try clear hb); (try clear hb2); (try clear hk); (try clear hi)) | ((with_reducible refine gate_callee (f := 43) rfl ?_); refine goesL_ (some 42) rfl rfl Tryd.func43 (by kernel_rfl) rfl #[.string (t358 ++ t355)] rfl (by (try simp only [List.map_toArray, List.map_cons, List.map_nil]); first | done | rfl | (simp only [List.length_drop, List.length_take]; rfl)) ?_; (with_reducible refine (bits_SignedIn.calls k (t358 ++ t355) t359 t360 _ A14.out).mono ?_); rintro e w' ⟨rfl, ⟨nd, rfl⟩⟩; refine ⟨_, rfl, ?_⟩) | ((with_reducible refine gate_callee (f := 43) rfl ?_); refine goesL_ (some 48) rfl rfl Tryd.func43 (by kernel_rfl) rfl #[.string (t355.extract 1 t355.size)] rfl (by (try simp only [List.map_toArray, List.map_cons, List.map_nil]); first | done | rfl | (simp only [List.length_drop, List.length_take]; rfl)) ?_; (with_reducible refine (bits_SignedIn.calls k (t355.extract 1 t355.size) t361 t362 _ A16.out).mono ?_); rintro e w' ⟨rfl, ⟨nd, rfl⟩⟩; refine ⟨_, rfl, ?_⟩))
                go_ret
                exact ⟨by first | rfl | (simp [errW_none, errW_some] <;> rfl) | (simp [*, errW_none, errW_some] <;> rfl), by repeat (first | (with_reducible first | exact HB.out | apply below_alloc | apply pw_below_drewN | apply below_drew1) | exact HB.out)⟩
            · rw [if_neg c15] at H
              exact absurd H (by simp)
          · rw [if_neg c13] at H
            exact absurd H (by simp)
      · rw [if_neg c9] at H
        have c9b0 : (t356 == 0) = false := beq_eq_false_iff_ne.mpr c9
        have c9b1 : (t356 != 0) = true := bne_iff_ne.mpr c9
        (first | rw [c9b0] | (simp only [i64_w, i32_w]; rw [c9b0]) | skip)
        have H' := Aside0.mk H
        clear H
        go_wp2
        go_meet
        case rel => exact ⟨_, H', ⟨by first | omega | exact Nat.le_refl _⟩, ⟨by repeat (first | (with_reducible first | exact HB.out | apply below_alloc | apply pw_below_drewN | apply below_drew1) | exact HB.out)⟩⟩
    case rest =>
      clear HC6
      try clear c1
      try clear c2
      try clear p2
      try clear c3
      try clear c4
      try clear p6
      try clear c7
      try clear c9
      try clear c9b0
      try clear c9b1
      try clear c10
      try clear c10b0
      try clear c10b1
      try clear c11
      try clear c13
      try clear c13b0
      try clear c13b1
      try clear c13b2
      try clear c15
      try clear c15b0
      try clear c15b1
      try clear c17
      try clear c17b0
      try clear c17b1
      try clear c18
      try clear c18b0
      try clear c18b1
      try clear c19
      try clear c19b0
      try clear c19b1
      try clear c20
      try clear c20b0
      try clear c20b1
      obtain ⟨kq, HA, HJ5, HB⟩ := hcut
      cases kq with
      | zero => exact absurd HA.out (by simp [examinerlaw08_BitsShortest.j0])
      | succ kj5 =>
        have H := HA.out
        clear HA
        simp only [examinerlaw08_BitsShortest.j0] at H
        have HC26 := Aside0.mk H
        clear H
        go_upto_region 12 with (fail)
        go_cut [74] (fun v74 wc => ∃ (kq : Nat) (x74_25 : Bool), v74 = .bool x74_25 ∧ Aside0 (examinerlaw08_BitsShortest.j1 kq a0 a1 x74_25 = some r) ∧ Aside0 (kq ≤ kj5) ∧ Aside0 (Below w.heap.size w wc))
        case first =>
          have H := HC26.out
          clear HC26
          replace H := Option.bind_eq_some_iff.mp H
          obtain ⟨t363, A270, H⟩ := H
          replace H : (if t363 = true then ((examinerbase_Within.f a1 0 1152921504606846976).bind fun t364 => (examinerlaw08_BitsShortest.j1 kj5 a0 a1 (!t364))) else (examinerlaw08_BitsShortest.j1 kj5 a0 a1 true)) = some r := H
          have A27 := Aside0.mk A270
          clear A270
          by_cases c28 : t363 = true
          · subst c28
            have H1 : ((examinerbase_Within.f a1 0 1152921504606846976).bind fun t364 => (examinerlaw08_BitsShortest.j1 kj5 a0 a1 (!t364))) = some r := by rw [if_pos rfl] at H; exact H
            clear H
            have H := H1
            clear H1
            replace H := Option.bind_eq_some_iff.mp H
            obtain ⟨t364, A290, H⟩ := H
            replace H : (examinerlaw08_BitsShortest.j1 kj5 a0 a1 (!t364)) = some r := H
            have A29 := Aside0.mk A290
            clear A290
            have H' := Aside0.mk H
            clear H
            go_wp2_with (first | ((with_reducible refine gate_callee (f := 28) rfl ?_); refine goesL_ (some 68) rfl rfl Tryd.func28 (by kernel_rfl) rfl #[.int .i64 a0, .int .i64 0, .int .i64 1152921504606846976] rfl (by (try simp only [List.map_toArray, List.map_cons, List.map_nil]); first | done | rfl | (simp only [List.length_drop, List.length_take]; rfl)) ?_; (with_reducible refine (examinerbase_Within.calls a0 0 1152921504606846976 true _ A27.out).mono ?_); rintro e w' ⟨rfl, ⟨nd, rfl⟩⟩; refine ⟨_, rfl, ?_⟩) | (go_at_call 28; (with_reducible refine (examinerbase_Within.calls a1 0 1152921504606846976 t364 _ A29.out).mono ?_); rintro e w' ⟨rfl, ⟨nd, rfl⟩⟩))
            go_meet
            case rel => exact ⟨_, (!t364), (by first | rfl | (simp; done) | (simp [*]; done)), H', ⟨by have := HJ5.out; first | omega | exact Nat.le_refl _⟩, ⟨by repeat (first | (with_reducible first | exact HB.out | apply below_alloc | apply pw_below_drewN | apply below_drew1) | exact HB.out)⟩⟩
          · replace c28 := Bool.eq_false_iff.mpr c28
            subst c28
            have H1 : (examinerlaw08_BitsShortest.j1 kj5 a0 a1 true) = some r := by rw [if_neg (show ¬ (false = true) by decide)] at H; exact H
            clear H
            have H := H1
            clear H1
            have H' := Aside0.mk H
            clear H
            go_wp2_with (first | ((with_reducible refine gate_callee (f := 28) rfl ?_); refine goesL_ (some 68) rfl rfl Tryd.func28 (by kernel_rfl) rfl #[.int .i64 a0, .int .i64 0, .int .i64 1152921504606846976] rfl (by (try simp only [List.map_toArray, List.map_cons, List.map_nil]); first | done | rfl | (simp only [List.length_drop, List.length_take]; rfl)) ?_; (with_reducible refine (examinerbase_Within.calls a0 0 1152921504606846976 false _ A27.out).mono ?_); rintro e w' ⟨rfl, ⟨nd, rfl⟩⟩; refine ⟨_, rfl, ?_⟩))
            go_meet
            case rel => exact ⟨_, (true), (by first | rfl | (simp; done) | (simp [*]; done)), H', ⟨by have := HJ5.out; first | omega | exact Nat.le_refl _⟩, ⟨by repeat (first | (with_reducible first | exact HB.out | apply below_alloc | apply pw_below_drewN | apply below_drew1) | exact HB.out)⟩⟩
        case rest =>
          clear HC26
          try clear c1
          try clear c2
          try clear p2
          try clear c3
          try clear c4
          try clear p6
          try clear c7
          try clear c9
          try clear c9b0
          try clear c9b1
          try clear c10
          try clear c10b0
          try clear c10b1
          try clear c11
          try clear c13
          try clear c13b0
          try clear c13b1
          try clear c13b2
          try clear c15
          try clear c15b0
          try clear c15b1
          try clear c17
          try clear c17b0
          try clear c17b1
          try clear c18
          try clear c18b0
          try clear c18b1
          try clear c19
          try clear c19b0
          try clear c19b1
          try clear c20
          try clear c20b0
          try clear c20b1
          try clear c28
          try clear p2
          try clear p6
          obtain ⟨kq, x74_25, rfl, HA, HJ25, HB⟩ := hcut
          cases kq with
          | zero => exact absurd HA.out (by simp [examinerlaw08_BitsShortest.j1])
          | succ kj25 =>
            have H := HA.out
            clear HA
            simp only [examinerlaw08_BitsShortest.j1] at H
            by_cases c30 : x74_25 = true
            · subst c30
              have H1 : (some true) = some r := by rw [if_pos rfl] at H; exact H
              clear H
              have H := H1
              clear H1
              obtain rfl := Option.some.inj H
              go_wp2
              go_ret
              exact ⟨by first | rfl | (simp [errW_none, errW_some] <;> rfl) | (simp [*, errW_none, errW_some] <;> rfl), by repeat (first | (with_reducible first | exact HB.out | apply below_alloc | apply pw_below_drewN | apply below_drew1) | exact HB.out)⟩
            · replace c30 := Bool.eq_false_iff.mpr c30
              subst c30
              have H1 : ((bits_UnsignedOf.f a0).bind fun bt365 => ((bits_UnsignedOf.f a1).bind fun bt367 => ((bits_SeptetsOf.f kj25 a0).bind fun bt369 => ((bits_SeptetsOf.f kj25 a1).bind fun bt371 => (if bt365.2 = 0 then (if bt367.2 = 0 then (if bt369.2 = 0 then (if bt371.2 = 0 then (examinerlaw08_BitsShortest.j2 kj25 a0 a1 bt365.1 bt367.1 bt369.1 bt371.1 (bt365.1.toList == ([] : List UInt8))) else (examinerlaw08_BitsShortest.j2 kj25 a0 a1 bt365.1 bt367.1 bt369.1 bt371.1 true)) else (examinerlaw08_BitsShortest.j2 kj25 a0 a1 bt365.1 bt367.1 bt369.1 bt371.1 true)) else (examinerlaw08_BitsShortest.j2 kj25 a0 a1 bt365.1 bt367.1 bt369.1 bt371.1 true)) else (examinerlaw08_BitsShortest.j2 kj25 a0 a1 bt365.1 bt367.1 bt369.1 bt371.1 true)))))) = some r := by rw [if_neg (show ¬ (false = true) by decide)] at H; exact H
              clear H
              have H := H1
              clear H1
              replace H := Option.bind_eq_some_iff.mp H
              obtain ⟨⟨t365, t366⟩, A310, H⟩ := H
              replace H : ((bits_UnsignedOf.f a1).bind fun bt367 => ((bits_SeptetsOf.f kj25 a0).bind fun bt369 => ((bits_SeptetsOf.f kj25 a1).bind fun bt371 => (if t366 = 0 then (if bt367.2 = 0 then (if bt369.2 = 0 then (if bt371.2 = 0 then (examinerlaw08_BitsShortest.j2 kj25 a0 a1 t365 bt367.1 bt369.1 bt371.1 (t365.toList == ([] : List UInt8))) else (examinerlaw08_BitsShortest.j2 kj25 a0 a1 t365 bt367.1 bt369.1 bt371.1 true)) else (examinerlaw08_BitsShortest.j2 kj25 a0 a1 t365 bt367.1 bt369.1 bt371.1 true)) else (examinerlaw08_BitsShortest.j2 kj25 a0 a1 t365 bt367.1 bt369.1 bt371.1 true)) else (examinerlaw08_BitsShortest.j2 kj25 a0 a1 t365 bt367.1 bt369.1 bt371.1 true))))) = some r := H
              have A31 := Aside0.mk A310
              clear A310
              replace H := Option.bind_eq_some_iff.mp H
              obtain ⟨⟨t367, t368⟩, A320, H⟩ := H
              replace H : ((bits_SeptetsOf.f kj25 a0).bind fun bt369 => ((bits_SeptetsOf.f kj25 a1).bind fun bt371 => (if t366 = 0 then (if t368 = 0 then (if bt369.2 = 0 then (if bt371.2 = 0 then (examinerlaw08_BitsShortest.j2 kj25 a0 a1 t365 t367 bt369.1 bt371.1 (t365.toList == ([] : List UInt8))) else (examinerlaw08_BitsShortest.j2 kj25 a0 a1 t365 t367 bt369.1 bt371.1 true)) else (examinerlaw08_BitsShortest.j2 kj25 a0 a1 t365 t367 bt369.1 bt371.1 true)) else (examinerlaw08_BitsShortest.j2 kj25 a0 a1 t365 t367 bt369.1 bt371.1 true)) else (examinerlaw08_BitsShortest.j2 kj25 a0 a1 t365 t367 bt369.1 bt371.1 true)))) = some r := H
              have A32 := Aside0.mk A320
              clear A320
              replace H := Option.bind_eq_some_iff.mp H
              obtain ⟨⟨t369, t370⟩, A330, H⟩ := H
              replace H : ((bits_SeptetsOf.f kj25 a1).bind fun bt371 => (if t366 = 0 then (if t368 = 0 then (if t370 = 0 then (if bt371.2 = 0 then (examinerlaw08_BitsShortest.j2 kj25 a0 a1 t365 t367 t369 bt371.1 (t365.toList == ([] : List UInt8))) else (examinerlaw08_BitsShortest.j2 kj25 a0 a1 t365 t367 t369 bt371.1 true)) else (examinerlaw08_BitsShortest.j2 kj25 a0 a1 t365 t367 t369 bt371.1 true)) else (examinerlaw08_BitsShortest.j2 kj25 a0 a1 t365 t367 t369 bt371.1 true)) else (examinerlaw08_BitsShortest.j2 kj25 a0 a1 t365 t367 t369 bt371.1 true))) = some r := H
              have A33 := Aside0.mk A330
              clear A330
              replace H := Option.bind_eq_some_iff.mp H
              obtain ⟨⟨t371, t372⟩, A340, H⟩ := H
              replace H : (if t366 = 0 then (if t368 = 0 then (if t370 = 0 then (if t372 = 0 then (examinerlaw08_BitsShortest.j2 kj25 a0 a1 t365 t367 t369 t371 (t365.toList == ([] : List UInt8))) else (examinerlaw08_BitsShortest.j2 kj25 a0 a1 t365 t367 t369 t371 true)) else (examinerlaw08_BitsShortest.j2 kj25 a0 a1 t365 t367 t369 t371 true)) else (examinerlaw08_BitsShortest.j2 kj25 a0 a1 t365 t367 t369 t371 true)) else (examinerlaw08_BitsShortest.j2 kj25 a0 a1 t365 t367 t369 t371 true)) = some r := H
              have A34 := Aside0.mk A340
              clear A340
              have HC35 := Aside0.mk H
              clear H
              go_upto_region 18 with (first | ((with_reducible refine gate_callee (f := 31) rfl ?_); refine goesL_ (some 77) rfl rfl Tryd.func31 (by kernel_rfl) rfl #[.int .i64 a0] rfl (by (try simp only [List.map_toArray, List.map_cons, List.map_nil]); first | done | rfl | (simp only [List.length_drop, List.length_take]; rfl)) ?_; (with_reducible refine (bits_UnsignedOf.calls a0 t365 t366 _ A31.out).mono ?_); rintro e w36 ⟨rfl, hb⟩; refine ⟨_, rfl, ?_⟩; have n0_ := Aside0.mk (below_step (by repeat (first | (with_reducible first | exact HB.out | apply below_alloc | apply pw_below_drewN | apply below_drew1) | exact HB.out)) hb); clear HB; have HB := n0_; clear n0_; (try clear hb); (try clear hb2); (try clear hk); (try clear hi)) | ((with_reducible refine gate_callee (f := 31) rfl ?_); refine goesL_ (some 82) rfl rfl Tryd.func31 (by kernel_rfl) rfl #[.int .i64 a1] rfl (by (try simp only [List.map_toArray, List.map_cons, List.map_nil]); first | done | rfl | (simp only [List.length_drop, List.length_take]; rfl)) ?_; (with_reducible refine (bits_UnsignedOf.calls a1 t367 t368 _ A32.out).mono ?_); rintro e w37 ⟨rfl, hb⟩; refine ⟨_, rfl, ?_⟩; have n0_ := Aside0.mk (below_step (by repeat (first | (with_reducible first | exact HB.out | apply below_alloc | apply pw_below_drewN | apply below_drew1) | exact HB.out)) hb); clear HB; have HB := n0_; clear n0_; (try clear hb); (try clear hb2); (try clear hk); (try clear hi)) | ((with_reducible refine gate_callee (f := 32) rfl ?_); refine goesL_ (some 87) rfl rfl Tryd.func32 (by kernel_rfl) rfl #[.int .i64 a0] rfl (by (try simp only [List.map_toArray, List.map_cons, List.map_nil]); first | done | rfl | (simp only [List.length_drop, List.length_take]; rfl)) ?_; (with_reducible refine (bits_SeptetsOf.calls kj25 a0 t369 t370 _ A33.out).mono ?_); rintro e w38 ⟨rfl, hb⟩; refine ⟨_, rfl, ?_⟩; have n0_ := Aside0.mk (below_step (by repeat (first | (with_reducible first | exact HB.out | apply below_alloc | apply pw_below_drewN | apply below_drew1) | exact HB.out)) hb); clear HB; have HB := n0_; clear n0_; (try clear hb); (try clear hb2); (try clear hk); (try clear hi)) | ((with_reducible refine gate_callee (f := 32) rfl ?_); refine goesL_ (some 92) rfl rfl Tryd.func32 (by kernel_rfl) rfl #[.int .i64 a1] rfl (by (try simp only [List.map_toArray, List.map_cons, List.map_nil]); first | done | rfl | (simp only [List.length_drop, List.length_take]; rfl)) ?_; (with_reducible refine (bits_SeptetsOf.calls kj25 a1 t371 t372 _ A34.out).mono ?_); rintro e w39 ⟨rfl, hb⟩; refine ⟨_, rfl, ?_⟩; have n0_ := Aside0.mk (below_step (by repeat (first | (with_reducible first | exact HB.out | apply below_alloc | apply pw_below_drewN | apply below_drew1) | exact HB.out)) hb); clear HB; have HB := n0_; clear n0_; (try clear hb); (try clear hb2); (try clear hk); (try clear hi)))
              (try simp only [Act.put, List.setIfInBounds_toArray, List.set_cons_zero, List.set_cons_succ])
              go_cut [112] (fun v112 wc => ∃ (kq : Nat) (x112_34 : Bool), v112 = .bool x112_34 ∧ Aside0 (examinerlaw08_BitsShortest.j2 kq a0 a1 t365 t367 t369 t371 x112_34 = some r) ∧ Aside0 (kq ≤ kj25) ∧ Aside0 (Below w.heap.size w wc))
              case first =>
                have H := HC35.out
                clear HC35
                by_cases c40 : t366 = 0
                · rw [if_pos c40] at H
                  have c40b0 : (t366 == 0) = true := beq_iff_eq.mpr c40
                  have c40b1 : (t366 != 0) = false := bne_eq_false_iff_eq.mpr c40
                  clear c40
                  (first | rw [c40b0] | (simp only [i64_w, i32_w]; rw [c40b0]) | skip)
                  by_cases c41 : t368 = 0
                  · rw [if_pos c41] at H
                    have c41b0 : (t368 == 0) = true := beq_iff_eq.mpr c41
                    have c41b1 : (t368 != 0) = false := bne_eq_false_iff_eq.mpr c41
                    clear c41
                    by_cases c42 : t370 = 0
                    · rw [if_pos c42] at H
                      have c42b0 : (t370 == 0) = true := beq_iff_eq.mpr c42
                      have c42b1 : (t370 != 0) = false := bne_eq_false_iff_eq.mpr c42
                      clear c42
                      by_cases c43 : t372 = 0
                      · rw [if_pos c43] at H
                        have c43b0 : (t372 == 0) = true := beq_iff_eq.mpr c43
                        have c43b1 : (t372 != 0) = false := bne_eq_false_iff_eq.mpr c43
                        clear c43
                        have H' := Aside0.mk H
                        clear H
                        go_wp2
                        go_meet
                        case rel => exact ⟨_, ((t365.toList == ([] : List UInt8))), (by first | rfl | (simp; done) | (simp [*]; done)), H', ⟨by have := HJ5.out; have := HJ25.out; first | omega | exact Nat.le_refl _⟩, ⟨by repeat (first | (with_reducible first | exact HB.out | apply below_alloc | apply pw_below_drewN | apply below_drew1) | exact HB.out)⟩⟩
                      · rw [if_neg c43] at H
                        have c43b0 : (t372 == 0) = false := beq_eq_false_iff_ne.mpr c43
                        have c43b1 : (t372 != 0) = true := bne_iff_ne.mpr c43
                        have H' := Aside0.mk H
                        clear H
                        go_wp2
                        go_meet
                        case rel => exact ⟨_, (true), (by first | rfl | (simp; done) | (simp [*]; done)), H', ⟨by have := HJ5.out; have := HJ25.out; first | omega | exact Nat.le_refl _⟩, ⟨by repeat (first | (with_reducible first | exact HB.out | apply below_alloc | apply pw_below_drewN | apply below_drew1) | exact HB.out)⟩⟩
                    · rw [if_neg c42] at H
                      have c42b0 : (t370 == 0) = false := beq_eq_false_iff_ne.mpr c42
                      have c42b1 : (t370 != 0) = true := bne_iff_ne.mpr c42
                      have H' := Aside0.mk H
                      clear H
                      go_wp2
                      go_meet
                      case rel => exact ⟨_, (true), (by first | rfl | (simp; done) | (simp [*]; done)), H', ⟨by have := HJ5.out; have := HJ25.out; first | omega | exact Nat.le_refl _⟩, ⟨by repeat (first | (with_reducible first | exact HB.out | apply below_alloc | apply pw_below_drewN | apply below_drew1) | exact HB.out)⟩⟩
                  · rw [if_neg c41] at H
                    have c41b0 : (t368 == 0) = false := beq_eq_false_iff_ne.mpr c41
                    have c41b1 : (t368 != 0) = true := bne_iff_ne.mpr c41
                    have H' := Aside0.mk H
                    clear H
                    go_wp2
                    go_meet
                    case rel => exact ⟨_, (true), (by first | rfl | (simp; done) | (simp [*]; done)), H', ⟨by have := HJ5.out; have := HJ25.out; first | omega | exact Nat.le_refl _⟩, ⟨by repeat (first | (with_reducible first | exact HB.out | apply below_alloc | apply pw_below_drewN | apply below_drew1) | exact HB.out)⟩⟩
                · rw [if_neg c40] at H
                  have c40b0 : (t366 == 0) = false := beq_eq_false_iff_ne.mpr c40
                  have c40b1 : (t366 != 0) = true := bne_iff_ne.mpr c40
                  (first | rw [c40b0] | (simp only [i64_w, i32_w]; rw [c40b0]) | skip)
                  have H' := Aside0.mk H
                  clear H
                  go_wp2
                  go_meet
                  case rel => exact ⟨_, (true), (by first | rfl | (simp; done) | (simp [*]; done)), H', ⟨by have := HJ5.out; have := HJ25.out; first | omega | exact Nat.le_refl _⟩, ⟨by repeat (first | (with_reducible first | exact HB.out | apply below_alloc | apply pw_below_drewN | apply below_drew1) | exact HB.out)⟩⟩
              case rest =>
                clear HC35
                try clear c1
                try clear c2
                try clear p2
                try clear c3
                try clear c4
                try clear p6
                try clear c7
                try clear c9
                try clear c9b0
                try clear c9b1
                try clear c10
                try clear c10b0
                try clear c10b1
                try clear c11
                try clear c13
                try clear c13b0
                try clear c13b1
                try clear c13b2
                try clear c15
                try clear c15b0
                try clear c15b1
                try clear c17
                try clear c17b0
                try clear c17b1
                try clear c18
                try clear c18b0
                try clear c18b1
                try clear c19
                try clear c19b0
                try clear c19b1
                try clear c20
                try clear c20b0
                try clear c20b1
                try clear c28
                try clear c30
                try clear c31
                try clear c32
                try clear c35
                try clear c40
                try clear c40b0
                try clear c40b1
                try clear c41
                try clear c41b0
                try clear c41b1
                try clear c42
                try clear c42b0
                try clear c42b1
                try clear c43
                try clear c43b0
                try clear c43b1
                try clear p2
                try clear p6
                obtain ⟨kq, x112_34, rfl, HA, HJ34, HB⟩ := hcut
                cases kq with
                | zero => exact absurd HA.out (by simp [examinerlaw08_BitsShortest.j2])
                | succ kj34 =>
                  have H := HA.out
                  clear HA
                  simp only [examinerlaw08_BitsShortest.j2] at H
                  by_cases c44 : x112_34 = true
                  · subst c44
                    have H1 : (some false) = some r := by rw [if_pos rfl] at H; exact H
                    clear H
                    have H := H1
                    clear H1
                    obtain rfl := Option.some.inj H
                    go_wp2
                    go_ret
                    exact ⟨by first | rfl | (simp [errW_none, errW_some] <;> rfl) | (simp [*, errW_none, errW_some] <;> rfl), by repeat (first | (with_reducible first | exact HB.out | apply below_alloc | apply pw_below_drewN | apply below_drew1) | exact HB.out)⟩
                  · replace c44 := Bool.eq_false_iff.mpr c44
                    subst c44
                    have H1 : (if (t365.size : Int) > 1 then (if 1 ≤ (t365.size : Int) then ((bits_UnsignedIn.f kj34 (t365.extract 1 t365.size)).bind fun bt373 => (if bt373.2 = 0 then (examinerlaw08_BitsShortest.j3 kj34 a0 a1 t365 t367 t369 t371 (bt373.1 == a0)) else (examinerlaw08_BitsShortest.j3 kj34 a0 a1 t365 t367 t369 t371 true))) else (none)) else ((examinerlaw08_isLess.f t365 t367).bind fun t377 => (if (t377 == (decide (a0 < a1))) = true then ((examinerlaw08_isLess.f t369 t371).bind fun t378 => (some (t378 == (decide (a0 < a1))))) else (some false)))) = some r := by rw [if_neg (show ¬ (false = true) by decide)] at H; exact H
                    clear H
                    have H := H1
                    clear H1
                    by_cases c45 : (t365.size : Int) > 1
                    · rw [if_pos c45] at H
                      have c45b0 : decide (1 < (t365.size : Int)) = true := decide_eq_true c45
                      have c45b1 : decide (1 < t365.size) = true := decide_eq_true (by omega)
                      clear c45
                      by_cases c46 : 1 ≤ (t365.size : Int)
                      · rw [if_pos c46] at H
                        have c46b0 := eq_true c46
                        have c46b1 : decide (1 ≤ (t365.size : Int)) = true := decide_eq_true c46
                        clear c46
                        replace H := Option.bind_eq_some_iff.mp H
                        obtain ⟨⟨t373, t374⟩, A470, H⟩ := H
                        replace H : (if t374 = 0 then (examinerlaw08_BitsShortest.j3 kj34 a0 a1 t365 t367 t369 t371 (t373 == a0)) else (examinerlaw08_BitsShortest.j3 kj34 a0 a1 t365 t367 t369 t371 true)) = some r := H
                        have A47 := Aside0.mk A470
                        clear A470
                        have HC48 := Aside0.mk H
                        clear H
                        go_upto_region 22 with (first | ((with_reducible refine gate_callee (f := 44) rfl ?_); refine goesL_ (some 119) rfl rfl Tryd.func44 (by kernel_rfl) rfl #[.string (t365.extract 1 t365.size)] rfl (by (try simp only [List.map_toArray, List.map_cons, List.map_nil]); first | done | rfl | (simp only [List.length_drop, List.length_take]; rfl)) ?_; (with_reducible refine (bits_UnsignedIn.calls kj34 (t365.extract 1 t365.size) t373 t374 _ A47.out).mono ?_); rintro e w' ⟨rfl, ⟨nd, rfl⟩⟩; refine ⟨_, rfl, ?_⟩))
                        (try simp only [Act.put, List.setIfInBounds_toArray, List.set_cons_zero, List.set_cons_succ])
                        go_cut [128] (fun v128 wc => ∃ (kq : Nat) (x128_47 : Bool), v128 = .bool x128_47 ∧ Aside0 (examinerlaw08_BitsShortest.j3 kq a0 a1 t365 t367 t369 t371 x128_47 = some r) ∧ Aside0 (kq ≤ kj34) ∧ Aside0 (Below w.heap.size w wc))
                        case first =>
                          have H := HC48.out
                          clear HC48
                          by_cases c49 : t374 = 0
                          · rw [if_pos c49] at H
                            have c49b0 : (t374 == 0) = true := beq_iff_eq.mpr c49
                            have c49b1 : (t374 != 0) = false := bne_eq_false_iff_eq.mpr c49
                            clear c49
                            (first | rw [c49b0] | (simp only [i64_w, i32_w]; rw [c49b0]) | skip)
                            have H' := Aside0.mk H
                            clear H
                            go_wp2
                            go_meet
                            case rel => exact ⟨_, ((t373 == a0)), (by first | rfl | (simp; done) | (simp [*]; done)), H', ⟨by have := HJ5.out; have := HJ25.out; have := HJ34.out; first | omega | exact Nat.le_refl _⟩, ⟨by repeat (first | (with_reducible first | exact HB.out | apply below_alloc | apply pw_below_drewN | apply below_drew1) | exact HB.out)⟩⟩
                          · rw [if_neg c49] at H
                            have c49b0 : (t374 == 0) = false := beq_eq_false_iff_ne.mpr c49
                            have c49b1 : (t374 != 0) = true := bne_iff_ne.mpr c49
                            (first | rw [c49b0] | (simp only [i64_w, i32_w]; rw [c49b0]) | skip)
                            have H' := Aside0.mk H
                            clear H
                            go_wp2
                            go_meet
                            case rel => exact ⟨_, (true), (by first | rfl | (simp; done) | (simp [*]; done)), H', ⟨by have := HJ5.out; have := HJ25.out; have := HJ34.out; first | omega | exact Nat.le_refl _⟩, ⟨by repeat (first | (with_reducible first | exact HB.out | apply below_alloc | apply pw_below_drewN | apply below_drew1) | exact HB.out)⟩⟩
                        case rest =>
                          clear HC48
                          try clear c1
                          try clear c2
                          try clear p2
                          try clear c3
                          try clear c4
                          try clear p6
                          try clear c7
                          try clear c9
                          try clear c9b0
                          try clear c9b1
                          try clear c10
                          try clear c10b0
                          try clear c10b1
                          try clear c11
                          try clear c13
                          try clear c13b0
                          try clear c13b1
                          try clear c13b2
                          try clear c15
                          try clear c15b0
                          try clear c15b1
                          try clear c17
                          try clear c17b0
                          try clear c17b1
                          try clear c18
                          try clear c18b0
                          try clear c18b1
                          try clear c19
                          try clear c19b0
                          try clear c19b1
                          try clear c20
                          try clear c20b0
                          try clear c20b1
                          try clear c28
                          try clear c30
                          try clear c31
                          try clear c32
                          try clear c35
                          try clear c40
                          try clear c40b0
                          try clear c40b1
                          try clear c41
                          try clear c41b0
                          try clear c41b1
                          try clear c42
                          try clear c42b0
                          try clear c42b1
                          try clear c43
                          try clear c43b0
                          try clear c43b1
                          try clear c44
                          try clear c45
                          try clear c45b0
                          try clear c45b1
                          try clear c46
                          try clear c46b0
                          try clear c46b1
                          try clear c49
                          try clear c49b0
                          try clear c49b1
                          try clear p2
                          try clear p6
                          obtain ⟨kq, x128_47, rfl, HA, HJ47, HB⟩ := hcut
                          cases kq with
                          | zero => exact absurd HA.out (by simp [examinerlaw08_BitsShortest.j3])
                          | succ kj47 =>
                            have H := HA.out
                            clear HA
                            simp only [examinerlaw08_BitsShortest.j3] at H
                            by_cases c50 : x128_47 = true
                            · subst c50
                              have H1 : (some false) = some r := by rw [if_pos rfl] at H; exact H
                              clear H
                              have H := H1
                              clear H1
                              obtain rfl := Option.some.inj H
                              go_wp2
                              go_ret
                              exact ⟨by first | rfl | (simp [errW_none, errW_some] <;> rfl) | (simp [*, errW_none, errW_some] <;> rfl), by repeat (first | (with_reducible first | exact HB.out | apply below_alloc | apply pw_below_drewN | apply below_drew1) | exact HB.out)⟩
                            · replace c50 := Bool.eq_false_iff.mpr c50
                              subst c50
                              have H1 : ((examinerlaw08_isLess.f t365 t367).bind fun t375 => (if (t375 == (decide (a0 < a1))) = true then ((examinerlaw08_isLess.f t369 t371).bind fun t376 => (some (t376 == (decide (a0 < a1))))) else (some false))) = some r := by rw [if_neg (show ¬ (false = true) by decide)] at H; exact H
                              clear H
                              have H := H1
                              clear H1
                              replace H := Option.bind_eq_some_iff.mp H
                              obtain ⟨t375, A510, H⟩ := H
                              replace H : (if (t375 == (decide (a0 < a1))) = true then ((examinerlaw08_isLess.f t369 t371).bind fun t376 => (some (t376 == (decide (a0 < a1))))) else (some false)) = some r := H
                              have A51 := Aside0.mk A510
                              clear A510
                              by_cases c52 : (t375 == (decide (a0 < a1))) = true
                              · rw [if_pos c52] at H
                                have c52b0 : (t375 == (decide (a0 < a1))) = true := c52
                                (try (have c52b1 : decide (t375 = (decide (a0 < a1))) = true := by simpa using c52))
                                (try (have c52b2 : (t375 == (decide (a0 < a1))) = true := by simpa using c52))
                                clear c52
                                replace H := Option.bind_eq_some_iff.mp H
                                obtain ⟨t376, A530, H⟩ := H
                                replace H : (some (t376 == (decide (a0 < a1)))) = some r := H
                                have A53 := Aside0.mk A530
                                clear A530
                                obtain rfl := Option.some.inj H
                                go_wp2_with (first | ((with_reducible refine gate_callee (f := 45) rfl ?_); refine goesL_ (some 131) rfl rfl Tryd.func45 (by kernel_rfl) rfl #[.string t365, .string t367] rfl (by (try simp only [List.map_toArray, List.map_cons, List.map_nil]); first | done | rfl | (simp only [List.length_drop, List.length_take]; rfl)) ?_; (with_reducible refine (examinerlaw08_isLess.calls t365 t367 t375 _ A51.out).mono ?_); rintro e w' ⟨rfl, ⟨nd, rfl⟩⟩; refine ⟨_, rfl, ?_⟩) | (go_at_call 45; (with_reducible refine (examinerlaw08_isLess.calls t369 t371 t376 _ A53.out).mono ?_); rintro e w' ⟨rfl, ⟨nd, rfl⟩⟩))
                                go_ret
                                exact ⟨by first | rfl | (simp [errW_none, errW_some] <;> rfl) | (simp [*, errW_none, errW_some] <;> rfl), by repeat (first | (with_reducible first | exact HB.out | apply below_alloc | apply pw_below_drewN | apply below_drew1) | exact HB.out)⟩
                              · rw [if_neg c52] at H
                                have c52b0 : (t375 == (decide (a0 < a1))) = false := by simpa using c52
                                (try (have c52b1 : decide (t375 = (decide (a0 < a1))) = false := by simpa using c52))
                                (try (have c52b2 : (t375 == (decide (a0 < a1))) = false := by simpa using c52))
                                (try (have c52b3 : ¬ (t375 = (decide (a0 < a1))) := by simpa using c52))
                                clear c52
                                obtain rfl := Option.some.inj H
                                go_wp2_with (first | ((with_reducible refine gate_callee (f := 45) rfl ?_); refine goesL_ (some 131) rfl rfl Tryd.func45 (by kernel_rfl) rfl #[.string t365, .string t367] rfl (by (try simp only [List.map_toArray, List.map_cons, List.map_nil]); first | done | rfl | (simp only [List.length_drop, List.length_take]; rfl)) ?_; (with_reducible refine (examinerlaw08_isLess.calls t365 t367 t375 _ A51.out).mono ?_); rintro e w' ⟨rfl, ⟨nd, rfl⟩⟩; refine ⟨_, rfl, ?_⟩))
                                go_ret
                                exact ⟨by first | rfl | (simp [errW_none, errW_some] <;> rfl) | (simp [*, errW_none, errW_some] <;> rfl), by repeat (first | (with_reducible first | exact HB.out | apply below_alloc | apply pw_below_drewN | apply below_drew1) | exact HB.out)⟩
                      · rw [if_neg c46] at H
                        exact absurd H (by simp)
                    · rw [if_neg c45] at H
                      have c45b0 : decide (1 < (t365.size : Int)) = false := decide_eq_false c45
                      have c45b1 : decide (1 < t365.size) = false := decide_eq_false (by omega)
                      clear c45
                      replace H := Option.bind_eq_some_iff.mp H
                      obtain ⟨t377, A540, H⟩ := H
                      replace H : (if (t377 == (decide (a0 < a1))) = true then ((examinerlaw08_isLess.f t369 t371).bind fun t378 => (some (t378 == (decide (a0 < a1))))) else (some false)) = some r := H
                      have A54 := Aside0.mk A540
                      clear A540
                      by_cases c55 : (t377 == (decide (a0 < a1))) = true
                      · rw [if_pos c55] at H
                        have c55b0 : (t377 == (decide (a0 < a1))) = true := c55
                        (try (have c55b1 : decide (t377 = (decide (a0 < a1))) = true := by simpa using c55))
                        (try (have c55b2 : (t377 == (decide (a0 < a1))) = true := by simpa using c55))
                        clear c55
                        replace H := Option.bind_eq_some_iff.mp H
                        obtain ⟨t378, A560, H⟩ := H
                        replace H : (some (t378 == (decide (a0 < a1)))) = some r := H
                        have A56 := Aside0.mk A560
                        clear A560
                        obtain rfl := Option.some.inj H
                        go_wp2_with (first | ((with_reducible refine gate_callee (f := 45) rfl ?_); refine goesL_ (some 131) rfl rfl Tryd.func45 (by kernel_rfl) rfl #[.string t365, .string t367] rfl (by (try simp only [List.map_toArray, List.map_cons, List.map_nil]); first | done | rfl | (simp only [List.length_drop, List.length_take]; rfl)) ?_; (with_reducible refine (examinerlaw08_isLess.calls t365 t367 t377 _ A54.out).mono ?_); rintro e w' ⟨rfl, ⟨nd, rfl⟩⟩; refine ⟨_, rfl, ?_⟩) | (go_at_call 45; (with_reducible refine (examinerlaw08_isLess.calls t369 t371 t378 _ A56.out).mono ?_); rintro e w' ⟨rfl, ⟨nd, rfl⟩⟩))
                        go_ret
                        exact ⟨by first | rfl | (simp [errW_none, errW_some] <;> rfl) | (simp [*, errW_none, errW_some] <;> rfl), by repeat (first | (with_reducible first | exact HB.out | apply below_alloc | apply pw_below_drewN | apply below_drew1) | exact HB.out)⟩
                      · rw [if_neg c55] at H
                        have c55b0 : (t377 == (decide (a0 < a1))) = false := by simpa using c55
                        (try (have c55b1 : decide (t377 = (decide (a0 < a1))) = false := by simpa using c55))
                        (try (have c55b2 : (t377 == (decide (a0 < a1))) = false := by simpa using c55))
                        (try (have c55b3 : ¬ (t377 = (decide (a0 < a1))) := by simpa using c55))
                        clear c55
                        obtain rfl := Option.some.inj H
                        go_wp2_with (first | ((with_reducible refine gate_callee (f := 45) rfl ?_); refine goesL_ (some 131) rfl rfl Tryd.func45 (by kernel_rfl) rfl #[.string t365, .string t367] rfl (by (try simp only [List.map_toArray, List.map_cons, List.map_nil]); first | done | rfl | (simp only [List.length_drop, List.length_take]; rfl)) ?_; (with_reducible refine (examinerlaw08_isLess.calls t365 t367 t377 _ A54.out).mono ?_); rintro e w' ⟨rfl, ⟨nd, rfl⟩⟩; refine ⟨_, rfl, ?_⟩))
                        go_ret
                        exact ⟨by first | rfl | (simp [errW_none, errW_some] <;> rfl) | (simp [*, errW_none, errW_some] <;> rfl), by repeat (first | (with_reducible first | exact HB.out | apply below_alloc | apply pw_below_drewN | apply below_drew1) | exact HB.out)⟩
  · replace c4 := Bool.eq_false_iff.mpr c4
    subst c4
    have H1 : (some false) = some r := by rw [if_neg (show ¬ (false = true) by decide)] at H; exact H
    clear H
    have H := H1
    clear H1
    obtain rfl := Option.some.inj H
    go_enter Tryd.func7, Tryd.ntmps7
    go_wp2_with (first | ((with_reducible refine gate_callee (f := 11) rfl ?_); refine goesL_ (some 22) rfl rfl Tryd.func11 (by kernel_rfl) rfl #[] rfl (by (try simp only [List.map_toArray, List.map_cons, List.map_nil]); first | done | rfl | (simp only [List.length_drop, List.length_take]; rfl)) ?_; (with_reducible refine (examinerlaw08_awake.calls k  false _ A3.out).mono ?_); rintro e w57 ⟨rfl, hb⟩; refine ⟨_, rfl, ?_⟩; have n0_ := Aside0.mk (below_step (by repeat (first | (with_reducible first | exact HB.out | apply below_alloc | apply pw_below_drewN | apply below_drew1) | exact HB.out)) hb); clear HB; have HB := n0_; clear n0_; (try clear hb); (try clear hb2); (try clear hk); (try clear hi)))
    go_ret
    exact ⟨by first | rfl | (simp [errW_none, errW_some] <;> rfl) | (simp [*, errW_none, errW_some] <;> rfl), by repeat (first | (with_reducible first | exact HB.out | apply below_alloc | apply pw_below_drewN | apply below_drew1) | exact HB.out)⟩

/-- THE ONE PURE STATEMENT of examinerlaw08_BitsShortest: yours. -/
def examinerlaw08_BitsShortest.Pure : Prop := ∀ (a0 : Int) (a1 : Int), (Lit.int .i64 a0).wf = true → (Lit.int .i64 a1).wf = true → ∃ k, examinerlaw08_BitsShortest.f k a0 a1 = some true
theorem examinerlaw08_BitsShortest.walk (P : examinerlaw08_BitsShortest.Pure) (a0 : Int) (a1 : Int) (w : World) (w0 : (Lit.int .i64 a0).wf = true) (w1 : (Lit.int .i64 a1).wf = true) :
    Calls Tryd.prog 7 #[.int .i64 a0, .int .i64 a1] w fun e w' => e = .returned (.bool true) ∧ Below w.heap.size w w' := by
  obtain ⟨k, h⟩ := P a0 a1 w0 w1
  refine (examinerlaw08_BitsShortest.calls k a0 a1 true w h).mono ?_
  rintro e w' ⟨rfl, hd⟩
  exact ⟨rfl, hd⟩

end Go.Proofs.YthicmbhldjebfaaDoor.PA
