-- Laid by pp.py (a program of this session, over the kit's printer) out of the translation. Not trusted: Lean checks it.
import Derived.Test.YthicmbhldjebfaaDoorPAx0
import Derived.Test.YthicmbhldjebfaaDoorPAx6
import Derived.Test.YthicmbhldjebfaaDoorPAx7
import Derived.Test.YthicmbhldjebfaaDoorPAx10
import Derived.Test.YthicmbhldjebfaaDoorPAx16
import Derived.Test.YthicmbhldjebfaaDoorPAx17
import Derived.Test.YthicmbhldjebfaaDoorPAx18
import Derived.Test.YthicmbhldjebfaaDoorHK
namespace Go.Proofs.YthicmbhldjebfaaDoor.PA
open Go.RowKit Go.Proofs.YthicmbhldjebfaaDoorW.PrintWords Go.Proofs.YthicmbhldjebfaaDoorW.PrintLast Go.Proofs.YthicmbhldjebfaaDoorW.PrintMore
attribute [local go_sem] max2_int min2_int max_two min_two max_three min_three max_four min_four   -- for this text's walks alone
set_option linter.unusedVariables false
set_option linter.unusedSimpArgs false

/-! ### examinerlaw08_BitsNumbers: function 6 -/
mutual
def examinerlaw08_BitsNumbers.j0 : Nat → Int → Int → Bool → Bool → Option (Bool)
  | 0, _, _, _, _ => none
  | k + 1, x0, x1, x5, x54 => if x54 = true then (some false) else ((bits_UnsignedOf.f x0).bind fun bt329 => ((bits_SeptetsOf.f k x0).bind fun bt331 => (if x5 = true then (if bt329.2 = 0 then (if bt331.2 = 0 then ((examinerref08_Unsigned.f k x0).bind fun t333 => (if bt329.1.toList = t333.toList then ((examinerref08_Septets.f k x0).bind fun t334 => (if bt331.1.toList = t334.toList then (examinerlaw08_BitsNumbers.j1 k x0 x1 x5) else (some false))) else (some false))) else (some false)) else (some false)) else (if bt329.1.toList = ([] : List UInt8) then (if bt331.1.toList = ([] : List UInt8) then (if bt329.2 = 3 then (if bt331.2 = 3 then (examinerlaw08_BitsNumbers.j1 k x0 x1 x5) else (some false)) else (some false)) else (some false)) else (some false)))))
def examinerlaw08_BitsNumbers.j1 : Nat → Int → Int → Bool → Option (Bool)
  | 0, _, _, _ => none
  | k + 1, x0, x1, x5 => (bits_SignedOf.f k x0).bind fun bt335 => ((examinerbase_Within.f x0 (-1152921504606846976) 1152921504606846976).bind fun t337 => (if t337 = true then (if bt335.2 = 0 then ((examinerref08_Signed.f k x0).bind fun t338 => (if bt335.1.toList = t338.toList then (examinerlaw08_BitsNumbers.j2 k x0 x1 x5) else (some false))) else (some false)) else (if bt335.2 = 3 then (if bt335.1.toList = ([] : List UInt8) then (examinerlaw08_BitsNumbers.j2 k x0 x1 x5) else (some false)) else (some false))))
def examinerlaw08_BitsNumbers.j2 : Nat → Int → Int → Bool → Option (Bool)
  | 0, _, _, _ => none
  | k + 1, x0, x1, x5 => (bits_LengthOf.f k x0 x1).bind fun bt339 => (if x5 = true then ((examinerbase_Within.f x1 0 3).bind fun t341 => (examinerlaw08_BitsNumbers.j3 k x0 x1 bt339.1 bt339.2 t341)) else (examinerlaw08_BitsNumbers.j3 k x0 x1 bt339.1 bt339.2 false))
def examinerlaw08_BitsNumbers.j3 : Nat → Int → Int → ByteArray → Int → Bool → Option (Bool)
  | 0, _, _, _, _, _ => none
  | k + 1, x0, x1, x14, x15, x130 => if x130 = true then (if x15 = 0 then ((examinerref08_Length.f k x0 x1).bind fun t342 => (if x14.toList = t342.toList then (examinerlaw08_BitsNumbers.j4 k x0) else (some false))) else (some false)) else (if x15 = 3 then (if x14.toList = ([] : List UInt8) then (examinerlaw08_BitsNumbers.j4 k x0) else (some false)) else (some false))
def examinerlaw08_BitsNumbers.j4 : Nat → Int → Option (Bool)
  | 0, _ => none
  | k + 1, x0 => (bits_FragmentOf.f x0).bind fun bt343 => ((examinerbase_Within.f x0 0 16383).bind fun t345 => (if t345 = true then (if bt343.2 = 0 then ((examinerref08_Fragment.f k x0).bind fun t346 => (some (bt343.1.toList == t346.toList))) else (some false)) else (if bt343.2 = 3 then (some (bt343.1.toList == ([] : List UInt8))) else (some false))))
end
def examinerlaw08_BitsNumbers.f (k : Nat) (a0 : Int) (a1 : Int) : Option (Bool) := (examinerlaw08_awake.f k).bind fun t323 => (if t323 = true then ((examinerbase_Within.f a0 0 1152921504606846976).bind fun t324 => ((bits_WidthOf.f a0).bind fun bt325 => ((examinerbase_Within.f a0 1 1152921504606846976).bind fun t327 => (if (t327 != (bt325.2 == 0)) = true then (examinerlaw08_BitsNumbers.j0 k a0 a1 t324 true) else (if bt325.2 = 0 then ((examinerref08_Width.f k (wrap64 (a0 - 1))).bind fun t328 => (examinerlaw08_BitsNumbers.j0 k a0 a1 t324 (bt325.1 != t328))) else (if bt325.2 = 3 then (if bt325.1 = 0 then (examinerlaw08_BitsNumbers.j0 k a0 a1 t324 false) else (examinerlaw08_BitsNumbers.j0 k a0 a1 t324 true)) else (examinerlaw08_BitsNumbers.j0 k a0 a1 t324 true))))))) else (some false))
theorem examinerlaw08_BitsNumbers.mono_l : ∀ k, (∀ y0 y1 y2 y3, LeO (examinerlaw08_BitsNumbers.j0 k y0 y1 y2 y3) (examinerlaw08_BitsNumbers.j0 (k + 1) y0 y1 y2 y3)) ∧ (∀ y0 y1 y2, LeO (examinerlaw08_BitsNumbers.j1 k y0 y1 y2) (examinerlaw08_BitsNumbers.j1 (k + 1) y0 y1 y2)) ∧ (∀ y0 y1 y2, LeO (examinerlaw08_BitsNumbers.j2 k y0 y1 y2) (examinerlaw08_BitsNumbers.j2 (k + 1) y0 y1 y2)) ∧ (∀ y0 y1 y2 y3 y4, LeO (examinerlaw08_BitsNumbers.j3 k y0 y1 y2 y3 y4) (examinerlaw08_BitsNumbers.j3 (k + 1) y0 y1 y2 y3 y4)) ∧ (∀ y0, LeO (examinerlaw08_BitsNumbers.j4 k y0) (examinerlaw08_BitsNumbers.j4 (k + 1) y0))
  | 0 => ⟨fun _ _ _ _ r h => by simp [examinerlaw08_BitsNumbers.j0] at h, fun _ _ _ r h => by simp [examinerlaw08_BitsNumbers.j1] at h, fun _ _ _ r h => by simp [examinerlaw08_BitsNumbers.j2] at h, fun _ _ _ _ _ r h => by simp [examinerlaw08_BitsNumbers.j3] at h, fun _ r h => by simp [examinerlaw08_BitsNumbers.j4] at h⟩
  | k + 1 => by
    obtain ⟨ih0, ih1, ih2, ih3, ih4⟩ := examinerlaw08_BitsNumbers.mono_l k
    refine ⟨?_, ?_, ?_, ?_, ?_⟩
    · intro y0 y1 y2 y3
      unfold examinerlaw08_BitsNumbers.j0
      repeat' first
      | (with_reducible exact ih0 _ _ _ _)
      | (with_reducible exact ih1 _ _ _)
      | (with_reducible exact ih2 _ _ _)
      | (with_reducible exact ih3 _ _ _ _ _)
      | (with_reducible exact ih4 _)
      | (with_reducible exact bits_LengthOf.mono _ _ _)
      | (with_reducible exact bits_SeptetsOf.mono _ _)
      | (with_reducible exact bits_SignedOf.mono _ _)
      | (with_reducible exact examinerlaw08_awake.mono _)
      | (with_reducible exact examinerref08_Fragment.mono _ _)
      | (with_reducible exact examinerref08_Length.mono _ _ _)
      | (with_reducible exact examinerref08_Septets.mono _ _)
      | (with_reducible exact examinerref08_Signed.mono _ _)
      | (with_reducible exact examinerref08_Unsigned.mono _ _)
      | (with_reducible exact examinerref08_Width.mono _ _)
      | (with_reducible exact LeO.refl _)
      | (with_reducible exact LeO.none _)
      | (with_reducible refine LeO.ite ?_ ?_)
      | (with_reducible refine LeO.bind ?_ (fun _ => ?_))
      | exact ih0 _ _ _ _
      | exact ih1 _ _ _
      | exact ih2 _ _ _
      | exact ih3 _ _ _ _ _
      | exact ih4 _
      | exact bits_LengthOf.mono _ _ _
      | exact bits_SeptetsOf.mono _ _
      | exact bits_SignedOf.mono _ _
      | exact examinerlaw08_awake.mono _
      | exact examinerref08_Fragment.mono _ _
      | exact examinerref08_Length.mono _ _ _
      | exact examinerref08_Septets.mono _ _
      | exact examinerref08_Signed.mono _ _
      | exact examinerref08_Unsigned.mono _ _
      | exact examinerref08_Width.mono _ _
      | exact LeO.none _
      | refine LeO.ite ?_ ?_
      | refine LeO.bind ?_ (fun _ => ?_)
    · intro y0 y1 y2
      unfold examinerlaw08_BitsNumbers.j1
      repeat' first
      | (with_reducible exact ih0 _ _ _ _)
      | (with_reducible exact ih1 _ _ _)
      | (with_reducible exact ih2 _ _ _)
      | (with_reducible exact ih3 _ _ _ _ _)
      | (with_reducible exact ih4 _)
      | (with_reducible exact bits_LengthOf.mono _ _ _)
      | (with_reducible exact bits_SeptetsOf.mono _ _)
      | (with_reducible exact bits_SignedOf.mono _ _)
      | (with_reducible exact examinerlaw08_awake.mono _)
      | (with_reducible exact examinerref08_Fragment.mono _ _)
      | (with_reducible exact examinerref08_Length.mono _ _ _)
      | (with_reducible exact examinerref08_Septets.mono _ _)
      | (with_reducible exact examinerref08_Signed.mono _ _)
      | (with_reducible exact examinerref08_Unsigned.mono _ _)
      | (with_reducible exact examinerref08_Width.mono _ _)
      | (with_reducible exact LeO.refl _)
      | (with_reducible exact LeO.none _)
      | (with_reducible refine LeO.ite ?_ ?_)
      | (with_reducible refine LeO.bind ?_ (fun _ => ?_))
      | exact ih0 _ _ _ _
      | exact ih1 _ _ _
      | exact ih2 _ _ _
      | exact ih3 _ _ _ _ _
      | exact ih4 _
      | exact bits_LengthOf.mono _ _ _
      | exact bits_SeptetsOf.mono _ _
      | exact bits_SignedOf.mono _ _
      | exact examinerlaw08_awake.mono _
      | exact examinerref08_Fragment.mono _ _
      | exact examinerref08_Length.mono _ _ _
      | exact examinerref08_Septets.mono _ _
      | exact examinerref08_Signed.mono _ _
      | exact examinerref08_Unsigned.mono _ _
      | exact examinerref08_Width.mono _ _
      | exact LeO.none _
      | refine LeO.ite ?_ ?_
      | refine LeO.bind ?_ (fun _ => ?_)
    · intro y0 y1 y2
      unfold examinerlaw08_BitsNumbers.j2
      repeat' first
      | (with_reducible exact ih0 _ _ _ _)
      | (with_reducible exact ih1 _ _ _)
      | (with_reducible exact ih2 _ _ _)
      | (with_reducible exact ih3 _ _ _ _ _)
      | (with_reducible exact ih4 _)
      | (with_reducible exact bits_LengthOf.mono _ _ _)
      | (with_reducible exact bits_SeptetsOf.mono _ _)
      | (with_reducible exact bits_SignedOf.mono _ _)
      | (with_reducible exact examinerlaw08_awake.mono _)
      | (with_reducible exact examinerref08_Fragment.mono _ _)
      | (with_reducible exact examinerref08_Length.mono _ _ _)
      | (with_reducible exact examinerref08_Septets.mono _ _)
      | (with_reducible exact examinerref08_Signed.mono _ _)
      | (with_reducible exact examinerref08_Unsigned.mono _ _)
      | (with_reducible exact examinerref08_Width.mono _ _)
      | (with_reducible exact LeO.refl _)
      | (with_reducible exact LeO.none _)
      | (with_reducible refine LeO.ite ?_ ?_)
      | (with_reducible refine LeO.bind ?_ (fun _ => ?_))
      | exact ih0 _ _ _ _
      | exact ih1 _ _ _
      | exact ih2 _ _ _
      | exact ih3 _ _ _ _ _
      | exact ih4 _
      | exact bits_LengthOf.mono _ _ _
      | exact bits_SeptetsOf.mono _ _
      | exact bits_SignedOf.mono _ _
      | exact examinerlaw08_awake.mono _
      | exact examinerref08_Fragment.mono _ _
      | exact examinerref08_Length.mono _ _ _
      | exact examinerref08_Septets.mono _ _
      | exact examinerref08_Signed.mono _ _
      | exact examinerref08_Unsigned.mono _ _
      | exact examinerref08_Width.mono _ _
      | exact LeO.none _
      | refine LeO.ite ?_ ?_
      | refine LeO.bind ?_ (fun _ => ?_)
    · intro y0 y1 y2 y3 y4
      unfold examinerlaw08_BitsNumbers.j3
      repeat' first
      | (with_reducible exact ih0 _ _ _ _)
      | (with_reducible exact ih1 _ _ _)
      | (with_reducible exact ih2 _ _ _)
      | (with_reducible exact ih3 _ _ _ _ _)
      | (with_reducible exact ih4 _)
      | (with_reducible exact bits_LengthOf.mono _ _ _)
      | (with_reducible exact bits_SeptetsOf.mono _ _)
      | (with_reducible exact bits_SignedOf.mono _ _)
      | (with_reducible exact examinerlaw08_awake.mono _)
      | (with_reducible exact examinerref08_Fragment.mono _ _)
      | (with_reducible exact examinerref08_Length.mono _ _ _)
      | (with_reducible exact examinerref08_Septets.mono _ _)
      | (with_reducible exact examinerref08_Signed.mono _ _)
      | (with_reducible exact examinerref08_Unsigned.mono _ _)
      | (with_reducible exact examinerref08_Width.mono _ _)
      | (with_reducible exact LeO.refl _)
      | (with_reducible exact LeO.none _)
      | (with_reducible refine LeO.ite ?_ ?_)
      | (with_reducible refine LeO.bind ?_ (fun _ => ?_))
      | exact ih0 _ _ _ _
      | exact ih1 _ _ _
      | exact ih2 _ _ _
      | exact ih3 _ _ _ _ _
      | exact ih4 _
      | exact bits_LengthOf.mono _ _ _
      | exact bits_SeptetsOf.mono _ _
      | exact bits_SignedOf.mono _ _
      | exact examinerlaw08_awake.mono _
      | exact examinerref08_Fragment.mono _ _
      | exact examinerref08_Length.mono _ _ _
      | exact examinerref08_Septets.mono _ _
      | exact examinerref08_Signed.mono _ _
      | exact examinerref08_Unsigned.mono _ _
      | exact examinerref08_Width.mono _ _
      | exact LeO.none _
      | refine LeO.ite ?_ ?_
      | refine LeO.bind ?_ (fun _ => ?_)
    · intro y0
      unfold examinerlaw08_BitsNumbers.j4
      repeat' first
      | (with_reducible exact ih0 _ _ _ _)
      | (with_reducible exact ih1 _ _ _)
      | (with_reducible exact ih2 _ _ _)
      | (with_reducible exact ih3 _ _ _ _ _)
      | (with_reducible exact ih4 _)
      | (with_reducible exact bits_LengthOf.mono _ _ _)
      | (with_reducible exact bits_SeptetsOf.mono _ _)
      | (with_reducible exact bits_SignedOf.mono _ _)
      | (with_reducible exact examinerlaw08_awake.mono _)
      | (with_reducible exact examinerref08_Fragment.mono _ _)
      | (with_reducible exact examinerref08_Length.mono _ _ _)
      | (with_reducible exact examinerref08_Septets.mono _ _)
      | (with_reducible exact examinerref08_Signed.mono _ _)
      | (with_reducible exact examinerref08_Unsigned.mono _ _)
      | (with_reducible exact examinerref08_Width.mono _ _)
      | (with_reducible exact LeO.refl _)
      | (with_reducible exact LeO.none _)
      | (with_reducible refine LeO.ite ?_ ?_)
      | (with_reducible refine LeO.bind ?_ (fun _ => ?_))
      | exact ih0 _ _ _ _
      | exact ih1 _ _ _
      | exact ih2 _ _ _
      | exact ih3 _ _ _ _ _
      | exact ih4 _
      | exact bits_LengthOf.mono _ _ _
      | exact bits_SeptetsOf.mono _ _
      | exact bits_SignedOf.mono _ _
      | exact examinerlaw08_awake.mono _
      | exact examinerref08_Fragment.mono _ _
      | exact examinerref08_Length.mono _ _ _
      | exact examinerref08_Septets.mono _ _
      | exact examinerref08_Signed.mono _ _
      | exact examinerref08_Unsigned.mono _ _
      | exact examinerref08_Width.mono _ _
      | exact LeO.none _
      | refine LeO.ite ?_ ?_
      | refine LeO.bind ?_ (fun _ => ?_)
theorem examinerlaw08_BitsNumbers.mono : ∀ a0 a1 k, LeO (examinerlaw08_BitsNumbers.f k a0 a1) (examinerlaw08_BitsNumbers.f (k + 1) a0 a1) := by
  intro a0 a1 k
  obtain ⟨ih0, ih1, ih2, ih3, ih4⟩ := examinerlaw08_BitsNumbers.mono_l k
  unfold examinerlaw08_BitsNumbers.f
  repeat' first
      | (with_reducible exact ih0 _ _ _ _)
      | (with_reducible exact ih1 _ _ _)
      | (with_reducible exact ih2 _ _ _)
      | (with_reducible exact ih3 _ _ _ _ _)
      | (with_reducible exact ih4 _)
      | (with_reducible exact bits_LengthOf.mono _ _ _)
      | (with_reducible exact bits_SeptetsOf.mono _ _)
      | (with_reducible exact bits_SignedOf.mono _ _)
      | (with_reducible exact examinerlaw08_awake.mono _)
      | (with_reducible exact examinerref08_Fragment.mono _ _)
      | (with_reducible exact examinerref08_Length.mono _ _ _)
      | (with_reducible exact examinerref08_Septets.mono _ _)
      | (with_reducible exact examinerref08_Signed.mono _ _)
      | (with_reducible exact examinerref08_Unsigned.mono _ _)
      | (with_reducible exact examinerref08_Width.mono _ _)
      | (with_reducible exact LeO.refl _)
      | (with_reducible exact LeO.none _)
      | (with_reducible refine LeO.ite ?_ ?_)
      | (with_reducible refine LeO.bind ?_ (fun _ => ?_))
      | exact ih0 _ _ _ _
      | exact ih1 _ _ _
      | exact ih2 _ _ _
      | exact ih3 _ _ _ _ _
      | exact ih4 _
      | exact bits_LengthOf.mono _ _ _
      | exact bits_SeptetsOf.mono _ _
      | exact bits_SignedOf.mono _ _
      | exact examinerlaw08_awake.mono _
      | exact examinerref08_Fragment.mono _ _
      | exact examinerref08_Length.mono _ _ _
      | exact examinerref08_Septets.mono _ _
      | exact examinerref08_Signed.mono _ _
      | exact examinerref08_Unsigned.mono _ _
      | exact examinerref08_Width.mono _ _
      | exact LeO.none _
      | refine LeO.ite ?_ ?_
      | refine LeO.bind ?_ (fun _ => ?_)
set_option maxHeartbeats 8000000 in
set_option maxRecDepth 100000 in
theorem examinerlaw08_BitsNumbers.calls (k : Nat) (a0 : Int) (a1 : Int) (r : Bool) (w : World) (h : examinerlaw08_BitsNumbers.f k a0 a1 = some r) :
    Calls Tryd.prog 6 #[.int .i64 a0, .int .i64 a1] w fun e w' => e = .returned (.bool r) ∧ Below w.heap.size w w' := by
  have HB := Aside0.mk (Below.refl w.heap.size w)
  have H : ((examinerlaw08_awake.f k).bind fun t323 => (if t323 = true then ((examinerbase_Within.f a0 0 1152921504606846976).bind fun t324 => ((bits_WidthOf.f a0).bind fun bt325 => ((examinerbase_Within.f a0 1 1152921504606846976).bind fun t327 => (if (t327 != (bt325.2 == 0)) = true then (examinerlaw08_BitsNumbers.j0 k a0 a1 t324 true) else (if bt325.2 = 0 then ((examinerref08_Width.f k (wrap64 (a0 - 1))).bind fun t328 => (examinerlaw08_BitsNumbers.j0 k a0 a1 t324 (bt325.1 != t328))) else (if bt325.2 = 3 then (if bt325.1 = 0 then (examinerlaw08_BitsNumbers.j0 k a0 a1 t324 false) else (examinerlaw08_BitsNumbers.j0 k a0 a1 t324 true)) else (examinerlaw08_BitsNumbers.j0 k a0 a1 t324 true))))))) else (some false))) = some r := h
  clear h
  replace H := Option.bind_eq_some_iff.mp H
  obtain ⟨t323, A30, H⟩ := H
  replace H : (if t323 = true then ((examinerbase_Within.f a0 0 1152921504606846976).bind fun t324 => ((bits_WidthOf.f a0).bind fun bt325 => ((examinerbase_Within.f a0 1 1152921504606846976).bind fun t327 => (if (t327 != (bt325.2 == 0)) = true then (examinerlaw08_BitsNumbers.j0 k a0 a1 t324 true) else (if bt325.2 = 0 then ((examinerref08_Width.f k (wrap64 (a0 - 1))).bind fun t328 => (examinerlaw08_BitsNumbers.j0 k a0 a1 t324 (bt325.1 != t328))) else (if bt325.2 = 3 then (if bt325.1 = 0 then (examinerlaw08_BitsNumbers.j0 k a0 a1 t324 false) else (examinerlaw08_BitsNumbers.j0 k a0 a1 t324 true)) else (examinerlaw08_BitsNumbers.j0 k a0 a1 t324 true))))))) else (some false)) = some r := H
  have A3 := Aside0.mk A30
  clear A30
  by_cases c4 : t323 = true
  · subst c4
    have H1 : ((examinerbase_Within.f a0 0 1152921504606846976).bind fun t324 => ((bits_WidthOf.f a0).bind fun bt325 => ((examinerbase_Within.f a0 1 1152921504606846976).bind fun t327 => (if (t327 != (bt325.2 == 0)) = true then (examinerlaw08_BitsNumbers.j0 k a0 a1 t324 true) else (if bt325.2 = 0 then ((examinerref08_Width.f k (wrap64 (a0 - 1))).bind fun t328 => (examinerlaw08_BitsNumbers.j0 k a0 a1 t324 (bt325.1 != t328))) else (if bt325.2 = 3 then (if bt325.1 = 0 then (examinerlaw08_BitsNumbers.j0 k a0 a1 t324 false) else (examinerlaw08_BitsNumbers.j0 k a0 a1 t324 true)) else (examinerlaw08_BitsNumbers.j0 k a0 a1 t324 true))))))) = some r := by rw [if_pos rfl] at H; exact H
    clear H
    have H := H1
    clear H1
    replace H := Option.bind_eq_some_iff.mp H
    obtain ⟨t324, A50, H⟩ := H
    replace H : ((bits_WidthOf.f a0).bind fun bt325 => ((examinerbase_Within.f a0 1 1152921504606846976).bind fun t327 => (if (t327 != (bt325.2 == 0)) = true then (examinerlaw08_BitsNumbers.j0 k a0 a1 t324 true) else (if bt325.2 = 0 then ((examinerref08_Width.f k (wrap64 (a0 - 1))).bind fun t328 => (examinerlaw08_BitsNumbers.j0 k a0 a1 t324 (bt325.1 != t328))) else (if bt325.2 = 3 then (if bt325.1 = 0 then (examinerlaw08_BitsNumbers.j0 k a0 a1 t324 false) else (examinerlaw08_BitsNumbers.j0 k a0 a1 t324 true)) else (examinerlaw08_BitsNumbers.j0 k a0 a1 t324 true)))))) = some r := H
    have A5 := Aside0.mk A50
    clear A50
    replace H := Option.bind_eq_some_iff.mp H
    obtain ⟨⟨t325, t326⟩, A60, H⟩ := H
    replace H : ((examinerbase_Within.f a0 1 1152921504606846976).bind fun t327 => (if (t327 != (t326 == 0)) = true then (examinerlaw08_BitsNumbers.j0 k a0 a1 t324 true) else (if t326 = 0 then ((examinerref08_Width.f k (wrap64 (a0 - 1))).bind fun t328 => (examinerlaw08_BitsNumbers.j0 k a0 a1 t324 (t325 != t328))) else (if t326 = 3 then (if t325 = 0 then (examinerlaw08_BitsNumbers.j0 k a0 a1 t324 false) else (examinerlaw08_BitsNumbers.j0 k a0 a1 t324 true)) else (examinerlaw08_BitsNumbers.j0 k a0 a1 t324 true))))) = some r := H
    have A6 := Aside0.mk A60
    clear A60
    have HC7 := Aside0.mk H
    clear H
    go_enter Tryd.func6, Tryd.ntmps6
    go_upto_region 5 with (first | ((with_reducible refine gate_callee (f := 11) rfl ?_); refine goesL_ (some 18) rfl rfl Tryd.func11 (by kernel_rfl) rfl #[] rfl (by (try simp only [List.map_toArray, List.map_cons, List.map_nil]); first | done | rfl | (simp only [List.length_drop, List.length_take]; rfl)) ?_; (with_reducible refine (examinerlaw08_awake.calls k  true _ A3.out).mono ?_); rintro e w8 ⟨rfl, hb⟩; refine ⟨_, rfl, ?_⟩; have n0_ := Aside0.mk (below_step (by repeat (first | (with_reducible first | exact HB.out | apply below_alloc | apply pw_below_drewN | apply below_drew1) | exact HB.out)) hb); clear HB; have HB := n0_; clear n0_; (try clear hb); (try clear hb2); (try clear hk); (try clear hi)) | ((with_reducible refine gate_callee (f := 28) rfl ?_); refine goesL_ (some 21) rfl rfl Tryd.func28 (by kernel_rfl) rfl #[.int .i64 a0, .int .i64 0, .int .i64 1152921504606846976] rfl (by (try simp only [List.map_toArray, List.map_cons, List.map_nil]); first | done | rfl | (simp only [List.length_drop, List.length_take]; rfl)) ?_; (with_reducible refine (examinerbase_Within.calls a0 0 1152921504606846976 t324 _ A5.out).mono ?_); rintro e w' ⟨rfl, ⟨nd, rfl⟩⟩; refine ⟨_, rfl, ?_⟩) | ((with_reducible refine gate_callee (f := 29) rfl ?_); refine goesL_ (some 24) rfl rfl Tryd.func29 (by kernel_rfl) rfl #[.int .i64 a0] rfl (by (try simp only [List.map_toArray, List.map_cons, List.map_nil]); first | done | rfl | (simp only [List.length_drop, List.length_take]; rfl)) ?_; (with_reducible refine (bits_WidthOf.calls a0 t325 t326 _ A6.out).mono ?_); rintro e w' ⟨rfl, ⟨nd, rfl⟩⟩; refine ⟨_, rfl, ?_⟩))
    (try simp only [Act.put, List.setIfInBounds_toArray, List.set_cons_zero, List.set_cons_succ])
    go_cut [54] (fun v54 wc => ∃ (kq : Nat) (x54_6 : Bool), v54 = .bool x54_6 ∧ Aside0 (examinerlaw08_BitsNumbers.j0 kq a0 a1 t324 x54_6 = some r) ∧ Aside0 (kq ≤ k) ∧ Aside0 (Below w.heap.size w wc))
    case first =>
      have H := HC7.out
      clear HC7
      replace H := Option.bind_eq_some_iff.mp H
      obtain ⟨t327, A90, H⟩ := H
      replace H : (if (t327 != (t326 == 0)) = true then (examinerlaw08_BitsNumbers.j0 k a0 a1 t324 true) else (if t326 = 0 then ((examinerref08_Width.f k (wrap64 (a0 - 1))).bind fun t328 => (examinerlaw08_BitsNumbers.j0 k a0 a1 t324 (t325 != t328))) else (if t326 = 3 then (if t325 = 0 then (examinerlaw08_BitsNumbers.j0 k a0 a1 t324 false) else (examinerlaw08_BitsNumbers.j0 k a0 a1 t324 true)) else (examinerlaw08_BitsNumbers.j0 k a0 a1 t324 true)))) = some r := H
      have A9 := Aside0.mk A90
      clear A90
      by_cases c10 : (t327 != (t326 == 0)) = true
      · rw [if_pos c10] at H
        have c10b0 : (t327 != (t326 == 0)) = true := c10
        (try (have c10b1 : decide (t327 = (t326 == 0)) = false := by simpa using c10))
        (try (have c10b2 : (t327 == (t326 == 0)) = false := by simpa using c10))
        (try (have c10b3 : ¬ (t327 = (t326 == 0)) := by simpa using c10))
        clear c10
        (first | rw [c10b0] | (simp only [i64_w, i32_w]; rw [c10b0]) | skip)
        have H' := Aside0.mk H
        clear H
        go_wp2_with (first | ((with_reducible refine gate_callee (f := 28) rfl ?_); refine goesL_ (some 28) rfl rfl Tryd.func28 (by kernel_rfl) rfl #[.int .i64 a0, .int .i64 1, .int .i64 1152921504606846976] rfl (by (try simp only [List.map_toArray, List.map_cons, List.map_nil]); first | done | rfl | (simp only [List.length_drop, List.length_take]; rfl)) ?_; (with_reducible refine (examinerbase_Within.calls a0 1 1152921504606846976 t327 _ A9.out).mono ?_); rintro e w' ⟨rfl, ⟨nd, rfl⟩⟩; refine ⟨_, rfl, ?_⟩))
        go_meet
        case rel => exact ⟨_, (true), (by first | rfl | (simp; done) | (simp [*]; done)), H', ⟨by first | omega | exact Nat.le_refl _⟩, ⟨by repeat (first | (with_reducible first | exact HB.out | apply below_alloc | apply pw_below_drewN | apply below_drew1) | exact HB.out)⟩⟩
      · rw [if_neg c10] at H
        have c10b0 : (t327 != (t326 == 0)) = false := by simpa using c10
        (try (have c10b1 : decide (t327 = (t326 == 0)) = true := by simpa using c10))
        (try (have c10b2 : (t327 == (t326 == 0)) = true := by simpa using c10))
        clear c10
        (first | rw [c10b0] | (simp only [i64_w, i32_w]; rw [c10b0]) | skip)
        by_cases c11 : t326 = 0
        · rw [if_pos c11] at H
          have c11b0 : (t326 == 0) = true := beq_iff_eq.mpr c11
          have c11b1 : (t326 != 0) = false := bne_eq_false_iff_eq.mpr c11
          have h_ := c10b2; rw [c11b0] at h_; simp only [beq_iff_eq] at h_
          clear c11
          replace H := Option.bind_eq_some_iff.mp H
          obtain ⟨t328, A120, H⟩ := H
          replace H : (examinerlaw08_BitsNumbers.j0 k a0 a1 t324 (t325 != t328)) = some r := H
          have A12 := Aside0.mk A120
          clear A120
          have H' := Aside0.mk H
          clear H
          go_wp2_with (first | ((with_reducible refine gate_callee (f := 28) rfl ?_); refine goesL_ (some 28) rfl rfl Tryd.func28 (by kernel_rfl) rfl #[.int .i64 a0, .int .i64 1, .int .i64 1152921504606846976] rfl (by (try simp only [List.map_toArray, List.map_cons, List.map_nil]); first | done | rfl | (simp only [List.length_drop, List.length_take]; rfl)) ?_; (with_reducible refine (examinerbase_Within.calls a0 1 1152921504606846976 t327 _ A9.out).mono ?_); rintro e w' ⟨rfl, ⟨nd, rfl⟩⟩; refine ⟨_, rfl, ?_⟩) | (go_at_call 30; (with_reducible refine (examinerref08_Width.calls k (wrap64 (a0 - 1)) t328 _ A12.out).mono ?_); rintro e w' ⟨rfl, ⟨nd, rfl⟩⟩))
          go_meet
          case rel => exact ⟨_, ((t325 != t328)), (by first | rfl | (simp; done) | (simp [*]; done)), H', ⟨by first | omega | exact Nat.le_refl _⟩, ⟨by repeat (first | (with_reducible first | exact HB.out | apply below_alloc | apply pw_below_drewN | apply below_drew1) | exact HB.out)⟩⟩
        · rw [if_neg c11] at H
          have c11b0 : (t326 == 0) = false := beq_eq_false_iff_ne.mpr c11
          have c11b1 : (t326 != 0) = true := bne_iff_ne.mpr c11
          have h_ := c10b2; rw [c11b0] at h_; simp only [beq_iff_eq] at h_
          by_cases c13 : t326 = 3
          · rw [if_pos c13] at H
            have c13b0 : (t326 == 3) = true := beq_iff_eq.mpr c13
            have c13b1 : (t326 != 3) = false := bne_eq_false_iff_eq.mpr c13
            clear c13
            by_cases c14 : t325 = 0
            · rw [if_pos c14] at H
              have c14b0 : (t325 == 0) = true := beq_iff_eq.mpr c14
              have c14b1 : (t325 != 0) = false := bne_eq_false_iff_eq.mpr c14
              clear c14
              have H' := Aside0.mk H
              clear H
              go_wp2_with (first | ((with_reducible refine gate_callee (f := 28) rfl ?_); refine goesL_ (some 28) rfl rfl Tryd.func28 (by kernel_rfl) rfl #[.int .i64 a0, .int .i64 1, .int .i64 1152921504606846976] rfl (by (try simp only [List.map_toArray, List.map_cons, List.map_nil]); first | done | rfl | (simp only [List.length_drop, List.length_take]; rfl)) ?_; (with_reducible refine (examinerbase_Within.calls a0 1 1152921504606846976 t327 _ A9.out).mono ?_); rintro e w' ⟨rfl, ⟨nd, rfl⟩⟩; refine ⟨_, rfl, ?_⟩))
              go_meet
              case rel => exact ⟨_, (false), (by first | rfl | (simp; done) | (simp [*]; done)), H', ⟨by first | omega | exact Nat.le_refl _⟩, ⟨by repeat (first | (with_reducible first | exact HB.out | apply below_alloc | apply pw_below_drewN | apply below_drew1) | exact HB.out)⟩⟩
            · rw [if_neg c14] at H
              have c14b0 : (t325 == 0) = false := beq_eq_false_iff_ne.mpr c14
              have c14b1 : (t325 != 0) = true := bne_iff_ne.mpr c14
              have H' := Aside0.mk H
              clear H
              go_wp2_with (first | ((with_reducible refine gate_callee (f := 28) rfl ?_); refine goesL_ (some 28) rfl rfl Tryd.func28 (by kernel_rfl) rfl #[.int .i64 a0, .int .i64 1, .int .i64 1152921504606846976] rfl (by (try simp only [List.map_toArray, List.map_cons, List.map_nil]); first | done | rfl | (simp only [List.length_drop, List.length_take]; rfl)) ?_; (with_reducible refine (examinerbase_Within.calls a0 1 1152921504606846976 t327 _ A9.out).mono ?_); rintro e w' ⟨rfl, ⟨nd, rfl⟩⟩; refine ⟨_, rfl, ?_⟩))
              go_meet
              case rel => exact ⟨_, (true), (by first | rfl | (simp; done) | (simp [*]; done)), H', ⟨by first | omega | exact Nat.le_refl _⟩, ⟨by repeat (first | (with_reducible first | exact HB.out | apply below_alloc | apply pw_below_drewN | apply below_drew1) | exact HB.out)⟩⟩
          · rw [if_neg c13] at H
            have c13b0 : (t326 == 3) = false := beq_eq_false_iff_ne.mpr c13
            have c13b1 : (t326 != 3) = true := bne_iff_ne.mpr c13
            have H' := Aside0.mk H
            clear H
            go_wp2_with (first | ((with_reducible refine gate_callee (f := 28) rfl ?_); refine goesL_ (some 28) rfl rfl Tryd.func28 (by kernel_rfl) rfl #[.int .i64 a0, .int .i64 1, .int .i64 1152921504606846976] rfl (by (try simp only [List.map_toArray, List.map_cons, List.map_nil]); first | done | rfl | (simp only [List.length_drop, List.length_take]; rfl)) ?_; (with_reducible refine (examinerbase_Within.calls a0 1 1152921504606846976 t327 _ A9.out).mono ?_); rintro e w' ⟨rfl, ⟨nd, rfl⟩⟩; refine ⟨_, rfl, ?_⟩))
            go_meet
            case rel => exact ⟨_, (true), (by first | rfl | (simp; done) | (simp [*]; done)), H', ⟨by first | omega | exact Nat.le_refl _⟩, ⟨by repeat (first | (with_reducible first | exact HB.out | apply below_alloc | apply pw_below_drewN | apply below_drew1) | exact HB.out)⟩⟩
    case rest =>
      clear HC7
      try clear c1
      try clear c2
      try clear p2
      try clear c4
      try clear c6
      try clear p6
      try clear c10
      try clear c10b0
      try clear c10b1
      try clear c10b2
      try clear c11
      try clear c11b0
      try clear c11b1
      try clear c13
      try clear c13b0
      try clear c13b1
      try clear c14
      try clear c14b0
      try clear c14b1
      obtain ⟨kq, x54_6, rfl, HA, HJ6, HB⟩ := hcut
      cases kq with
      | zero => exact absurd HA.out (by simp [examinerlaw08_BitsNumbers.j0])
      | succ kj6 =>
        have H := HA.out
        clear HA
        simp only [examinerlaw08_BitsNumbers.j0] at H
        by_cases c15 : x54_6 = true
        · subst c15
          have H1 : (some false) = some r := by rw [if_pos rfl] at H; exact H
          clear H
          have H := H1
          clear H1
          obtain rfl := Option.some.inj H
          go_wp2
          go_ret
          exact ⟨by first | rfl | (simp [errW_none, errW_some] <;> rfl) | (simp [*, errW_none, errW_some] <;> rfl), by repeat (first | (with_reducible first | exact HB.out | apply below_alloc | apply pw_below_drewN | apply below_drew1) | exact HB.out)⟩
        · replace c15 := Bool.eq_false_iff.mpr c15
          subst c15
          have H1 : ((bits_UnsignedOf.f a0).bind fun bt329 => ((bits_SeptetsOf.f kj6 a0).bind fun bt331 => (if t324 = true then (if bt329.2 = 0 then (if bt331.2 = 0 then ((examinerref08_Unsigned.f kj6 a0).bind fun t333 => (if bt329.1.toList = t333.toList then ((examinerref08_Septets.f kj6 a0).bind fun t334 => (if bt331.1.toList = t334.toList then (examinerlaw08_BitsNumbers.j1 kj6 a0 a1 t324) else (some false))) else (some false))) else (some false)) else (some false)) else (if bt329.1.toList = ([] : List UInt8) then (if bt331.1.toList = ([] : List UInt8) then (if bt329.2 = 3 then (if bt331.2 = 3 then (examinerlaw08_BitsNumbers.j1 kj6 a0 a1 t324) else (some false)) else (some false)) else (some false)) else (some false))))) = some r := by rw [if_neg (show ¬ (false = true) by decide)] at H; exact H
          clear H
          have H := H1
          clear H1
          replace H := Option.bind_eq_some_iff.mp H
          obtain ⟨⟨t329, t330⟩, A160, H⟩ := H
          replace H : ((bits_SeptetsOf.f kj6 a0).bind fun bt331 => (if t324 = true then (if t330 = 0 then (if bt331.2 = 0 then ((examinerref08_Unsigned.f kj6 a0).bind fun t333 => (if t329.toList = t333.toList then ((examinerref08_Septets.f kj6 a0).bind fun t334 => (if bt331.1.toList = t334.toList then (examinerlaw08_BitsNumbers.j1 kj6 a0 a1 t324) else (some false))) else (some false))) else (some false)) else (some false)) else (if t329.toList = ([] : List UInt8) then (if bt331.1.toList = ([] : List UInt8) then (if t330 = 3 then (if bt331.2 = 3 then (examinerlaw08_BitsNumbers.j1 kj6 a0 a1 t324) else (some false)) else (some false)) else (some false)) else (some false)))) = some r := H
          have A16 := Aside0.mk A160
          clear A160
          replace H := Option.bind_eq_some_iff.mp H
          obtain ⟨⟨t331, t332⟩, A170, H⟩ := H
          replace H : (if t324 = true then (if t330 = 0 then (if t332 = 0 then ((examinerref08_Unsigned.f kj6 a0).bind fun t333 => (if t329.toList = t333.toList then ((examinerref08_Septets.f kj6 a0).bind fun t334 => (if t331.toList = t334.toList then (examinerlaw08_BitsNumbers.j1 kj6 a0 a1 t324) else (some false))) else (some false))) else (some false)) else (some false)) else (if t329.toList = ([] : List UInt8) then (if t331.toList = ([] : List UInt8) then (if t330 = 3 then (if t332 = 3 then (examinerlaw08_BitsNumbers.j1 kj6 a0 a1 t324) else (some false)) else (some false)) else (some false)) else (some false))) = some r := H
          have A17 := Aside0.mk A170
          clear A170
          have HC18 := Aside0.mk H
          clear H
          go_upto_if 66 with (first | ((with_reducible refine gate_callee (f := 31) rfl ?_); refine goesL_ (some 57) rfl rfl Tryd.func31 (by kernel_rfl) rfl #[.int .i64 a0] rfl (by (try simp only [List.map_toArray, List.map_cons, List.map_nil]); first | done | rfl | (simp only [List.length_drop, List.length_take]; rfl)) ?_; (with_reducible refine (bits_UnsignedOf.calls a0 t329 t330 _ A16.out).mono ?_); rintro e w19 ⟨rfl, hb⟩; refine ⟨_, rfl, ?_⟩; have n0_ := Aside0.mk (below_step (by repeat (first | (with_reducible first | exact HB.out | apply below_alloc | apply pw_below_drewN | apply below_drew1) | exact HB.out)) hb); clear HB; have HB := n0_; clear n0_; (try clear hb); (try clear hb2); (try clear hk); (try clear hi)) | ((with_reducible refine gate_callee (f := 32) rfl ?_); refine goesL_ (some 62) rfl rfl Tryd.func32 (by kernel_rfl) rfl #[.int .i64 a0] rfl (by (try simp only [List.map_toArray, List.map_cons, List.map_nil]); first | done | rfl | (simp only [List.length_drop, List.length_take]; rfl)) ?_; (with_reducible refine (bits_SeptetsOf.calls kj6 a0 t331 t332 _ A17.out).mono ?_); rintro e w20 ⟨rfl, hb⟩; refine ⟨_, rfl, ?_⟩; have n0_ := Aside0.mk (below_step (by repeat (first | (with_reducible first | exact HB.out | apply below_alloc | apply pw_below_drewN | apply below_drew1) | exact HB.out)) hb); clear HB; have HB := n0_; clear n0_; (try clear hb); (try clear hb2); (try clear hk); (try clear hi)))
          (try simp only [Act.put, List.setIfInBounds_toArray, List.set_cons_zero, List.set_cons_succ])
          go_cut [] (fun wc => ∃ (kq : Nat), Aside0 (examinerlaw08_BitsNumbers.j1 kq a0 a1 t324 = some r) ∧ Aside0 (kq ≤ kj6) ∧ Aside0 (Below w.heap.size w wc))
          case first =>
            have H := HC18.out
            clear HC18
            by_cases c21 : t324 = true
            · subst c21
              have H1 : (if t330 = 0 then (if t332 = 0 then ((examinerref08_Unsigned.f kj6 a0).bind fun t333 => (if t329.toList = t333.toList then ((examinerref08_Septets.f kj6 a0).bind fun t334 => (if t331.toList = t334.toList then (examinerlaw08_BitsNumbers.j1 kj6 a0 a1 true) else (some false))) else (some false))) else (some false)) else (some false)) = some r := by rw [if_pos rfl] at H; exact H
              clear H
              have H := H1
              clear H1
              by_cases c22 : t330 = 0
              · rw [if_pos c22] at H
                have c22b0 : (t330 == 0) = true := beq_iff_eq.mpr c22
                have c22b1 : (t330 != 0) = false := bne_eq_false_iff_eq.mpr c22
                clear c22
                (first | rw [c22b0] | (simp only [i64_w, i32_w]; rw [c22b0]) | skip)
                by_cases c23 : t332 = 0
                · rw [if_pos c23] at H
                  have c23b0 : (t332 == 0) = true := beq_iff_eq.mpr c23
                  have c23b1 : (t332 != 0) = false := bne_eq_false_iff_eq.mpr c23
                  clear c23
                  replace H := Option.bind_eq_some_iff.mp H
                  obtain ⟨t333, A240, H⟩ := H
                  replace H : (if t329.toList = t333.toList then ((examinerref08_Septets.f kj6 a0).bind fun t334 => (if t331.toList = t334.toList then (examinerlaw08_BitsNumbers.j1 kj6 a0 a1 true) else (some false))) else (some false)) = some r := H
                  have A24 := Aside0.mk A240
                  clear A240
                  by_cases c25 : t329.toList = t333.toList
                  · rw [if_pos c25] at H
                    have c25b0 : (t329.toList == t333.toList) = true := beq_iff_eq.mpr c25
                    have c25b1 : (t329.toList != t333.toList) = false := bne_eq_false_iff_eq.mpr c25
                    clear c25
                    replace H := Option.bind_eq_some_iff.mp H
                    obtain ⟨t334, A260, H⟩ := H
                    replace H : (if t331.toList = t334.toList then (examinerlaw08_BitsNumbers.j1 kj6 a0 a1 true) else (some false)) = some r := H
                    have A26 := Aside0.mk A260
                    clear A260
                    by_cases c27 : t331.toList = t334.toList
                    · rw [if_pos c27] at H
                      have c27b0 : (t331.toList == t334.toList) = true := beq_iff_eq.mpr c27
                      have c27b1 : (t331.toList != t334.toList) = false := bne_eq_false_iff_eq.mpr c27
                      clear c27
                      have H' := Aside0.mk H
                      clear H
                      go_wp2_with (first | (go_at_call 33; (with_reducible refine (examinerref08_Unsigned.calls kj6 a0 t333 _ A24.out).mono ?_); rintro e w28 ⟨rfl, hb⟩; have n0_ := Aside0.mk (below_step (by repeat (first | (with_reducible first | exact HB.out | apply below_alloc | apply pw_below_drewN | apply below_drew1) | exact HB.out)) hb); clear HB; have HB := n0_; clear n0_; (try clear hb); (try clear hb2); (try clear hk); (try clear hi)) | (go_at_call 34; (with_reducible refine (examinerref08_Septets.calls kj6 a0 t334 _ A26.out).mono ?_); rintro e w29 ⟨rfl, hb⟩; have n0_ := Aside0.mk (below_step (by repeat (first | (with_reducible first | exact HB.out | apply below_alloc | apply pw_below_drewN | apply below_drew1) | exact HB.out)) hb); clear HB; have HB := n0_; clear n0_; (try clear hb); (try clear hb2); (try clear hk); (try clear hi)))
                      go_meet
                      case rel => exact ⟨_, H', ⟨by have := HJ6.out; first | omega | exact Nat.le_refl _⟩, ⟨by repeat (first | (with_reducible first | exact HB.out | apply below_alloc | apply pw_below_drewN | apply below_drew1) | exact HB.out)⟩⟩
                    · rw [if_neg c27] at H
                      have c27b0 : (t331.toList == t334.toList) = false := beq_eq_false_iff_ne.mpr c27
                      have c27b1 : (t331.toList != t334.toList) = true := bne_iff_ne.mpr c27
                      obtain rfl := Option.some.inj H
                      go_wp2_with (first | (go_at_call 33; (with_reducible refine (examinerref08_Unsigned.calls kj6 a0 t333 _ A24.out).mono ?_); rintro e w30 ⟨rfl, hb⟩; have n0_ := Aside0.mk (below_step (by repeat (first | (with_reducible first | exact HB.out | apply below_alloc | apply pw_below_drewN | apply below_drew1) | exact HB.out)) hb); clear HB; have HB := n0_; clear n0_; (try clear hb); (try clear hb2); (try clear hk); (try clear hi)) | (go_at_call 34; (with_reducible refine (examinerref08_Septets.calls kj6 a0 t334 _ A26.out).mono ?_); rintro e w31 ⟨rfl, hb⟩; have n0_ := Aside0.mk (below_step (by repeat (first | (with_reducible first | exact HB.out | apply below_alloc | apply pw_below_drewN | apply below_drew1) | exact HB.out)) hb); clear HB; have HB := n0_; clear n0_; (try clear hb); (try clear hb2); (try clear hk); (try clear hi)))
                      go_ret
                      exact ⟨by first | rfl | (simp [errW_none, errW_some] <;> rfl) | (simp [*, errW_none, errW_some] <;> rfl), by repeat (first | (with_reducible first | exact HB.out | apply below_alloc | apply pw_below_drewN | apply below_drew1) | exact HB.out)⟩
                  · rw [if_neg c25] at H
                    have c25b0 : (t329.toList == t333.toList) = false := beq_eq_false_iff_ne.mpr c25
                    have c25b1 : (t329.toList != t333.toList) = true := bne_iff_ne.mpr c25
                    obtain rfl := Option.some.inj H
                    go_wp2_with (first | (go_at_call 33; (with_reducible refine (examinerref08_Unsigned.calls kj6 a0 t333 _ A24.out).mono ?_); rintro e w32 ⟨rfl, hb⟩; have n0_ := Aside0.mk (below_step (by repeat (first | (with_reducible first | exact HB.out | apply below_alloc | apply pw_below_drewN | apply below_drew1) | exact HB.out)) hb); clear HB; have HB := n0_; clear n0_; (try clear hb); (try clear hb2); (try clear hk); (try clear hi)))
                    go_ret
                    exact ⟨by first | rfl | (simp [errW_none, errW_some] <;> rfl) | (simp [*, errW_none, errW_some] <;> rfl), by repeat (first | (with_reducible first | exact HB.out | apply below_alloc | apply pw_below_drewN | apply below_drew1) | exact HB.out)⟩
                · rw [if_neg c23] at H
                  have c23b0 : (t332 == 0) = false := beq_eq_false_iff_ne.mpr c23
                  have c23b1 : (t332 != 0) = true := bne_iff_ne.mpr c23
                  obtain rfl := Option.some.inj H
                  go_wp2
                  go_ret
                  exact ⟨by first | rfl | (simp [errW_none, errW_some] <;> rfl) | (simp [*, errW_none, errW_some] <;> rfl), by repeat (first | (with_reducible first | exact HB.out | apply below_alloc | apply pw_below_drewN | apply below_drew1) | exact HB.out)⟩
              · rw [if_neg c22] at H
                have c22b0 : (t330 == 0) = false := beq_eq_false_iff_ne.mpr c22
                have c22b1 : (t330 != 0) = true := bne_iff_ne.mpr c22
                (first | rw [c22b0] | (simp only [i64_w, i32_w]; rw [c22b0]) | skip)
                obtain rfl := Option.some.inj H
                go_wp2
                go_ret
                exact ⟨by first | rfl | (simp [errW_none, errW_some] <;> rfl) | (simp [*, errW_none, errW_some] <;> rfl), by repeat (first | (with_reducible first | exact HB.out | apply below_alloc | apply pw_below_drewN | apply below_drew1) | exact HB.out)⟩
            · replace c21 := Bool.eq_false_iff.mpr c21
              subst c21
              have H1 : (if t329.toList = ([] : List UInt8) then (if t331.toList = ([] : List UInt8) then (if t330 = 3 then (if t332 = 3 then (examinerlaw08_BitsNumbers.j1 kj6 a0 a1 false) else (some false)) else (some false)) else (some false)) else (some false)) = some r := by rw [if_neg (show ¬ (false = true) by decide)] at H; exact H
              clear H
              have H := H1
              clear H1
              by_cases c33 : t329.toList = ([] : List UInt8)
              · rw [if_pos c33] at H
                have c33b0 : (t329.toList == ([] : List UInt8)) = true := beq_iff_eq.mpr c33
                have c33b1 : (t329.toList != ([] : List UInt8)) = false := bne_eq_false_iff_eq.mpr c33
                clear c33
                by_cases c34 : t331.toList = ([] : List UInt8)
                · rw [if_pos c34] at H
                  have c34b0 : (t331.toList == ([] : List UInt8)) = true := beq_iff_eq.mpr c34
                  have c34b1 : (t331.toList != ([] : List UInt8)) = false := bne_eq_false_iff_eq.mpr c34
                  clear c34
                  by_cases c35 : t330 = 3
                  · rw [if_pos c35] at H
                    have c35b0 : (t330 == 3) = true := beq_iff_eq.mpr c35
                    have c35b1 : (t330 != 3) = false := bne_eq_false_iff_eq.mpr c35
                    clear c35
                    by_cases c36 : t332 = 3
                    · rw [if_pos c36] at H
                      have c36b0 : (t332 == 3) = true := beq_iff_eq.mpr c36
                      have c36b1 : (t332 != 3) = false := bne_eq_false_iff_eq.mpr c36
                      clear c36
                      have H' := Aside0.mk H
                      clear H
                      go_wp2
                      go_meet
                      case rel => exact ⟨_, H', ⟨by have := HJ6.out; first | omega | exact Nat.le_refl _⟩, ⟨by repeat (first | (with_reducible first | exact HB.out | apply below_alloc | apply pw_below_drewN | apply below_drew1) | exact HB.out)⟩⟩
                    · rw [if_neg c36] at H
                      have c36b0 : (t332 == 3) = false := beq_eq_false_iff_ne.mpr c36
                      have c36b1 : (t332 != 3) = true := bne_iff_ne.mpr c36
                      obtain rfl := Option.some.inj H
                      go_wp2
                      go_ret
                      exact ⟨by first | rfl | (simp [errW_none, errW_some] <;> rfl) | (simp [*, errW_none, errW_some] <;> rfl), by repeat (first | (with_reducible first | exact HB.out | apply below_alloc | apply pw_below_drewN | apply below_drew1) | exact HB.out)⟩
                  · rw [if_neg c35] at H
                    have c35b0 : (t330 == 3) = false := beq_eq_false_iff_ne.mpr c35
                    have c35b1 : (t330 != 3) = true := bne_iff_ne.mpr c35
                    obtain rfl := Option.some.inj H
                    go_wp2
                    go_ret
                    exact ⟨by first | rfl | (simp [errW_none, errW_some] <;> rfl) | (simp [*, errW_none, errW_some] <;> rfl), by repeat (first | (with_reducible first | exact HB.out | apply below_alloc | apply pw_below_drewN | apply below_drew1) | exact HB.out)⟩
                · rw [if_neg c34] at H
                  have c34b0 : (t331.toList == ([] : List UInt8)) = false := beq_eq_false_iff_ne.mpr c34
                  have c34b1 : (t331.toList != ([] : List UInt8)) = true := bne_iff_ne.mpr c34
                  obtain rfl := Option.some.inj H
                  go_wp2
                  go_ret
                  exact ⟨by first | rfl | (simp [errW_none, errW_some] <;> rfl) | (simp [*, errW_none, errW_some] <;> rfl), by repeat (first | (with_reducible first | exact HB.out | apply below_alloc | apply pw_below_drewN | apply below_drew1) | exact HB.out)⟩
              · rw [if_neg c33] at H
                have c33b0 : (t329.toList == ([] : List UInt8)) = false := beq_eq_false_iff_ne.mpr c33
                have c33b1 : (t329.toList != ([] : List UInt8)) = true := bne_iff_ne.mpr c33
                obtain rfl := Option.some.inj H
                go_wp2
                go_ret
                exact ⟨by first | rfl | (simp [errW_none, errW_some] <;> rfl) | (simp [*, errW_none, errW_some] <;> rfl), by repeat (first | (with_reducible first | exact HB.out | apply below_alloc | apply pw_below_drewN | apply below_drew1) | exact HB.out)⟩
          case rest =>
            clear HC18
            try clear c1
            try clear c2
            try clear p2
            try clear c3
            try clear c4
            try clear c6
            try clear p6
            try clear c10
            try clear c10b0
            try clear c10b1
            try clear c10b2
            try clear c11
            try clear c11b0
            try clear c11b1
            try clear c13
            try clear c13b0
            try clear c13b1
            try clear c14
            try clear c14b0
            try clear c14b1
            try clear c15
            try clear c21
            try clear c22
            try clear c22b0
            try clear c22b1
            try clear c23
            try clear c23b0
            try clear c23b1
            try clear c25
            try clear c25b0
            try clear c25b1
            try clear c27
            try clear c27b0
            try clear c27b1
            try clear c28
            try clear c29
            try clear c31
            try clear c32
            try clear c33
            try clear c33b0
            try clear c33b1
            try clear c34
            try clear c34b0
            try clear c34b1
            try clear c35
            try clear c35b0
            try clear c35b1
            try clear c36
            try clear c36b0
            try clear c36b1
            try clear p2
            try clear p6
            obtain ⟨kq, HA, HJ17, HB⟩ := hcut
            cases kq with
            | zero => exact absurd HA.out (by simp [examinerlaw08_BitsNumbers.j1])
            | succ kj17 =>
              have H := HA.out
              clear HA
              simp only [examinerlaw08_BitsNumbers.j1] at H
              replace H := Option.bind_eq_some_iff.mp H
              obtain ⟨⟨t335, t336⟩, A370, H⟩ := H
              replace H : ((examinerbase_Within.f a0 (-1152921504606846976) 1152921504606846976).bind fun t337 => (if t337 = true then (if t336 = 0 then ((examinerref08_Signed.f kj17 a0).bind fun t338 => (if t335.toList = t338.toList then (examinerlaw08_BitsNumbers.j2 kj17 a0 a1 t324) else (some false))) else (some false)) else (if t336 = 3 then (if t335.toList = ([] : List UInt8) then (examinerlaw08_BitsNumbers.j2 kj17 a0 a1 t324) else (some false)) else (some false)))) = some r := H
              have A37 := Aside0.mk A370
              clear A370
              replace H := Option.bind_eq_some_iff.mp H
              obtain ⟨t337, A380, H⟩ := H
              replace H : (if t337 = true then (if t336 = 0 then ((examinerref08_Signed.f kj17 a0).bind fun t338 => (if t335.toList = t338.toList then (examinerlaw08_BitsNumbers.j2 kj17 a0 a1 t324) else (some false))) else (some false)) else (if t336 = 3 then (if t335.toList = ([] : List UInt8) then (examinerlaw08_BitsNumbers.j2 kj17 a0 a1 t324) else (some false)) else (some false))) = some r := H
              have A38 := Aside0.mk A380
              clear A380
              have HC39 := Aside0.mk H
              clear H
              go_upto_if 105 with (first | ((with_reducible refine gate_callee (f := 35) rfl ?_); refine goesL_ (some 101) rfl rfl Tryd.func35 (by kernel_rfl) rfl #[.int .i64 a0] rfl (by (try simp only [List.map_toArray, List.map_cons, List.map_nil]); first | done | rfl | (simp only [List.length_drop, List.length_take]; rfl)) ?_; (with_reducible refine (bits_SignedOf.calls kj17 a0 t335 t336 _ A37.out).mono ?_); rintro e w40 ⟨rfl, hb⟩; refine ⟨_, rfl, ?_⟩; have n0_ := Aside0.mk (below_step (by repeat (first | (with_reducible first | exact HB.out | apply below_alloc | apply pw_below_drewN | apply below_drew1) | exact HB.out)) hb); clear HB; have HB := n0_; clear n0_; (try clear hb); (try clear hb2); (try clear hk); (try clear hi)) | ((with_reducible refine gate_callee (f := 28) rfl ?_); refine goesL_ (some 105) rfl rfl Tryd.func28 (by kernel_rfl) rfl #[.int .i64 a0, .int .i64 (-1152921504606846976), .int .i64 1152921504606846976] rfl (by (try simp only [List.map_toArray, List.map_cons, List.map_nil]); first | done | rfl | (simp only [List.length_drop, List.length_take]; rfl)) ?_; (with_reducible refine (examinerbase_Within.calls a0 (-1152921504606846976) 1152921504606846976 t337 _ A38.out).mono ?_); rintro e w' ⟨rfl, ⟨nd, rfl⟩⟩; refine ⟨_, rfl, ?_⟩))
              (try simp only [Act.put, List.setIfInBounds_toArray, List.set_cons_zero, List.set_cons_succ])
              go_cut [] (fun wc => ∃ (kq : Nat), Aside0 (examinerlaw08_BitsNumbers.j2 kq a0 a1 t324 = some r) ∧ Aside0 (kq ≤ kj17) ∧ Aside0 (Below w.heap.size w wc))
              case first =>
                have H := HC39.out
                clear HC39
                by_cases c41 : t337 = true
                · subst c41
                  have H1 : (if t336 = 0 then ((examinerref08_Signed.f kj17 a0).bind fun t338 => (if t335.toList = t338.toList then (examinerlaw08_BitsNumbers.j2 kj17 a0 a1 t324) else (some false))) else (some false)) = some r := by rw [if_pos rfl] at H; exact H
                  clear H
                  have H := H1
                  clear H1
                  by_cases c42 : t336 = 0
                  · rw [if_pos c42] at H
                    have c42b0 : (t336 == 0) = true := beq_iff_eq.mpr c42
                    have c42b1 : (t336 != 0) = false := bne_eq_false_iff_eq.mpr c42
                    clear c42
                    (first | rw [c42b0] | (simp only [i64_w, i32_w]; rw [c42b0]) | skip)
                    replace H := Option.bind_eq_some_iff.mp H
                    obtain ⟨t338, A430, H⟩ := H
                    replace H : (if t335.toList = t338.toList then (examinerlaw08_BitsNumbers.j2 kj17 a0 a1 t324) else (some false)) = some r := H
                    have A43 := Aside0.mk A430
                    clear A430
                    by_cases c44 : t335.toList = t338.toList
                    · rw [if_pos c44] at H
                      have c44b0 : (t335.toList == t338.toList) = true := beq_iff_eq.mpr c44
                      have c44b1 : (t335.toList != t338.toList) = false := bne_eq_false_iff_eq.mpr c44
                      clear c44
                      have H' := Aside0.mk H
                      clear H
                      go_wp2_with (first | (go_at_call 36; (with_reducible refine (examinerref08_Signed.calls kj17 a0 t338 _ A43.out).mono ?_); rintro e w45 ⟨rfl, hb⟩; have n0_ := Aside0.mk (below_step (by repeat (first | (with_reducible first | exact HB.out | apply below_alloc | apply pw_below_drewN | apply below_drew1) | exact HB.out)) hb); clear HB; have HB := n0_; clear n0_; (try clear hb); (try clear hb2); (try clear hk); (try clear hi)))
                      go_meet
                      case rel => exact ⟨_, H', ⟨by have := HJ6.out; have := HJ17.out; first | omega | exact Nat.le_refl _⟩, ⟨by repeat (first | (with_reducible first | exact HB.out | apply below_alloc | apply pw_below_drewN | apply below_drew1) | exact HB.out)⟩⟩
                    · rw [if_neg c44] at H
                      have c44b0 : (t335.toList == t338.toList) = false := beq_eq_false_iff_ne.mpr c44
                      have c44b1 : (t335.toList != t338.toList) = true := bne_iff_ne.mpr c44
                      obtain rfl := Option.some.inj H
                      go_wp2_with (first | (go_at_call 36; (with_reducible refine (examinerref08_Signed.calls kj17 a0 t338 _ A43.out).mono ?_); rintro e w46 ⟨rfl, hb⟩; have n0_ := Aside0.mk (below_step (by repeat (first | (with_reducible first | exact HB.out | apply below_alloc | apply pw_below_drewN | apply below_drew1) | exact HB.out)) hb); clear HB; have HB := n0_; clear n0_; (try clear hb); (try clear hb2); (try clear hk); (try clear hi)))
                      go_ret
                      exact ⟨by first | rfl | (simp [errW_none, errW_some] <;> rfl) | (simp [*, errW_none, errW_some] <;> rfl), by repeat (first | (with_reducible first | exact HB.out | apply below_alloc | apply pw_below_drewN | apply below_drew1) | exact HB.out)⟩
                  · rw [if_neg c42] at H
                    have c42b0 : (t336 == 0) = false := beq_eq_false_iff_ne.mpr c42
                    have c42b1 : (t336 != 0) = true := bne_iff_ne.mpr c42
                    (first | rw [c42b0] | (simp only [i64_w, i32_w]; rw [c42b0]) | skip)
                    obtain rfl := Option.some.inj H
                    go_wp2
                    go_ret
                    exact ⟨by first | rfl | (simp [errW_none, errW_some] <;> rfl) | (simp [*, errW_none, errW_some] <;> rfl), by repeat (first | (with_reducible first | exact HB.out | apply below_alloc | apply pw_below_drewN | apply below_drew1) | exact HB.out)⟩
                · replace c41 := Bool.eq_false_iff.mpr c41
                  subst c41
                  have H1 : (if t336 = 3 then (if t335.toList = ([] : List UInt8) then (examinerlaw08_BitsNumbers.j2 kj17 a0 a1 t324) else (some false)) else (some false)) = some r := by rw [if_neg (show ¬ (false = true) by decide)] at H; exact H
                  clear H
                  have H := H1
                  clear H1
                  by_cases c47 : t336 = 3
                  · rw [if_pos c47] at H
                    have c47b0 : (t336 == 3) = true := beq_iff_eq.mpr c47
                    have c47b1 : (t336 != 3) = false := bne_eq_false_iff_eq.mpr c47
                    clear c47
                    by_cases c48 : t335.toList = ([] : List UInt8)
                    · rw [if_pos c48] at H
                      have c48b0 : (t335.toList == ([] : List UInt8)) = true := beq_iff_eq.mpr c48
                      have c48b1 : (t335.toList != ([] : List UInt8)) = false := bne_eq_false_iff_eq.mpr c48
                      clear c48
                      have H' := Aside0.mk H
                      clear H
                      go_wp2
                      go_meet
                      case rel => exact ⟨_, H', ⟨by have := HJ6.out; have := HJ17.out; first | omega | exact Nat.le_refl _⟩, ⟨by repeat (first | (with_reducible first | exact HB.out | apply below_alloc | apply pw_below_drewN | apply below_drew1) | exact HB.out)⟩⟩
                    · rw [if_neg c48] at H
                      have c48b0 : (t335.toList == ([] : List UInt8)) = false := beq_eq_false_iff_ne.mpr c48
                      have c48b1 : (t335.toList != ([] : List UInt8)) = true := bne_iff_ne.mpr c48
                      obtain rfl := Option.some.inj H
                      go_wp2
                      go_ret
                      exact ⟨by first | rfl | (simp [errW_none, errW_some] <;> rfl) | (simp [*, errW_none, errW_some] <;> rfl), by repeat (first | (with_reducible first | exact HB.out | apply below_alloc | apply pw_below_drewN | apply below_drew1) | exact HB.out)⟩
                  · rw [if_neg c47] at H
                    have c47b0 : (t336 == 3) = false := beq_eq_false_iff_ne.mpr c47
                    have c47b1 : (t336 != 3) = true := bne_iff_ne.mpr c47
                    obtain rfl := Option.some.inj H
                    go_wp2
                    go_ret
                    exact ⟨by first | rfl | (simp [errW_none, errW_some] <;> rfl) | (simp [*, errW_none, errW_some] <;> rfl), by repeat (first | (with_reducible first | exact HB.out | apply below_alloc | apply pw_below_drewN | apply below_drew1) | exact HB.out)⟩
              case rest =>
                clear HC39
                try clear c1
                try clear c2
                try clear p2
                try clear c3
                try clear c4
                try clear c6
                try clear p6
                try clear c10
                try clear c10b0
                try clear c10b1
                try clear c10b2
                try clear c11
                try clear c11b0
                try clear c11b1
                try clear c13
                try clear c13b0
                try clear c13b1
                try clear c14
                try clear c14b0
                try clear c14b1
                try clear c15
                try clear c21
                try clear c22
                try clear c22b0
                try clear c22b1
                try clear c23
                try clear c23b0
                try clear c23b1
                try clear c25
                try clear c25b0
                try clear c25b1
                try clear c27
                try clear c27b0
                try clear c27b1
                try clear c28
                try clear c29
                try clear c31
                try clear c32
                try clear c33
                try clear c33b0
                try clear c33b1
                try clear c34
                try clear c34b0
                try clear c34b1
                try clear c35
                try clear c35b0
                try clear c35b1
                try clear c36
                try clear c36b0
                try clear c36b1
                try clear c41
                try clear c42
                try clear c42b0
                try clear c42b1
                try clear c44
                try clear c44b0
                try clear c44b1
                try clear c47
                try clear c47b0
                try clear c47b1
                try clear c48
                try clear c48b0
                try clear c48b1
                try clear p2
                try clear p6
                obtain ⟨kq, HA, HJ38, HB⟩ := hcut
                cases kq with
                | zero => exact absurd HA.out (by simp [examinerlaw08_BitsNumbers.j2])
                | succ kj38 =>
                  have H := HA.out
                  clear HA
                  simp only [examinerlaw08_BitsNumbers.j2] at H
                  replace H := Option.bind_eq_some_iff.mp H
                  obtain ⟨⟨t339, t340⟩, A490, H⟩ := H
                  replace H : (if t324 = true then ((examinerbase_Within.f a1 0 3).bind fun t341 => (examinerlaw08_BitsNumbers.j3 kj38 a0 a1 t339 t340 t341)) else (examinerlaw08_BitsNumbers.j3 kj38 a0 a1 t339 t340 false)) = some r := H
                  have A49 := Aside0.mk A490
                  clear A490
                  have HC50 := Aside0.mk H
                  clear H
                  go_upto_region 21 with (first | ((with_reducible refine gate_callee (f := 37) rfl ?_); refine goesL_ (some 123) rfl rfl Tryd.func37 (by kernel_rfl) rfl #[.int .i64 a0, .int .i64 a1] rfl (by (try simp only [List.map_toArray, List.map_cons, List.map_nil]); first | done | rfl | (simp only [List.length_drop, List.length_take]; rfl)) ?_; (with_reducible refine (bits_LengthOf.calls kj38 a0 a1 t339 t340 _ A49.out).mono ?_); rintro e w51 ⟨rfl, hb⟩; refine ⟨_, rfl, ?_⟩; have n0_ := Aside0.mk (below_step (by repeat (first | (with_reducible first | exact HB.out | apply below_alloc | apply pw_below_drewN | apply below_drew1) | exact HB.out)) hb); clear HB; have HB := n0_; clear n0_; (try clear hb); (try clear hb2); (try clear hk); (try clear hi)))
                  (try simp only [Act.put, List.setIfInBounds_toArray, List.set_cons_zero, List.set_cons_succ])
                  go_cut [130] (fun v130 wc => ∃ (kq : Nat) (x130_49 : Bool), v130 = .bool x130_49 ∧ Aside0 (examinerlaw08_BitsNumbers.j3 kq a0 a1 t339 t340 x130_49 = some r) ∧ Aside0 (kq ≤ kj38) ∧ Aside0 (Below w.heap.size w wc))
                  case first =>
                    have H := HC50.out
                    clear HC50
                    by_cases c52 : t324 = true
                    · subst c52
                      have H1 : ((examinerbase_Within.f a1 0 3).bind fun t341 => (examinerlaw08_BitsNumbers.j3 kj38 a0 a1 t339 t340 t341)) = some r := by rw [if_pos rfl] at H; exact H
                      clear H
                      have H := H1
                      clear H1
                      replace H := Option.bind_eq_some_iff.mp H
                      obtain ⟨t341, A530, H⟩ := H
                      replace H : (examinerlaw08_BitsNumbers.j3 kj38 a0 a1 t339 t340 t341) = some r := H
                      have A53 := Aside0.mk A530
                      clear A530
                      have H' := Aside0.mk H
                      clear H
                      go_wp2_with (first | (go_at_call 28; (with_reducible refine (examinerbase_Within.calls a1 0 3 t341 _ A53.out).mono ?_); rintro e w' ⟨rfl, ⟨nd, rfl⟩⟩))
                      go_meet
                      case rel => exact ⟨_, (t341), (by first | rfl | (simp; done) | (simp [*]; done)), H', ⟨by have := HJ6.out; have := HJ17.out; have := HJ38.out; first | omega | exact Nat.le_refl _⟩, ⟨by repeat (first | (with_reducible first | exact HB.out | apply below_alloc | apply pw_below_drewN | apply below_drew1) | exact HB.out)⟩⟩
                    · replace c52 := Bool.eq_false_iff.mpr c52
                      subst c52
                      have H1 : (examinerlaw08_BitsNumbers.j3 kj38 a0 a1 t339 t340 false) = some r := by rw [if_neg (show ¬ (false = true) by decide)] at H; exact H
                      clear H
                      have H := H1
                      clear H1
                      have H' := Aside0.mk H
                      clear H
                      go_wp2
                      go_meet
                      case rel => exact ⟨_, (false), (by first | rfl | (simp; done) | (simp [*]; done)), H', ⟨by have := HJ6.out; have := HJ17.out; have := HJ38.out; first | omega | exact Nat.le_refl _⟩, ⟨by repeat (first | (with_reducible first | exact HB.out | apply below_alloc | apply pw_below_drewN | apply below_drew1) | exact HB.out)⟩⟩
                  case rest =>
                    clear HC50
                    try clear c1
                    try clear c2
                    try clear p2
                    try clear c3
                    try clear c4
                    try clear c5
                    try clear c6
                    try clear p6
                    try clear c10
                    try clear c10b0
                    try clear c10b1
                    try clear c10b2
                    try clear c11
                    try clear c11b0
                    try clear c11b1
                    try clear c13
                    try clear c13b0
                    try clear c13b1
                    try clear c14
                    try clear c14b0
                    try clear c14b1
                    try clear c15
                    try clear c21
                    try clear c22
                    try clear c22b0
                    try clear c22b1
                    try clear c23
                    try clear c23b0
                    try clear c23b1
                    try clear c25
                    try clear c25b0
                    try clear c25b1
                    try clear c27
                    try clear c27b0
                    try clear c27b1
                    try clear c28
                    try clear c29
                    try clear c31
                    try clear c32
                    try clear c33
                    try clear c33b0
                    try clear c33b1
                    try clear c34
                    try clear c34b0
                    try clear c34b1
                    try clear c35
                    try clear c35b0
                    try clear c35b1
                    try clear c36
                    try clear c36b0
                    try clear c36b1
                    try clear c37
                    try clear c41
                    try clear c42
                    try clear c42b0
                    try clear c42b1
                    try clear c44
                    try clear c44b0
                    try clear c44b1
                    try clear c47
                    try clear c47b0
                    try clear c47b1
                    try clear c48
                    try clear c48b0
                    try clear c48b1
                    try clear c52
                    try clear p2
                    try clear p6
                    obtain ⟨kq, x130_49, rfl, HA, HJ49, HB⟩ := hcut
                    cases kq with
                    | zero => exact absurd HA.out (by simp [examinerlaw08_BitsNumbers.j3])
                    | succ kj49 =>
                      have H := HA.out
                      clear HA
                      simp only [examinerlaw08_BitsNumbers.j3] at H
                      have HC54 := Aside0.mk H
                      clear H
                      go_upto_if 130 with (fail)
                      go_cut [] (fun wc => ∃ (kq : Nat), Aside0 (examinerlaw08_BitsNumbers.j4 kq a0 = some r) ∧ Aside0 (kq ≤ kj49) ∧ Aside0 (Below w.heap.size w wc))
                      case first =>
                        have H := HC54.out
                        clear HC54
                        by_cases c55 : x130_49 = true
                        · subst c55
                          have H1 : (if t340 = 0 then ((examinerref08_Length.f kj49 a0 a1).bind fun t342 => (if t339.toList = t342.toList then (examinerlaw08_BitsNumbers.j4 kj49 a0) else (some false))) else (some false)) = some r := by rw [if_pos rfl] at H; exact H
                          clear H
                          have H := H1
                          clear H1
                          by_cases c56 : t340 = 0
                          · rw [if_pos c56] at H
                            have c56b0 : (t340 == 0) = true := beq_iff_eq.mpr c56
                            have c56b1 : (t340 != 0) = false := bne_eq_false_iff_eq.mpr c56
                            clear c56
                            (first | rw [c56b0] | (simp only [i64_w, i32_w]; rw [c56b0]) | skip)
                            replace H := Option.bind_eq_some_iff.mp H
                            obtain ⟨t342, A570, H⟩ := H
                            replace H : (if t339.toList = t342.toList then (examinerlaw08_BitsNumbers.j4 kj49 a0) else (some false)) = some r := H
                            have A57 := Aside0.mk A570
                            clear A570
                            by_cases c58 : t339.toList = t342.toList
                            · rw [if_pos c58] at H
                              have c58b0 : (t339.toList == t342.toList) = true := beq_iff_eq.mpr c58
                              have c58b1 : (t339.toList != t342.toList) = false := bne_eq_false_iff_eq.mpr c58
                              clear c58
                              have H' := Aside0.mk H
                              clear H
                              go_wp2_with (first | (go_at_call 38; (with_reducible refine (examinerref08_Length.calls kj49 a0 a1 t342 _ A57.out).mono ?_); rintro e w59 ⟨rfl, hb⟩; have n0_ := Aside0.mk (below_step (by repeat (first | (with_reducible first | exact HB.out | apply below_alloc | apply pw_below_drewN | apply below_drew1) | exact HB.out)) hb); clear HB; have HB := n0_; clear n0_; (try clear hb); (try clear hb2); (try clear hk); (try clear hi)))
                              go_meet
                              case rel => exact ⟨_, H', ⟨by have := HJ6.out; have := HJ17.out; have := HJ38.out; have := HJ49.out; first | omega | exact Nat.le_refl _⟩, ⟨by repeat (first | (with_reducible first | exact HB.out | apply below_alloc | apply pw_below_drewN | apply below_drew1) | exact HB.out)⟩⟩
                            · rw [if_neg c58] at H
                              have c58b0 : (t339.toList == t342.toList) = false := beq_eq_false_iff_ne.mpr c58
                              have c58b1 : (t339.toList != t342.toList) = true := bne_iff_ne.mpr c58
                              obtain rfl := Option.some.inj H
                              go_wp2_with (first | (go_at_call 38; (with_reducible refine (examinerref08_Length.calls kj49 a0 a1 t342 _ A57.out).mono ?_); rintro e w60 ⟨rfl, hb⟩; have n0_ := Aside0.mk (below_step (by repeat (first | (with_reducible first | exact HB.out | apply below_alloc | apply pw_below_drewN | apply below_drew1) | exact HB.out)) hb); clear HB; have HB := n0_; clear n0_; (try clear hb); (try clear hb2); (try clear hk); (try clear hi)))
                              go_ret
                              exact ⟨by first | rfl | (simp [errW_none, errW_some] <;> rfl) | (simp [*, errW_none, errW_some] <;> rfl), by repeat (first | (with_reducible first | exact HB.out | apply below_alloc | apply pw_below_drewN | apply below_drew1) | exact HB.out)⟩
                          · rw [if_neg c56] at H
                            have c56b0 : (t340 == 0) = false := beq_eq_false_iff_ne.mpr c56
                            have c56b1 : (t340 != 0) = true := bne_iff_ne.mpr c56
                            (first | rw [c56b0] | (simp only [i64_w, i32_w]; rw [c56b0]) | skip)
                            obtain rfl := Option.some.inj H
                            go_wp2
                            go_ret
                            exact ⟨by first | rfl | (simp [errW_none, errW_some] <;> rfl) | (simp [*, errW_none, errW_some] <;> rfl), by repeat (first | (with_reducible first | exact HB.out | apply below_alloc | apply pw_below_drewN | apply below_drew1) | exact HB.out)⟩
                        · replace c55 := Bool.eq_false_iff.mpr c55
                          subst c55
                          have H1 : (if t340 = 3 then (if t339.toList = ([] : List UInt8) then (examinerlaw08_BitsNumbers.j4 kj49 a0) else (some false)) else (some false)) = some r := by rw [if_neg (show ¬ (false = true) by decide)] at H; exact H
                          clear H
                          have H := H1
                          clear H1
                          by_cases c61 : t340 = 3
                          · rw [if_pos c61] at H
                            have c61b0 : (t340 == 3) = true := beq_iff_eq.mpr c61
                            have c61b1 : (t340 != 3) = false := bne_eq_false_iff_eq.mpr c61
                            clear c61
                            by_cases c62 : t339.toList = ([] : List UInt8)
                            · rw [if_pos c62] at H
                              have c62b0 : (t339.toList == ([] : List UInt8)) = true := beq_iff_eq.mpr c62
                              have c62b1 : (t339.toList != ([] : List UInt8)) = false := bne_eq_false_iff_eq.mpr c62
                              clear c62
                              have H' := Aside0.mk H
                              clear H
                              go_wp2
                              go_meet
                              case rel => exact ⟨_, H', ⟨by have := HJ6.out; have := HJ17.out; have := HJ38.out; have := HJ49.out; first | omega | exact Nat.le_refl _⟩, ⟨by repeat (first | (with_reducible first | exact HB.out | apply below_alloc | apply pw_below_drewN | apply below_drew1) | exact HB.out)⟩⟩
                            · rw [if_neg c62] at H
                              have c62b0 : (t339.toList == ([] : List UInt8)) = false := beq_eq_false_iff_ne.mpr c62
                              have c62b1 : (t339.toList != ([] : List UInt8)) = true := bne_iff_ne.mpr c62
                              obtain rfl := Option.some.inj H
                              go_wp2
                              go_ret
                              exact ⟨by first | rfl | (simp [errW_none, errW_some] <;> rfl) | (simp [*, errW_none, errW_some] <;> rfl), by repeat (first | (with_reducible first | exact HB.out | apply below_alloc | apply pw_below_drewN | apply below_drew1) | exact HB.out)⟩
                          · rw [if_neg c61] at H
                            have c61b0 : (t340 == 3) = false := beq_eq_false_iff_ne.mpr c61
                            have c61b1 : (t340 != 3) = true := bne_iff_ne.mpr c61
                            obtain rfl := Option.some.inj H
                            go_wp2
                            go_ret
                            exact ⟨by first | rfl | (simp [errW_none, errW_some] <;> rfl) | (simp [*, errW_none, errW_some] <;> rfl), by repeat (first | (with_reducible first | exact HB.out | apply below_alloc | apply pw_below_drewN | apply below_drew1) | exact HB.out)⟩
                      case rest =>
                        clear HC54
                        try clear c1
                        try clear c2
                        try clear p2
                        try clear c3
                        try clear c4
                        try clear c5
                        try clear c6
                        try clear p6
                        try clear c10
                        try clear c10b0
                        try clear c10b1
                        try clear c10b2
                        try clear c11
                        try clear c11b0
                        try clear c11b1
                        try clear c13
                        try clear c13b0
                        try clear c13b1
                        try clear c14
                        try clear c14b0
                        try clear c14b1
                        try clear c15
                        try clear c21
                        try clear c22
                        try clear c22b0
                        try clear c22b1
                        try clear c23
                        try clear c23b0
                        try clear c23b1
                        try clear c25
                        try clear c25b0
                        try clear c25b1
                        try clear c27
                        try clear c27b0
                        try clear c27b1
                        try clear c28
                        try clear c29
                        try clear c31
                        try clear c32
                        try clear c33
                        try clear c33b0
                        try clear c33b1
                        try clear c34
                        try clear c34b0
                        try clear c34b1
                        try clear c35
                        try clear c35b0
                        try clear c35b1
                        try clear c36
                        try clear c36b0
                        try clear c36b1
                        try clear c37
                        try clear c41
                        try clear c42
                        try clear c42b0
                        try clear c42b1
                        try clear c44
                        try clear c44b0
                        try clear c44b1
                        try clear c47
                        try clear c47b0
                        try clear c47b1
                        try clear c48
                        try clear c48b0
                        try clear c48b1
                        try clear c52
                        try clear c55
                        try clear c56
                        try clear c56b0
                        try clear c56b1
                        try clear c58
                        try clear c58b0
                        try clear c58b1
                        try clear c61
                        try clear c61b0
                        try clear c61b1
                        try clear c62
                        try clear c62b0
                        try clear c62b1
                        try clear p2
                        try clear p6
                        obtain ⟨kq, HA, HJ53, HB⟩ := hcut
                        cases kq with
                        | zero => exact absurd HA.out (by simp [examinerlaw08_BitsNumbers.j4])
                        | succ kj53 =>
                          have H := HA.out
                          clear HA
                          simp only [examinerlaw08_BitsNumbers.j4] at H
                          replace H := Option.bind_eq_some_iff.mp H
                          obtain ⟨⟨t343, t344⟩, A630, H⟩ := H
                          replace H : ((examinerbase_Within.f a0 0 16383).bind fun t345 => (if t345 = true then (if t344 = 0 then ((examinerref08_Fragment.f kj53 a0).bind fun t346 => (some (t343.toList == t346.toList))) else (some false)) else (if t344 = 3 then (some (t343.toList == ([] : List UInt8))) else (some false)))) = some r := H
                          have A63 := Aside0.mk A630
                          clear A630
                          replace H := Option.bind_eq_some_iff.mp H
                          obtain ⟨t345, A640, H⟩ := H
                          replace H : (if t345 = true then (if t344 = 0 then ((examinerref08_Fragment.f kj53 a0).bind fun t346 => (some (t343.toList == t346.toList))) else (some false)) else (if t344 = 3 then (some (t343.toList == ([] : List UInt8))) else (some false))) = some r := H
                          have A64 := Aside0.mk A640
                          clear A640
                          by_cases c65 : t345 = true
                          · subst c65
                            have H1 : (if t344 = 0 then ((examinerref08_Fragment.f kj53 a0).bind fun t346 => (some (t343.toList == t346.toList))) else (some false)) = some r := by rw [if_pos rfl] at H; exact H
                            clear H
                            have H := H1
                            clear H1
                            by_cases c66 : t344 = 0
                            · rw [if_pos c66] at H
                              have c66b0 : (t344 == 0) = true := beq_iff_eq.mpr c66
                              have c66b1 : (t344 != 0) = false := bne_eq_false_iff_eq.mpr c66
                              clear c66
                              replace H := Option.bind_eq_some_iff.mp H
                              obtain ⟨t346, A670, H⟩ := H
                              replace H : (some (t343.toList == t346.toList)) = some r := H
                              have A67 := Aside0.mk A670
                              clear A670
                              obtain rfl := Option.some.inj H
                              go_wp2_with (first | ((with_reducible refine gate_callee (f := 39) rfl ?_); refine goesL_ (some 148) rfl rfl Tryd.func39 (by kernel_rfl) rfl #[.int .i64 a0] rfl (by (try simp only [List.map_toArray, List.map_cons, List.map_nil]); first | done | rfl | (simp only [List.length_drop, List.length_take]; rfl)) ?_; (with_reducible refine (bits_FragmentOf.calls a0 t343 t344 _ A63.out).mono ?_); rintro e w68 ⟨rfl, hb⟩; refine ⟨_, rfl, ?_⟩; have n0_ := Aside0.mk (below_step (by repeat (first | (with_reducible first | exact HB.out | apply below_alloc | apply pw_below_drewN | apply below_drew1) | exact HB.out)) hb); clear HB; have HB := n0_; clear n0_; (try clear hb); (try clear hb2); (try clear hk); (try clear hi)) | ((with_reducible refine gate_callee (f := 28) rfl ?_); refine goesL_ (some 152) rfl rfl Tryd.func28 (by kernel_rfl) rfl #[.int .i64 a0, .int .i64 0, .int .i64 16383] rfl (by (try simp only [List.map_toArray, List.map_cons, List.map_nil]); first | done | rfl | (simp only [List.length_drop, List.length_take]; rfl)) ?_; (with_reducible refine (examinerbase_Within.calls a0 0 16383 true _ A64.out).mono ?_); rintro e w' ⟨rfl, ⟨nd, rfl⟩⟩; refine ⟨_, rfl, ?_⟩) | (go_at_call 40; (with_reducible refine (examinerref08_Fragment.calls kj53 a0 t346 _ A67.out).mono ?_); rintro e w69 ⟨rfl, hb⟩; have n0_ := Aside0.mk (below_step (by repeat (first | (with_reducible first | exact HB.out | apply below_alloc | apply pw_below_drewN | apply below_drew1) | exact HB.out)) hb); clear HB; have HB := n0_; clear n0_; (try clear hb); (try clear hb2); (try clear hk); (try clear hi)))
                              go_ret
                              exact ⟨by first | rfl | (simp [errW_none, errW_some] <;> rfl) | (simp [*, errW_none, errW_some] <;> rfl), by repeat (first | (with_reducible first | exact HB.out | apply below_alloc | apply pw_below_drewN | apply below_drew1) | exact HB.out)⟩
                            · rw [if_neg c66] at H
                              have c66b0 : (t344 == 0) = false := beq_eq_false_iff_ne.mpr c66
                              have c66b1 : (t344 != 0) = true := bne_iff_ne.mpr c66
                              obtain rfl := Option.some.inj H
                              go_wp2_with (first | ((with_reducible refine gate_callee (f := 39) rfl ?_); refine goesL_ (some 148) rfl rfl Tryd.func39 (by kernel_rfl) rfl #[.int .i64 a0] rfl (by (try simp only [List.map_toArray, List.map_cons, List.map_nil]); first | done | rfl | (simp only [List.length_drop, List.length_take]; rfl)) ?_; (with_reducible refine (bits_FragmentOf.calls a0 t343 t344 _ A63.out).mono ?_); rintro e w70 ⟨rfl, hb⟩; refine ⟨_, rfl, ?_⟩; have n0_ := Aside0.mk (below_step (by repeat (first | (with_reducible first | exact HB.out | apply below_alloc | apply pw_below_drewN | apply below_drew1) | exact HB.out)) hb); clear HB; have HB := n0_; clear n0_; (try clear hb); (try clear hb2); (try clear hk); (try clear hi)) | ((with_reducible refine gate_callee (f := 28) rfl ?_); refine goesL_ (some 152) rfl rfl Tryd.func28 (by kernel_rfl) rfl #[.int .i64 a0, .int .i64 0, .int .i64 16383] rfl (by (try simp only [List.map_toArray, List.map_cons, List.map_nil]); first | done | rfl | (simp only [List.length_drop, List.length_take]; rfl)) ?_; (with_reducible refine (examinerbase_Within.calls a0 0 16383 true _ A64.out).mono ?_); rintro e w' ⟨rfl, ⟨nd, rfl⟩⟩; refine ⟨_, rfl, ?_⟩))
                              go_ret
                              exact ⟨by first | rfl | (simp [errW_none, errW_some] <;> rfl) | (simp [*, errW_none, errW_some] <;> rfl), by repeat (first | (with_reducible first | exact HB.out | apply below_alloc | apply pw_below_drewN | apply below_drew1) | exact HB.out)⟩
                          · replace c65 := Bool.eq_false_iff.mpr c65
                            subst c65
                            have H1 : (if t344 = 3 then (some (t343.toList == ([] : List UInt8))) else (some false)) = some r := by rw [if_neg (show ¬ (false = true) by decide)] at H; exact H
                            clear H
                            have H := H1
                            clear H1
                            by_cases c71 : t344 = 3
                            · rw [if_pos c71] at H
                              have c71b0 : (t344 == 3) = true := beq_iff_eq.mpr c71
                              have c71b1 : (t344 != 3) = false := bne_eq_false_iff_eq.mpr c71
                              clear c71
                              obtain rfl := Option.some.inj H
                              go_wp2_with (first | ((with_reducible refine gate_callee (f := 39) rfl ?_); refine goesL_ (some 148) rfl rfl Tryd.func39 (by kernel_rfl) rfl #[.int .i64 a0] rfl (by (try simp only [List.map_toArray, List.map_cons, List.map_nil]); first | done | rfl | (simp only [List.length_drop, List.length_take]; rfl)) ?_; (with_reducible refine (bits_FragmentOf.calls a0 t343 t344 _ A63.out).mono ?_); rintro e w72 ⟨rfl, hb⟩; refine ⟨_, rfl, ?_⟩; have n0_ := Aside0.mk (below_step (by repeat (first | (with_reducible first | exact HB.out | apply below_alloc | apply pw_below_drewN | apply below_drew1) | exact HB.out)) hb); clear HB; have HB := n0_; clear n0_; (try clear hb); (try clear hb2); (try clear hk); (try clear hi)) | ((with_reducible refine gate_callee (f := 28) rfl ?_); refine goesL_ (some 152) rfl rfl Tryd.func28 (by kernel_rfl) rfl #[.int .i64 a0, .int .i64 0, .int .i64 16383] rfl (by (try simp only [List.map_toArray, List.map_cons, List.map_nil]); first | done | rfl | (simp only [List.length_drop, List.length_take]; rfl)) ?_; (with_reducible refine (examinerbase_Within.calls a0 0 16383 false _ A64.out).mono ?_); rintro e w' ⟨rfl, ⟨nd, rfl⟩⟩; refine ⟨_, rfl, ?_⟩))
                              go_ret
                              exact ⟨by first | rfl | (simp [errW_none, errW_some] <;> rfl) | (simp [*, errW_none, errW_some] <;> rfl), by repeat (first | (with_reducible first | exact HB.out | apply below_alloc | apply pw_below_drewN | apply below_drew1) | exact HB.out)⟩
                            · rw [if_neg c71] at H
                              have c71b0 : (t344 == 3) = false := beq_eq_false_iff_ne.mpr c71
                              have c71b1 : (t344 != 3) = true := bne_iff_ne.mpr c71
                              obtain rfl := Option.some.inj H
                              go_wp2_with (first | ((with_reducible refine gate_callee (f := 39) rfl ?_); refine goesL_ (some 148) rfl rfl Tryd.func39 (by kernel_rfl) rfl #[.int .i64 a0] rfl (by (try simp only [List.map_toArray, List.map_cons, List.map_nil]); first | done | rfl | (simp only [List.length_drop, List.length_take]; rfl)) ?_; (with_reducible refine (bits_FragmentOf.calls a0 t343 t344 _ A63.out).mono ?_); rintro e w73 ⟨rfl, hb⟩; refine ⟨_, rfl, ?_⟩; have n0_ := Aside0.mk (below_step (by repeat (first | (with_reducible first | exact HB.out | apply below_alloc | apply pw_below_drewN | apply below_drew1) | exact HB.out)) hb); clear HB; have HB := n0_; clear n0_; (try clear hb); (try clear hb2); (try clear hk); (try clear hi)) | ((with_reducible refine gate_callee (f := 28) rfl ?_); refine goesL_ (some 152) rfl rfl Tryd.func28 (by kernel_rfl) rfl #[.int .i64 a0, .int .i64 0, .int .i64 16383] rfl (by (try simp only [List.map_toArray, List.map_cons, List.map_nil]); first | done | rfl | (simp only [List.length_drop, List.length_take]; rfl)) ?_; (with_reducible refine (examinerbase_Within.calls a0 0 16383 false _ A64.out).mono ?_); rintro e w' ⟨rfl, ⟨nd, rfl⟩⟩; refine ⟨_, rfl, ?_⟩))
                              go_ret
                              exact ⟨by first | rfl | (simp [errW_none, errW_some] <;> rfl) | (simp [*, errW_none, errW_some] <;> rfl), by repeat (first | (with_reducible first | exact HB.out | apply below_alloc | apply pw_below_drewN | apply below_drew1) | exact HB.out)⟩
  · replace c4 := Bool.eq_false_iff.mpr c4
    subst c4
    have H1 : (some false) = some r := by rw [if_neg (show ¬ (false = true) by decide)] at H; exact H
    clear H
    have H := H1
    clear H1
    obtain rfl := Option.some.inj H
    go_enter Tryd.func6, Tryd.ntmps6
    go_wp2_with (first | ((with_reducible refine gate_callee (f := 11) rfl ?_); refine goesL_ (some 18) rfl rfl Tryd.func11 (by kernel_rfl) rfl #[] rfl (by (try simp only [List.map_toArray, List.map_cons, List.map_nil]); first | done | rfl | (simp only [List.length_drop, List.length_take]; rfl)) ?_; (with_reducible refine (examinerlaw08_awake.calls k  false _ A3.out).mono ?_); rintro e w74 ⟨rfl, hb⟩; refine ⟨_, rfl, ?_⟩; have n0_ := Aside0.mk (below_step (by repeat (first | (with_reducible first | exact HB.out | apply below_alloc | apply pw_below_drewN | apply below_drew1) | exact HB.out)) hb); clear HB; have HB := n0_; clear n0_; (try clear hb); (try clear hb2); (try clear hk); (try clear hi)))
    go_ret
    exact ⟨by first | rfl | (simp [errW_none, errW_some] <;> rfl) | (simp [*, errW_none, errW_some] <;> rfl), by repeat (first | (with_reducible first | exact HB.out | apply below_alloc | apply pw_below_drewN | apply below_drew1) | exact HB.out)⟩

/-- THE ONE PURE STATEMENT of examinerlaw08_BitsNumbers: yours. -/
def examinerlaw08_BitsNumbers.Pure : Prop := ∀ (a0 : Int) (a1 : Int), (Lit.int .i64 a0).wf = true → (Lit.int .i64 a1).wf = true → ∃ k, examinerlaw08_BitsNumbers.f k a0 a1 = some true
theorem examinerlaw08_BitsNumbers.walk (P : examinerlaw08_BitsNumbers.Pure) (a0 : Int) (a1 : Int) (w : World) (w0 : (Lit.int .i64 a0).wf = true) (w1 : (Lit.int .i64 a1).wf = true) :
    Calls Tryd.prog 6 #[.int .i64 a0, .int .i64 a1] w fun e w' => e = .returned (.bool true) ∧ Below w.heap.size w w' := by
  obtain ⟨k, h⟩ := P a0 a1 w0 w1
  refine (examinerlaw08_BitsNumbers.calls k a0 a1 true w h).mono ?_
  rintro e w' ⟨rfl, hd⟩
  exact ⟨rfl, hd⟩

end Go.Proofs.YthicmbhldjebfaaDoor.PA
