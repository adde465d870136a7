/- ref.Unpack: by hand, in the printer's form: the octets' digits, one string behind the other. -/
import Derived.Test.YthicmbhldjebfaaDoorPAx7
import Derived.Test.YthicmbhldjebfaaDoorHB
import Derived.Lib.AppendStr
namespace Go.Proofs.YthicmbhldjebfaaDoor.PA
open Go Go.RowKit Go.Proofs.YthicmbhldjebfaaDoorW.PrintWords Go.Proofs.YthicmbhldjebfaaDoorW.PrintLast Go.Proofs.YthicmbhldjebfaaDoorW.PrintMore
set_option linter.unusedVariables false
set_option linter.unusedSimpArgs false
/-- The strings of octets, one behind the other. -/
def unpackS : List Int → List Int → Option (List Int)
  | xs, [] => some xs
  | xs, b :: r => (examinerref08_Binary.f 20 b 8).bind fun t => if xs.length + t.size ≤ 140737488355328 then unpackS (xs ++ bytesOf t) r else none
def examinerref08_Unpack.f (s : ByteArray) : Option ByteArray := if s.size ≤ 35184372088832 then (unpackS [] (bytesOf s)).bind fun xs => some (strOfNums xs) else none
theorem append_nums (xs : List Int) (t : ByteArray) {w : World} {base e : Nat} {v : Value} : w.ownsRow base e 1 v (xs ++ bytesOf t).length (nums .u8 (xs ++ bytesOf t)) = w.ownsRow base e 1 v (xs.length + t.size) (nums .u8 xs ++ Lib.strCells t) := by
  have h1 : (xs ++ bytesOf t).length = xs.length + t.size := by simp [bytesOf]
  have h2 : nums .u8 (xs ++ bytesOf t) = nums .u8 xs ++ Lib.strCells t := by simp [nums, bytesOf, Lib.strCells]
  rw [h1, h2]
set_option maxHeartbeats 1000000 in
set_option maxRecDepth 100000 in
theorem examinerref08_Unpack.calls (a0 : ByteArray) (r : ByteArray) (w : World) (h : examinerref08_Unpack.f a0 = some r) :
    Calls Tryd.prog 24 #[.string a0] w fun e w' => e = .returned (.string r) ∧ Below w.heap.size w w' := by
  unfold examinerref08_Unpack.f at h
  split at h
  · rename_i hs
    obtain ⟨R, hR, hr⟩ := Option.bind_eq_some_iff.1 h
    obtain rfl := Option.some.inj hr
    clear h hr
    obtain ⟨i0, hi, hz0, hz1, hz2⟩ := info_parts info5
    obtain ⟨w1, hmk, hv, hg⟩ := run_make_own (P := Tryd.prog) w w.heap.size 69 5 i0 _ 1 Tryd.underlying69 hi hz0 hz1 .i64 .i64 (8 * a0.size) (by rw [hz2]; omega) (by unfold maxLen; omega) (Nat.le_refl _)
    have hb1 : Below w.heap.size w w1 := (Below.refl _ w).grown hg (Nat.le_refl _) (by simp)
    rw [show ((8 * a0.size : Nat) : Int) = 8 * (a0.size : Int) by omega] at hmk
    have HR : Hid (unpackS [] ((bytesOf a0).drop 0) = some R) := Lib.hid hR
    have HV : Aside0 (w1.ownsRow w.heap.size 5 1 (.slice (some ⟨w.heap.size, 0, none⟩) 0 (8 * a0.size)) ([] : List Int).length (nums .u8 [])) := ⟨hv⟩
    have HB := Aside0.mk hb1
    clear hR hv hb1 hg
    go_enter Tryd.func24, Tryd.ntmps24
    go_wp2
    go_loopw [3, 4] (fun v i wr => ∃ (k : Nat) (xs : List Int), k ≤ a0.size ∧ i = .int .i64 k ∧ Hid (unpackS xs ((bytesOf a0).drop k) = some R) ∧ Aside0 (wr.ownsRow w.heap.size 5 1 v xs.length (nums .u8 xs)) ∧ Aside0 (Below w.heap.size w wr)) (fun _ i _ => a0.size - (intOf i).toNat)
    case atStart => exact ⟨0, [], Nat.zero_le _, rfl, HR, HV, HB⟩
    case round =>
      obtain ⟨k, xs, hk, rfl, HE, HX, HL⟩ := hrel
      clear HV HB HR hmk
      by_cases hlt : k < a0.size
      · have hl : k < (bytesOf a0).length := by simp [bytesOf]; exact hlt
        have he := HE.out
        rw [List.drop_eq_getElem_cons hl] at he
        simp only [unpackS] at he
        obtain ⟨t, ht, he⟩ := Option.bind_eq_some_iff.1 he
        split at he
        · rename_i hsz
          obtain ⟨c, hc⟩ : ∃ c, a0[k]'hlt = c := ⟨_, rfl⟩
          have hcb : (bytesOf a0)[k] = (c.toNat : Int) := by
            rw [← hc]
            simp [bytesOf]
            rfl
          rw [hcb] at ht
          have HT := Aside0.mk ht
          have hcw : wrap64 (c.toNat : Int) = c.toNat := by have := UInt8.toNat_lt c; unfold wrap64; omega
          have HE2 := Lib.hid he
          have hw := HL.out.size
          clear ht he HE hcb
          go_wp2_with (first
            | (go_at_call 58; refine (examinerref08_Binary.calls 20 _ 8 t _ HT.out).mono ?_; rintro e w2 ⟨rfl, hb2⟩; have HX2 := Aside0.mk (pw_own_below HX.out hb2); have HL2 := Aside0.mk (below_step HL.out hb2); have hw2 := hb2.size)
            | (at_builtin; (have h0 := HX2); clear h0; refine Lib.wpList_append_own_string _ rfl (.tmp 15) (.tmp 20) 69 9 rfl w.heap.size 5 i0 Tryd.underlying69 Tryd.underlying9 hi hz0 hz1 hz2 _ _ _ rfl HX2.out t rfl (by unfold maxLen; omega) hsz (by omega) ?_; intro v' w3 hv' hg' _))
          go_roundw
          case rel => exact ⟨k + 1, xs ++ bytesOf t, by omega, by go_num, HE2, ⟨by rw [append_nums]; exact hv'⟩, ⟨HL2.out.grown hg' (by omega) (fun j ej => own_base HX2.out j ej)⟩⟩
          case measure => simp [intOf]; omega
        · cases he
      · obtain rfl : k = a0.size := by omega
        have he := HE.out
        rw [List.drop_of_length_le (by simp [bytesOf])] at he
        obtain rfl := Option.some.inj he
        have hcv := own_string (P := Tryd.prog) Tryd.underlying69 Tryd.underlying5 Tryd.underlying9 HX.out
        clear HE he
        go_wp2
        go_ret
        exact ⟨rfl, HL.out⟩
  · cases h
end Go.Proofs.YthicmbhldjebfaaDoor.PA
