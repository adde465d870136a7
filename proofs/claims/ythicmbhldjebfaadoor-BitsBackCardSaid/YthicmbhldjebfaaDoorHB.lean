/- bits.unpack: by hand, in the printer's form: digits, octet by octet. -/
import Derived.Test.YthicmbhldjebfaaDoorPAx4
import Derived.Laws.MakeOwn
import Derived.Lib.Hide
namespace Go.Proofs.YthicmbhldjebfaaDoor.PA
open Go Go.RowKit Go.Proofs.YthicmbhldjebfaaDoorW.PrintWords Go.Proofs.YthicmbhldjebfaaDoorW.PrintLast Go.Proofs.YthicmbhldjebfaaDoorW.PrintMore
set_option linter.unusedVariables false
set_option linter.unusedSimpArgs false
/-- make([]T, 0, c). -/
theorem R_makeEmpty {α : Type} (d : Kd α) {P : Program} (W : World) (t e : TypeId) (i : TypeInfo) (z : Value) (ht : P.underlying t = some (.slice e)) (hi : P.info? e = some i) (hz : i.zero = some z) (hs : i.size = d.sz) (c : Nat) (hb : i.bytes * c ≤ 281474976710656) (hc : c ≤ maxLen) (base : Nat) (hbase : base ≤ W.heap.size) :
    ∃ v w', (Instr.makeSlice t (.int .i64 0) (.int .i64 (c : Int))).run P W = .ok v w' ∧ d.R e w' base (fun _ => True) v [] ∧ W.grownBy w' none := by
  obtain ⟨w', h1, h2, h3⟩ := run_make_own (P := P) W base t e i z d.sz ht hi hz hs .i64 .i64 c hb hc hbase
  exact ⟨_, w', h1, ⟨fun _ _ => trivial, [], h2, Reps.none _ _⟩, h3⟩
/-- The digits of octets, one after the other. -/
def unpackN : List Int → List Int → Option (List Int)
  | xs, [] => some xs
  | xs, b :: r => (bits_digits.f 20 xs b 8).bind fun ys => unpackN ys r
def bits_unpack.f (s : ByteArray) : Option ByteArray := if s.size ≤ 35184372088832 then (unpackN [] (bytesOf s)).bind fun xs => some (strOfNums xs) else none
set_option maxHeartbeats 1000000 in
set_option maxRecDepth 100000 in
theorem bits_unpack.calls (a0 : ByteArray) (r : ByteArray) (w : World) (h : bits_unpack.f a0 = some r) :
    Calls Tryd.prog 57 #[.string a0] w fun e w' => e = .returned (.string r) ∧ Below w.heap.size w w' := by
  unfold bits_unpack.f at h
  split at h
  · rename_i hs
    obtain ⟨R, hR, hr⟩ := Option.bind_eq_some_iff.1 h
    obtain rfl := Option.some.inj hr
    clear h hr
    obtain ⟨i0, hi, hz0, hz1, hz2⟩ := info_parts info5
    obtain ⟨v, w1, hmk, hv, hg⟩ := R_makeEmpty (Kd.int .u8) (P := Tryd.prog) w 69 5 i0 _ Tryd.underlying69 hi hz0 hz1 (8 * a0.size) (by rw [hz2]; omega) (by unfold maxLen; omega) w.heap.size (Nat.le_refl _)
    have hb1 : Below w.heap.size w w1 := (Below.refl _ w).grown hg (Nat.le_refl _) (by simp)
    rw [show ((8 * a0.size : Nat) : Int) = 8 * (a0.size : Int) by omega] at hmk
    have HR : Hid (unpackN [] ((bytesOf a0).drop 0) = some R) := Lib.hid hR
    have HV := Aside0.mk hv
    have HB := Aside0.mk hb1
    clear hR hv hb1 hg hi hz0 hz1 hz2
    go_enter Tryd.func57, Tryd.ntmps57
    go_wp2
    go_loopw [3, 11] (fun v i wr => ∃ (k : Nat) (xs : List Int), k ≤ a0.size ∧ i = .int .i64 k ∧ Hid (unpackN xs ((bytesOf a0).drop k) = some R) ∧ Aside0 (Kd.R (Kd.int .u8) 5 wr w.heap.size (fun _ => True) v xs) ∧ Aside0 (Below w.heap.size w wr)) (fun _ i _ => a0.size - (intOf i).toNat)
    case atStart => exact ⟨0, [], Nat.zero_le _, rfl, HR, HV, HB⟩
    case round =>
      obtain ⟨k, xs, hk, rfl, HE, HX, HL⟩ := hrel
      clear HV HB HR
      by_cases hlt : k < a0.size
      · have hl : k < (bytesOf a0).length := by simp [bytesOf]; exact hlt
        have he := HE.out
        rw [List.drop_eq_getElem_cons hl] at he
        simp only [unpackN] at he
        obtain ⟨ys, hy, he⟩ := Option.bind_eq_some_iff.1 he
        obtain ⟨c, hc⟩ : ∃ c, a0[k]'hlt = c := ⟨_, rfl⟩
        have hcb : (bytesOf a0)[k] = (c.toNat : Int) := by
          rw [← hc]
          simp [bytesOf]
          rfl
        rw [hcb] at hy
        have HY := Aside0.mk hy
        have hcw : wrap64 (c.toNat : Int) = c.toNat := by have := UInt8.toNat_lt c; unfold wrap64; omega
        have HE2 := Lib.hid he
        clear hy he HE hcb
        go_wp2_with (go_at_call 56; refine (bits_digits.calls 20 (fun _ => True) _ xs _ 8 ys w _ HL.out HX.out HY.out).mono ?_; rintro e w2 ⟨v2, rfl, hv2, hb2, _⟩)
        go_roundw
        case rel => exact ⟨k + 1, ys, by omega, by go_num, HE2, ⟨Kd.R_mono hv2 (fun _ _ => trivial)⟩, ⟨hb2⟩⟩
        case measure => simp [intOf]; omega
      · obtain rfl : k = a0.size := by omega
        have he := HE.out
        rw [List.drop_of_length_le (by simp [bytesOf])] at he
        obtain rfl := Option.some.inj he
        have hcv := own_string (P := Tryd.prog) Tryd.underlying69 Tryd.underlying5 Tryd.underlying9 (Kd.own_of_R HX.out)
        clear HE he
        go_wp2
        go_ret
        exact ⟨rfl, HL.out⟩
  · cases h
end Go.Proofs.YthicmbhldjebfaaDoor.PA
