/- strings.Trim(s, "\x00"): by hand: whether anything is left. -/
import Derived.Test.YtgflelipamofoaaDoorWWords
import Derived.Test.YtgflelipamofoaaDoorPAx0
import Derived.Lib.Hide
import Derived.Deep.RegionWith
namespace Go.Proofs.YtgflelipamofoaaDoor.PA
open Go Go.RowKit Go.Proofs.YtgflelipamofoaaDoorW.PrintWords Go.Proofs.YtgflelipamofoaaDoorW.PrintLast Go.Proofs.YtgflelipamofoaaDoorW.PrintMore
set_option linter.unusedVariables false
set_option linter.unusedSimpArgs false
/-- Are all bytes 0? -/
def all0 (s : ByteArray) : Bool := s.data.toList.all fun b => b == 0
theorem t_extract_twice (s : ByteArray) (a k i : Nat) (h : i ≤ k) : (s.extract 0 k).extract 0 i = s.extract 0 i := by
  apply ByteArray.ext
  simp [ByteArray.data_extract, Array.extract_extract, Nat.min_eq_left h]
theorem t_extract_tail (s : ByteArray) (k : Nat) (h : k < s.size) : (s.extract k s.size).extract 1 (s.size - k) = s.extract (k + 1) s.size := by
  apply ByteArray.ext
  rw [ByteArray.data_extract, ByteArray.data_extract, ByteArray.data_extract, Array.extract_extract]
  congr 1
  omega
theorem t_at_tail (s : ByteArray) (k : Nat) (h1 : 0 < (s.extract k s.size).size) (h2 : k < s.data.toList.length) : s.data.toList[k] = (s.extract k s.size)[0] := by
  show s.data.toList[k] = (s.extract k s.size).data[0]
  simp [ByteArray.data_extract]
theorem t_at_extract (s : ByteArray) (k i : Nat) (h1 : i < (s.extract 0 k).size) (h2 : i < s.data.toList.length) : s.data.toList[i] = (s.extract 0 k)[i] := by
  show s.data.toList[i] = (s.extract 0 k).data[i]
  simp [ByteArray.data_extract]
theorem byte0 (c : UInt8) (h : c ≠ 0) : ((c.toNat : Int) == 0) = false ∧ (c.toNat == 0) = false ∧ (c == 0) = false := by
  have hn : c.toNat ≠ 0 := fun e => h (UInt8.toNat_inj.1 e)
  exact ⟨beq_eq_false_iff_ne.mpr (by omega), beq_eq_false_iff_ne.mpr hn, beq_eq_false_iff_ne.mpr h⟩
set_option maxHeartbeats 1000000 in
set_option maxRecDepth 100000 in
theorem trimRight0_calls (s : ByteArray) (w : World) (hs : s.size ≤ 9223372036854775807) :
    Calls Tryd.prog 55 #[.string s, .int .u8 0] w fun e w' => (∃ k : Nat, k ≤ s.size ∧ e = .returned (.string (s.extract 0 k)) ∧ (∀ j (h : j < s.data.toList.length), k ≤ j → s.data.toList[j] = 0) ∧ (∀ (h : k - 1 < s.data.toList.length), 0 < k → s.data.toList[k - 1] ≠ 0)) ∧ w' = w := by
  go_enter Tryd.func55, Tryd.ntmps55
  go_wp2
  go_loop [0] (fun v => ∃ k : Nat, k ≤ s.size ∧ v = .string (s.extract 0 k) ∧ Hid (∀ j (h : j < s.data.toList.length), k ≤ j → s.data.toList[j] = 0)) (fun v => match v with | .string t => t.size | _ => 0)
  case atStart => exact ⟨s.size, Nat.le_refl _, by simp, Lib.hid (fun j h hj => by simp at h; omega)⟩
  case round =>
    obtain ⟨k, hk, rfl, HE⟩ := hrel
    have hsz : (s.extract 0 k).size = k := by simp; omega
    by_cases h0 : k = 0
    · subst h0
      go_wp2
      go_ret
      exact ⟨⟨0, Nat.zero_le _, by rw [show s.extract 0 0 = ByteArray.empty by simp]; rfl, HE.out, fun _ h => by omega⟩, rfl⟩
    · have h1 : 0 < k := by omega
      have h2 : k - 1 < s.data.toList.length := by simp; omega
      obtain ⟨c, hc⟩ : ∃ c, (s.extract 0 k)[k - 1]'(by rw [hsz]; omega) = c := ⟨_, rfl⟩
      have hc2 : s.data.toList[k - 1] = c := by rw [← hc]; exact t_at_extract s k (k - 1) _ _
      have HC := Lib.hid hc2
      clear hc2
      by_cases hb : c = 0
      · subst hb
        go_wp2
        go_round
        case rel => exact ⟨k - 1, by omega, by rw [t_extract_twice s 0 k (k - 1) (by omega)], Lib.hid (fun j h hj => by
          by_cases e : j = k - 1
          · subst e; exact HC.out
          · exact HE.out j h (by omega))⟩
        case measure =>
          show ((s.extract 0 k).extract 0 (k - 1)).size < (s.extract 0 k).size
          simp
          omega
      · obtain ⟨b0, b1, b2⟩ := byte0 c hb
        have HB := Lib.hid hb
        clear hb
        go_wp2
        go_ret
        exact ⟨⟨k, hk, rfl, HE.out, fun h _ => by intro e; exact HB.out (by rw [← HC.out]; first | exact e | simpa using e)⟩, rfl⟩
set_option maxHeartbeats 1000000 in
set_option maxRecDepth 100000 in
theorem trimLeft0_calls (s : ByteArray) (w : World) :
    Calls Tryd.prog 54 #[.string s, .int .u8 0] w fun e w' => (∃ k : Nat, k ≤ s.size ∧ e = .returned (.string (s.extract k s.size)) ∧ (∀ j (h : j < s.data.toList.length), j < k → s.data.toList[j] = 0) ∧ (∀ (h : k < s.data.toList.length), s.data.toList[k] ≠ 0)) ∧ w' = w := by
  go_enter Tryd.func54, Tryd.ntmps54
  go_wp2
  go_loop [0] (fun v => ∃ k : Nat, k ≤ s.size ∧ v = .string (s.extract k s.size) ∧ Hid (∀ j (h : j < s.data.toList.length), j < k → s.data.toList[j] = 0)) (fun v => match v with | .string t => t.size | _ => 0)
  case atStart => exact ⟨0, Nat.zero_le _, by simp, Lib.hid (fun j h hj => by omega)⟩
  case round =>
    obtain ⟨k, hk, rfl, HE⟩ := hrel
    have hsz : (s.extract k s.size).size = s.size - k := by simp
    by_cases h0 : k = s.size
    · have hz : s.size - k = 0 := by omega
      rw [hz] at hsz
      have hemp : s.extract k s.size = ByteArray.empty := ByteArray.ext (Array.eq_empty_of_size_eq_zero hsz)
      rw [hemp]
      have HM := Lib.hid hemp
      clear hsz hz hemp
      go_wp2
      go_ret
      exact ⟨⟨k, by omega, by rw [HM.out]; rfl, HE.out, fun h => by first | omega | (simp at h; omega)⟩, rfl⟩
    · have h2 : k < s.data.toList.length := by simp; omega
      have h3 : 0 < s.size - k := by omega
      obtain ⟨c, hc⟩ : ∃ c, (s.extract k s.size)[0]'(by rw [hsz]; omega) = c := ⟨_, rfl⟩
      have hc2 : s.data.toList[k] = c := by rw [← hc]; exact t_at_tail s k _ _
      have HC := Lib.hid hc2
      clear hc2
      by_cases hb : c = 0
      · subst hb
        go_wp2
        go_round
        case rel => exact ⟨k + 1, by omega, by rw [t_extract_tail s k (by omega)], Lib.hid (fun j h hj => by
          by_cases e : j = k
          · subst e; exact HC.out
          · exact HE.out j h (by omega))⟩
        case measure =>
          show ((s.extract k s.size).extract 1 (s.size - k)).size < (s.extract k s.size).size
          simp
          omega
      · obtain ⟨b0, b1, b2⟩ := byte0 c hb
        have HB := Lib.hid hb
        clear hb
        go_wp2
        go_ret
        exact ⟨⟨k, hk, rfl, HE.out, fun h => by intro e; exact HB.out (by rw [← HC.out]; first | exact e | simpa using e)⟩, rfl⟩
theorem all0_iff (s : ByteArray) : all0 s = true ↔ ∀ j (h : j < s.data.toList.length), s.data.toList[j] = 0 := by
  unfold all0
  rw [List.all_eq_true]
  constructor
  · exact fun h j hj => by simpa using h _ (List.getElem_mem hj)
  · intro h x hx
    obtain ⟨j, hj, rfl⟩ := List.mem_iff_getElem.1 hx
    simpa using h j hj
set_option maxHeartbeats 1000000 in
set_option maxRecDepth 100000 in
theorem trim0_calls (s : ByteArray) (w : World) (hs : s.size ≤ 9223372036854775807) :
    Calls Tryd.prog 47 #[.string s, .string ⟨#[0]⟩] w fun e w' => (∃ u : ByteArray, e = .returned (.string u) ∧ (u.size = 0 ↔ all0 s = true)) ∧ Drawn0 w w' := by
  by_cases h0 : s.size = 0
  · have hemp : s = ByteArray.empty := ByteArray.ext (Array.eq_empty_of_size_eq_zero h0)
    subst hemp
    go_enter Tryd.func47, Tryd.ntmps47
    go_wp2
    go_ret
    exact ⟨⟨_, rfl, by decide⟩, by repeat (first | exact Drawn0.refl _ | apply Drawn0.step)⟩
  · have hne : ¬ s.toList = [] := by
      rw [ByteArray.toList_eq]
      intro e
      apply h0
      have := congrArg List.length e
      simpa using this
    have hemp : s.toList.isEmpty = false := by rw [List.isEmpty_eq_false_iff]; exact hne
    clear h0
    go_enter Tryd.func47, Tryd.ntmps47
    go_wp2
    go_region_with (first
      | (go_at_call 55; refine (trimRight0_calls s _ hs).mono ?_; rintro e w2 ⟨⟨k, hk, rfl, hk1, hk2⟩, rfl⟩)
      | (go_at_call 54; refine (trimLeft0_calls (s.extract 0 k) _).mono ?_; rintro e w2 ⟨⟨k2, hk3, rfl, hk4, hk5⟩, rfl⟩))
    all_goals
      go_wp2
      go_ret
      have hsk : (s.extract 0 k).size = k := by simp; omega
      rw [hsk] at hk3
      refine ⟨⟨_, rfl, ?_⟩, by repeat (first | exact Drawn0.refl _ | apply Drawn0.step)⟩
      have hus : ((s.extract 0 k).extract k2 k).size = k - k2 := by simp; omega
      have hus0 : s.data.toList.length = s.size := by simp
      have hk0 : k = 0 ∨ ∃ h : k - 1 < s.data.toList.length, s.data.toList[k - 1] ≠ 0 := by
        rcases Nat.eq_zero_or_pos k with h | h
        · exact .inl h
        · exact .inr ⟨by omega, hk2 (by omega) h⟩
      rw [hus]
      constructor
      · intro hz
        have e : k2 = k := by omega
        subst e
        rcases hk0 with h | ⟨h, hf⟩
        · exact (all0_iff s).2 fun j hj => hk1 j hj (by omega)
        · exfalso
          have hkp : 0 < k2 := by
            rcases Nat.eq_zero_or_pos k2 with h' | h'
            · exact absurd (hk1 (k2 - 1) h (by omega)) hf
            · exact h'
          have hl : k2 - 1 < (s.extract 0 k2).data.toList.length := by
            have : (s.extract 0 k2).data.toList.length = (s.extract 0 k2).size := by simp
            omega
          have h4 := hk4 (k2 - 1) hl (by omega)
          have h5 : (s.extract 0 k2).data.toList[k2 - 1] = s.data.toList[k2 - 1] := by simp [ByteArray.data_extract]
          rw [h5] at h4
          exact hf h4
      · intro ha
        rcases hk0 with h | ⟨h, hf⟩
        · omega
        · exact absurd ((all0_iff s).1 ha (k - 1) h) hf
end Go.Proofs.YtgflelipamofoaaDoor.PA
