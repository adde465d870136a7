/- bits.isBits: by hand, in the printer's form. -/
import Derived.Test.YthicmbhldjebfaaDoorWWords
import Derived.Test.YthicmbhldjebfaaDoorPAx0
import Derived.Shelf.Strings.AsciiSet
import Derived.Lib.Hide
import Derived.Deep.WholeRow
import Derived.Shelf.Strings.IndexAnyAll
namespace Go.Proofs.YthicmbhldjebfaaDoor.PA
open Go Go.RowKit Go.Shelf Go.Proofs.YthicmbhldjebfaaDoorW.PrintWords Go.Proofs.YthicmbhldjebfaaDoorW.PrintLast Go.Proofs.YthicmbhldjebfaaDoorW.PrintMore
set_option linter.unusedVariables false
set_option linter.unusedSimpArgs false
def renMake : Ren where
  f := fun x => match x with | 227 => 84 | n => n
  t := fun x => match x with | 9 => 9 | 116 => 89 | 4 => 4 | 3 => 3 | 5 => 5 | n => n
  g := fun x => x
theorem laysMake : Lays.n227 Tryd.prog renMake where
  mixed := by kernel_rfl
  f227 := Tryd.func84
  t0 := Tryd.underlying0
  a0 := Tryd.isAgg0
  z0 := Tryd.sizeOf0
  v0 := Tryd.zeroValue0
  t3 := Tryd.underlying3
  a3 := Tryd.isAgg3
  z3 := Tryd.sizeOf3
  v3 := Tryd.zeroValue3
  t4 := Tryd.underlying4
  a4 := Tryd.isAgg4
  z4 := Tryd.sizeOf4
  v4 := Tryd.zeroValue4
  t5 := Tryd.underlying5
  a5 := Tryd.isAgg5
  z5 := Tryd.sizeOf5
  v5 := Tryd.zeroValue5
  t9 := Tryd.underlying9
  a9 := Tryd.isAgg9
  z9 := Tryd.sizeOf9
  v9 := Tryd.zeroValue9
  t116 := Tryd.underlying89
  a116 := Tryd.isAgg89
  z116 := Tryd.sizeOf89
def renHas : Ren where
  f := fun x => match x with | 228 => 90 | n => n
  t := fun x => match x with | 124 => 93 | 5 => 5 | 4 => 4 | 116 => 89 | n => n
  g := fun x => x
theorem laysHas : Lays.n228 Tryd.prog renHas where
  mixed := by kernel_rfl
  f228 := Tryd.func90
  t0 := Tryd.underlying0
  a0 := Tryd.isAgg0
  z0 := Tryd.sizeOf0
  v0 := Tryd.zeroValue0
  t4 := Tryd.underlying4
  a4 := Tryd.isAgg4
  z4 := Tryd.sizeOf4
  v4 := Tryd.zeroValue4
  t5 := Tryd.underlying5
  a5 := Tryd.isAgg5
  z5 := Tryd.sizeOf5
  v5 := Tryd.zeroValue5
  t116 := Tryd.underlying89
  a116 := Tryd.isAgg89
  z116 := Tryd.sizeOf89
  t124 := Tryd.underlying93
  a124 := Tryd.isAgg93
  z124 := Tryd.sizeOf93
  v124 := Tryd.zeroValue93
/-- Is a byte the character 0 or 1? -/
def is01 (x : UInt8) : Bool := x == 48 || x == 49
def all01 (s : ByteArray) : Bool := s.data.toList.all is01
/-- The set lies at block b. -/
def SetAt (w : World) (b : Nat) : Prop := ∀ x : UInt8, w.cell? ⟨b, x.toNat, none⟩ = some (.bool (is01 x))
theorem has_calls (w : World) (b : Nat) (hs : SetAt w b) (c : UInt8) : Calls Tryd.prog 90 #[.pointer (some ⟨b, 0, none⟩), .int .u8 c.toNat] w fun e w' => e = .returned (.bool (is01 c)) ∧ w' = w :=
  Any.asciiSet_contains laysHas b c (is01 c) w (hs c)
theorem extract_twice (s : ByteArray) (a k i : Nat) (h : i ≤ k) : (s.extract 0 k).extract 0 i = s.extract 0 i := by
  apply ByteArray.ext
  simp [ByteArray.data_extract, Array.extract_extract, Nat.min_eq_left h]
theorem extract_tail (s : ByteArray) (k : Nat) (h : k < s.size) : (s.extract k s.size).extract 1 (s.size - k) = s.extract (k + 1) s.size := by
  apply ByteArray.ext
  rw [ByteArray.data_extract, ByteArray.data_extract, ByteArray.data_extract, Array.extract_extract]
  congr 1
  omega
theorem at_tail (s : ByteArray) (k : Nat) (h1 : 0 < (s.extract k s.size).size) (h2 : k < s.data.toList.length) : s.data.toList[k] = (s.extract k s.size)[0] := by
  show s.data.toList[k] = (s.extract k s.size).data[0]
  simp [ByteArray.data_extract]
theorem at_extract (s : ByteArray) (k i : Nat) (h1 : i < (s.extract 0 k).size) (h2 : i < s.data.toList.length) : s.data.toList[i] = (s.extract 0 k)[i] := by
  show s.data.toList[i] = (s.extract 0 k).data[i]
  simp [ByteArray.data_extract]
set_option maxHeartbeats 1000000 in
set_option maxRecDepth 100000 in
theorem trimRight_calls (s : ByteArray) (b : Nat) (w : World) (hs : s.size ≤ 9223372036854775807) (hset : SetAt w b) :
    Calls Tryd.prog 86 #[.string s, .pointer (some ⟨b, 0, none⟩)] w fun e w' => (∃ k : Nat, k ≤ s.size ∧ e = .returned (.string (s.extract 0 k)) ∧ (∀ j (h : j < s.data.toList.length), k ≤ j → is01 s.data.toList[j] = true) ∧ (∀ (h : k - 1 < s.data.toList.length), 0 < k → is01 s.data.toList[k - 1] = false)) ∧ w' = w := by
  have HS := Lib.hid hset
  clear hset
  go_enter Tryd.func86, Tryd.ntmps86
  go_wp2
  go_loop [0] (fun v => ∃ k : Nat, k ≤ s.size ∧ v = .string (s.extract 0 k) ∧ Hid (∀ j (h : j < s.data.toList.length), k ≤ j → is01 s.data.toList[j] = true)) (fun v => match v with | .string t => t.size | _ => 0)
  case atStart => exact ⟨s.size, Nat.le_refl _, by simp, Lib.hid (fun j h hj => by simp at h; omega)⟩
  case round =>
    obtain ⟨k, hk, rfl, HE⟩ := hrel
    have hsz : (s.extract 0 k).size = k := by simp; omega
    by_cases h0 : k = 0
    · subst h0
      go_wp2
      go_ret
      exact ⟨⟨0, Nat.zero_le _, by rw [show s.extract 0 0 = ByteArray.empty by simp]; rfl, HE.out, fun _ h => by omega⟩, rfl⟩
    · have h1 : 0 < k := by omega
      have h2 : k - 1 < s.data.toList.length := by simp; omega
      obtain ⟨c, hc⟩ : ∃ c, (s.extract 0 k)[k - 1]'(by rw [hsz]; omega) = c := ⟨_, rfl⟩
      have hc2 : s.data.toList[k - 1] = c := by rw [← hc]; exact at_extract s k (k - 1) _ _
      have HC := Lib.hid hc2
      clear hc2
      cases hb : is01 c with
      | true =>
        have HB := Lib.hid hb
        clear hb
        go_wp2_with (go_at_call 90; refine (has_calls w b HS.out c).mono ?_; rintro e w2 ⟨rfl, rfl⟩; rw [HB.out])
        go_round
        case rel => exact ⟨k - 1, by omega, by rw [extract_twice s 0 k (k - 1) (by omega)], Lib.hid (fun j h hj => by
          by_cases e : j = k - 1
          · subst e; rw [HC.out]; exact HB.out
          · exact HE.out j h (by omega))⟩
        case measure =>
          show ((s.extract 0 k).extract 0 (k - 1)).size < (s.extract 0 k).size
          simp
          omega
      | false =>
        have HB := Lib.hid hb
        clear hb
        go_wp2_with (go_at_call 90; refine (has_calls w b HS.out c).mono ?_; rintro e w2 ⟨rfl, rfl⟩; rw [HB.out])
        go_ret
        exact ⟨⟨k, hk, rfl, HE.out, fun h _ => by rw [HC.out]; exact HB.out⟩, rfl⟩
set_option maxHeartbeats 1000000 in
set_option maxRecDepth 100000 in
theorem trimLeft_calls (s : ByteArray) (b : Nat) (w : World) (hset : SetAt w b) :
    Calls Tryd.prog 85 #[.string s, .pointer (some ⟨b, 0, none⟩)] w fun e w' => (∃ k : Nat, k ≤ s.size ∧ e = .returned (.string (s.extract k s.size)) ∧ (∀ j (h : j < s.data.toList.length), j < k → is01 s.data.toList[j] = true) ∧ (∀ (h : k < s.data.toList.length), is01 s.data.toList[k] = false)) ∧ w' = w := by
  have HS := Lib.hid hset
  clear hset
  go_enter Tryd.func85, Tryd.ntmps85
  go_wp2
  go_loop [0] (fun v => ∃ k : Nat, k ≤ s.size ∧ v = .string (s.extract k s.size) ∧ Hid (∀ j (h : j < s.data.toList.length), j < k → is01 s.data.toList[j] = true)) (fun v => match v with | .string t => t.size | _ => 0)
  case atStart => exact ⟨0, Nat.zero_le _, by simp, Lib.hid (fun j h hj => by omega)⟩
  case round =>
    obtain ⟨k, hk, rfl, HE⟩ := hrel
    have hsz : (s.extract k s.size).size = s.size - k := by simp
    by_cases h0 : k = s.size
    · have hz : s.size - k = 0 := by omega
      rw [hz] at hsz
      have hemp : s.extract k s.size = ByteArray.empty := ByteArray.ext (Array.eq_empty_of_size_eq_zero hsz)
      rw [hemp]
      have HM := Lib.hid hemp
      clear hsz hz hemp
      go_wp2
      go_ret
      exact ⟨⟨k, by omega, by rw [HM.out]; rfl, HE.out, fun h => by first | omega | (simp at h; omega)⟩, rfl⟩
    · have h2 : k < s.data.toList.length := by simp; omega
      have h3 : 0 < s.size - k := by omega
      obtain ⟨c, hc⟩ : ∃ c, (s.extract k s.size)[0]'(by rw [hsz]; omega) = c := ⟨_, rfl⟩
      have hc2 : s.data.toList[k] = c := by rw [← hc]; exact at_tail s k _ _
      have HC := Lib.hid hc2
      clear hc2
      cases hb : is01 c with
      | true =>
        have HB := Lib.hid hb
        clear hb
        go_wp2_with (go_at_call 90; refine (has_calls w b HS.out c).mono ?_; rintro e w2 ⟨rfl, rfl⟩; rw [HB.out])
        go_round
        case rel => exact ⟨k + 1, by omega, by rw [extract_tail s k (by omega)], Lib.hid (fun j h hj => by
          by_cases e : j = k
          · subst e; rw [HC.out]; exact HB.out
          · exact HE.out j h (by omega))⟩
        case measure =>
          show ((s.extract k s.size).extract 1 (s.size - k)).size < (s.extract k s.size).size
          simp
          omega
      | false =>
        have HB := Lib.hid hb
        clear hb
        go_wp2_with (go_at_call 90; refine (has_calls w b HS.out c).mono ?_; rintro e w2 ⟨rfl, rfl⟩; rw [HB.out])
        go_ret
        exact ⟨⟨k, hk, rfl, HE.out, fun h => by rw [HC.out]; exact HB.out⟩, rfl⟩
theorem all01_iff (s : ByteArray) : all01 s = true ↔ ∀ j (h : j < s.data.toList.length), is01 s.data.toList[j] = true := by
  unfold all01
  rw [List.all_eq_true]
  constructor
  · exact fun h j hj => h _ (List.getElem_mem _)
  · intro h x hx
    obtain ⟨j, hj, rfl⟩ := List.mem_iff_getElem.1 hx
    exact h j hj
def set01 : Array Value := Lib.setCells [48, 49]
theorem set01_size : set01.size = 256 := Lib.setCells_size _
set_option maxHeartbeats 1000000 in
set_option maxRecDepth 100000 in
theorem trim_calls (s : ByteArray) (w : World) (hs : s.size ≤ 9223372036854775807) :
    Calls Tryd.prog 78 #[.string s, .string ⟨#[48, 49]⟩] w fun e w' => (∃ u : ByteArray, e = .returned (.string u) ∧ (u.size = 0 ↔ all01 s = true)) ∧ Below w.heap.size w w' := by
  by_cases h0 : s.size = 0
  · have hemp : s = ByteArray.empty := ByteArray.ext (Array.eq_empty_of_size_eq_zero h0)
    subst hemp
    go_enter Tryd.func78, Tryd.ntmps78
    go_wp2
    go_ret
    exact ⟨⟨_, rfl, by decide⟩, Below.refl _ _⟩
  · have hM : Calls Tryd.prog 84 #[.string ⟨#[48, 49]⟩] w fun e w' => e = .returned (.tuple #[.agg set01, .bool true]) ∧ w' = w.alloc (.cells set01 89) :=
      Any.strings_makeASCIISet laysMake Tryd.zeroValue89 (by kernel_rfl) ⟨#[48, 49]⟩ w (by decide) (fun j b hj => by
        have hm : b ∈ ([48, 49] : List UInt8) := List.mem_of_getElem? hj
        simp at hm
        rcases hm with rfl | rfl <;> decide)
    have hne : ¬ s.toList = [] := by
      rw [ByteArray.toList_eq]
      intro e
      apply h0
      have := congrArg List.length e
      simpa using this
    have hemp : s.toList.isEmpty = false := by rw [List.isEmpty_eq_false_iff]; exact hne
    have hsz := set01_size
    have hsc : (storeCells ⟨w.heap.size + 1, 0, none⟩ set01.toList 0).run Tryd.prog ((w.alloc (.cells set01 89)).alloc (.cells Tryd.zeroCells89 89)) = .ok () ((w.alloc (.cells set01 89)).alloc (.cells set01 89)) := by
      have := run_storeCells_new (P := Tryd.prog) (w.alloc (.cells set01 89)) 89 Tryd.zeroCells89 set01 (by rw [set01_size]; kernel_rfl) (by rw [set01_size]; kernel_rfl) (Lib.setCells_one _)
      simpa using this
    clear h0
    obtain ⟨W, hW⟩ : ∃ W, (w.alloc (.cells set01 89)).alloc (.cells set01 89) = W := ⟨_, rfl⟩
    rw [hW] at hsc
    have HSET : Aside0 (SetAt W (w.heap.size + 1)) := ⟨fun x => by
      rw [← hW, World.cell?_alloc_at _ _ _ _ (by simp)]
      show set01[x.toNat]? = _
      rw [show set01 = Lib.setCells [48, 49] from rfl, Lib.setCells_at]
      simp [is01]
      rfl⟩
    have HBW : Aside0 (Below w.heap.size w W) := ⟨hW ▸ ((Below.refl _ w).alloc (Nat.le_refl _) _).alloc (by simp) _⟩
    clear hW
    go_enter Tryd.func78, Tryd.ntmps78
    go_wp2_with (first
      | (go_at_call 84; refine hM.mono ?_; rintro e w2 ⟨rfl, hw⟩; rw [hw])
      | (go_at_call 86; refine (trimRight_calls s (w.heap.size + 1) _ hs HSET.out).mono ?_; rintro e w2 ⟨⟨k, hk, rfl, hk1, hk2⟩, rfl⟩)
      | (go_at_call 85; refine (trimLeft_calls (s.extract 0 k) (w.heap.size + 1) _ HSET.out).mono ?_; rintro e w2 ⟨⟨k2, hk3, rfl, hk4, hk5⟩, rfl⟩))
    go_ret
    have hsk : (s.extract 0 k).size = k := by simp; omega
    rw [hsk] at hk3
    refine ⟨⟨_, rfl, ?_⟩, HBW.out⟩
    have hus : ((s.extract 0 k).extract k2 k).size = k - k2 := by simp; omega
    have hus0 : s.data.toList.length = s.size := by simp
    have hk0 : k = 0 ∨ ∃ h : k - 1 < s.data.toList.length, is01 s.data.toList[k - 1] = false := by
      rcases Nat.eq_zero_or_pos k with h | h
      · exact .inl h
      · exact .inr ⟨by omega, hk2 (by omega) h⟩
    rw [hus]
    constructor
    · intro hz
      have e : k2 = k := by omega
      subst e
      rcases hk0 with h | ⟨h, hf⟩
      · exact (all01_iff s).2 fun j hj => hk1 j hj (by omega)
      · exfalso
        have hkp : 0 < k2 := by
          rcases Nat.eq_zero_or_pos k2 with h' | h'
          · have := hk1 (k2 - 1) h (by omega)
            rw [hf] at this
            cases this
          · exact h'
        have hl : k2 - 1 < (s.extract 0 k2).data.toList.length := by
          have : (s.extract 0 k2).data.toList.length = (s.extract 0 k2).size := by simp
          omega
        have h4 := hk4 (k2 - 1) hl (by omega)
        have h5 : (s.extract 0 k2).data.toList[k2 - 1] = s.data.toList[k2 - 1] := by simp [ByteArray.data_extract]
        rw [h5, hf] at h4
        cases h4
    · intro ha
      rcases hk0 with h | ⟨h, hf⟩
      · omega
      · have := (all01_iff s).1 ha (k - 1) h
        rw [hf] at this
        cases this
theorem no_list (u : ByteArray) (B : Bool) (h : u.size = 0 ↔ B = true) : u.toList.isEmpty = B ∧ (u.toList = [] ↔ B = true) := by
  rw [ByteArray.toList_eq]
  have hl : u.data.toList.length = u.size := by simp
  have h2 : u.data.toList = [] ↔ B = true := by rw [← h, ← hl, List.length_eq_zero_iff]
  refine ⟨?_, h2⟩
  cases B with
  | true => rw [h2.2 rfl]; rfl
  | false =>
    rw [List.isEmpty_eq_false_iff]
    intro e
    cases h2.1 e
def bits_isBits.f (s : ByteArray) : Option Bool := if s.size ≤ 9223372036854775807 then some (all01 s) else none
set_option maxHeartbeats 1000000 in
theorem bits_isBits.calls (a0 : ByteArray) (r : Bool) (w : World) (h : bits_isBits.f a0 = some r) :
    Calls Tryd.prog 61 #[.string a0] w fun e w' => e = .returned (.bool r) ∧ Below w.heap.size w w' := by
  unfold bits_isBits.f at h
  split at h
  · rename_i hs
    obtain rfl : all01 a0 = r := Option.some.inj h
    clear h
    have hT := trim_calls a0 w hs
    obtain ⟨B, hB⟩ : ∃ B, all01 a0 = B := ⟨_, rfl⟩
    rw [hB] at hT ⊢
    clear hB
    have hC : Calls Tryd.prog 78 #[.string a0, .string ⟨#[48, 49]⟩] w fun e w' => (∃ u : ByteArray, e = .returned (.string u) ∧ u.toList.isEmpty = B ∧ (u.toList = [] ↔ B = true)) ∧ Below w.heap.size w w' := hT.mono fun e w' ⟨⟨u, h1, h2⟩, h3⟩ => ⟨⟨u, h1, no_list u B h2⟩, h3⟩
    clear hT
    go_enter Tryd.func61, Tryd.ntmps61
    go_wp2_with (go_at_call 78; refine hC.mono ?_; rintro e w2 ⟨⟨u, rfl, hu, hu2⟩, hb⟩)
    go_ret
    exact ⟨rfl, hb⟩
  · cases h
end Go.Proofs.YthicmbhldjebfaaDoor.PA
