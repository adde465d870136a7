/- Chapter 08: what the printed functions compute, plainly: digits, packing and unpacking. -/
import Derived.Test.YthicmbhldjebfaaDoorPAx10
import Derived.Test.YthicmbhldjebfaaDoorHP1
import Derived.Laws.BitsLemmas
namespace Go.Proofs.YthicmbhldjebfaaDoor.PA
open Go Go.RowKit Go.Proofs.YthicmbhldjebfaaDoorW.PrintWords Go.Proofs.YthicmbhldjebfaaDoorW.PrintLast Go.Proofs.YthicmbhldjebfaaDoorW.PrintMore
set_option linter.unusedVariables false
set_option linter.unusedSimpArgs false
/-- The digits of a number, the highest of w first. -/
def digN (n : Nat) : Nat → List Int
  | 0 => []
  | w + 1 => ((48 + n / 2 ^ w % 2 : Nat) : Int) :: digN n w
theorem digN_length (n : Nat) : ∀ w, (digN n w).length = w
  | 0 => rfl
  | w + 1 => by simp [digN, digN_length n w]
theorem digN_get (n : Nat) : ∀ (w t : Nat) (h : t < w), (digN n w)[t]? = some ((48 + n / 2 ^ (w - 1 - t) % 2 : Nat) : Int)
  | w + 1, 0, _ => by simp [digN]
  | w + 1, t + 1, h => by
    simp only [digN, List.getElem?_cons_succ]
    rw [digN_get n w t (by omega), show w + 1 - 1 - (t + 1) = w - 1 - t by omega]
theorem digN_is (n : Nat) : ∀ (w : Nat) (x : Int), x ∈ digN n w → x = 48 ∨ x = 49
  | w + 1, x, h => by
    simp only [digN, List.mem_cons] at h
    rcases h with rfl | h
    · omega
    · exact digN_is n w x h
theorem digit_eq (n w : Nat) (hw : w < 64) (hn : n < 9223372036854775808) : (wrap64 (48 + (Go.bits .and .i64 (shr .i64 (n : Int) (w : Int)) 1))) % 256 = ((48 + n / 2 ^ w % 2 : Nat) : Int) := by
  have h1 : shr .i64 (n : Int) (w : Int) = ((n / 2 ^ w : Nat) : Int) := by
    unfold shr
    rw [Int.toNat_natCast, show min w IntKind.i64.bits = w from Nat.min_eq_left (show w ≤ 64 by omega)]
    simp
  have h2 : n / 2 ^ w < 9223372036854775808 := Nat.lt_of_le_of_lt (Nat.div_le_self _ _) hn
  rw [h1]
  generalize n / 2 ^ w = q at *
  have h3 : Go.bits .and .i64 (q : Int) 1 = (q : Int) % 2 := by
    have := Go.bits_mask .i64 63 (by decide) (fun m h0 h1 => by rw [Go.IntKind.wrap_i64]; omega) 1 (by decide) (q : Int) (by omega) (by omega)
    simpa using this
  rw [h3]
  unfold wrap64
  omega
theorem digits_loop (n : Nat) (hn : n < 9223372036854775808) : ∀ (w : Nat) (k : Nat) (xs : List Int), w < k → w < 64 → xs.length + w ≤ 140737488355328 → bits_digits.l0 k xs (n : Int) ((w : Int) - 1) = some (xs ++ digN n w) := by
  intro w
  induction w with
  | zero =>
    intro k xs hk hw hx
    obtain ⟨k, rfl⟩ : ∃ k', k = k' + 1 := ⟨k - 1, by omega⟩
    simp only [bits_digits.l0, if_neg (show ¬ ((0 : Nat) : Int) - 1 ≥ 0 by omega), digN, List.append_nil]
  | succ w ih =>
    intro k xs hk hw hx
    obtain ⟨k, rfl⟩ : ∃ k', k = k' + 1 := ⟨k - 1, by omega⟩
    have e : ((w + 1 : Nat) : Int) - 1 = (w : Int) := by omega
    rw [e]
    simp only [bits_digits.l0, if_pos (show (w : Int) ≥ 0 by omega), if_pos (show 0 ≤ (w : Int) by omega), if_pos (show xs.length < 140737488355328 by omega), digit_eq n w (by omega) hn]
    rw [show wrap64 ((w : Int) - 1) = (w : Int) - 1 by unfold wrap64; omega]
    rw [ih k _ (by omega) (by omega) (by simp; omega)]
    simp [digN]
theorem digits_eq (n w : Nat) (hn : n < 9223372036854775808) (hw : w < 64) (k : Nat) (hk : w < k) (xs : List Int) (hx : xs.length + w ≤ 140737488355328) : bits_digits.f k xs (n : Int) (w : Int) = some (xs ++ digN n w) := by
  unfold bits_digits.f
  rw [show wrap64 ((w : Int) - 1) = (w : Int) - 1 by unfold wrap64; omega]
  exact digits_loop n hn w k xs hk hw hx
/-- Numbers that are bytes. -/
def AllByte (xs : List Int) : Prop := ∀ x, x ∈ xs → 0 ≤ x ∧ x < 256
theorem bytes_back (xs : List Int) (h : AllByte xs) : bytesOf (strOfNums xs) = xs := by
  induction xs with
  | nil => rfl
  | cons x xs ih =>
    have := ih (fun y hy => h y (List.mem_cons_of_mem _ hy))
    have hx := h x List.mem_cons_self
    simp only [bytesOf, strOfNums, List.map_cons, List.map_map] at this ⊢
    rw [this]
    congr 1
    show ((UInt8.ofNat x.toNat).toNat : Int) = x
    rw [UInt8.toNat_ofNat', Nat.mod_eq_of_lt (show x.toNat < 2 ^ 8 by omega)]
    omega
theorem str_back (s : ByteArray) : strOfNums (bytesOf s) = s := by
  apply ByteArray.ext
  show ((bytesOf s).map fun n => UInt8.ofNat n.toNat).toArray = s.data
  unfold bytesOf
  rw [List.map_map]
  have : ((fun n => UInt8.ofNat n.toNat) ∘ fun b : UInt8 => (b.toNat : Int)) = id := by
    funext b
    simp
  rw [this]
  simp
theorem str_size (xs : List Int) : (strOfNums xs).size = xs.length := by
  show (strOfNums xs).data.size = _
  simp [strOfNums]
theorem digN_byte (n w : Nat) : AllByte (digN n w) := fun x h => by
  have := digN_is n w x h
  omega
theorem bytesOf_lt (s : ByteArray) (x : Int) (h : x ∈ bytesOf s) : ∃ n : Nat, x = (n : Int) ∧ n < 256 := by
  unfold bytesOf at h
  obtain ⟨b, _, rfl⟩ := List.mem_map.1 h
  exact ⟨b.toNat, rfl, UInt8.toNat_lt b⟩
/-- Octets, unpacked. -/
def upk (bs : List Int) : List Int := bs.flatMap fun b => digN b.toNat 8
theorem upk_length (bs : List Int) : (upk bs).length = 8 * bs.length := by
  induction bs with
  | nil => rfl
  | cons b bs ih =>
    simp only [upk, List.flatMap_cons, List.length_append, digN_length, List.length_cons] at ih ⊢
    omega
theorem unpackN_eq : ∀ (bs xs : List Int), (∀ x, x ∈ bs → ∃ n : Nat, x = (n : Int) ∧ n < 256) → xs.length + 8 * bs.length ≤ 140737488355328 → unpackN xs bs = some (xs ++ upk bs)
  | [], xs, _, _ => by simp [unpackN, upk]
  | b :: bs, xs, h, hx => by
    obtain ⟨n, rfl, hn⟩ := h b List.mem_cons_self
    simp only [unpackN]
    rw [show (8 : Int) = ((8 : Nat) : Int) from rfl, digits_eq n 8 (by omega) (by omega) 20 (by omega) xs (by simp at hx; omega), Option.bind_some]
    rw [unpackN_eq bs _ (fun x hx => h x (List.mem_cons_of_mem _ hx)) (by simp [digN_length] at hx ⊢; omega)]
    simp [upk]
theorem unpack_eq (s : ByteArray) (hs : s.size ≤ 1000000) : bits_unpack.f s = some (strOfNums (upk (bytesOf s))) := by
  unfold bits_unpack.f
  rw [if_pos (by omega), unpackN_eq _ _ (bytesOf_lt s) (by rw [bytesOf_length]; simp; omega)]
  simp
/-- The bit at a place: 0 behind the end. -/
def bitAt (s : ByteArray) (i : Nat) : Nat := if i < s.size then ((bt s (i : Int) - 48) % 256).toNat else 0
theorem bitAt_lt (s : ByteArray) (h : all01 s = true) (i : Nat) : bitAt s i < 2 := by
  unfold bitAt
  split
  · rename_i hi
    have hl : i < s.data.toList.length := by simpa using hi
    have := (is01_num _).1 ((all01_iff s).1 h i hl)
    rw [bt_nat s i hl]
    omega
  · omega
/-- The number that the first m bits of octet j are. -/
def preN (s : ByteArray) (j : Nat) : Nat → Nat
  | 0 => 0
  | m + 1 => 2 * preN s j m + bitAt s (8 * j + m)
theorem preN_lt (s : ByteArray) (h : all01 s = true) (j : Nat) : ∀ m, preN s j m < 2 ^ m
  | 0 => by simp [preN]
  | m + 1 => by
    have := preN_lt s h j m
    have := bitAt_lt s h (8 * j + m)
    simp only [preN, Nat.pow_succ]
    omega
theorem preN_end (s : ByteArray) (j m : Nat) : ∀ d, s.size ≤ 8 * j + m → preN s j (m + d) = preN s j m * 2 ^ d
  | 0, _ => by simp
  | d + 1, h => by
    rw [show m + (d + 1) = (m + d) + 1 by omega]
    simp only [preN]
    rw [preN_end s j m d h]
    have : bitAt s (8 * j + (m + d)) = 0 := by unfold bitAt; rw [if_neg (by omega)]
    rw [this, Nat.pow_succ]
    generalize 2 ^ d = z
    rw [Nat.add_zero, Nat.mul_comm 2, Nat.mul_assoc]
/-- Bits, packed. -/
def octs (s : ByteArray) : List Int := (List.range ((s.size + 7) / 8)).map fun j => ((preN s j 8 : Nat) : Int)
/-- What is packed before bit i. -/
def octsTo (s : ByteArray) (L i : Nat) : List Int := (List.range L).map fun j => ((preN s j (min 8 (i - 8 * j)) * 2 ^ (8 - min 8 (i - 8 * j)) : Nat) : Int)
theorem octsTo_length (s : ByteArray) (L i : Nat) : (octsTo s L i).length = L := by simp [octsTo]
theorem octsTo_zero (s : ByteArray) (L : Nat) : octsTo s L 0 = List.replicate L 0 := by
  apply List.ext_getElem
  · simp [octsTo]
  · intro i h1 h2
    simp [octsTo, preN]
theorem octsTo_end (s : ByteArray) : octsTo s ((s.size + 7) / 8) s.size = octs s := by
  unfold octsTo octs
  apply List.map_congr_left
  intro j hj
  rw [List.mem_range] at hj
  by_cases h : 8 ≤ s.size - 8 * j
  · rw [Nat.min_eq_left h]
    simp
  · have hm : min 8 (s.size - 8 * j) = s.size - 8 * j := Nat.min_eq_right (by omega)
    have := preN_end s j (s.size - 8 * j) (8 - (s.size - 8 * j)) (by omega)
    rw [show s.size - 8 * j + (8 - (s.size - 8 * j)) = 8 by omega] at this
    rw [hm, this]
theorem octsTo_step (s : ByteArray) (L i : Nat) (hi : i / 8 < L) : (octsTo s L i).set (i / 8) (((2 * preN s (i / 8) (i % 8) + bitAt s i) * 2 ^ (7 - i % 8) : Nat) : Int) = octsTo s L (i + 1) := by
  apply List.ext_getElem
  · simp [octsTo]
  · intro j h1 h2
    have hj : j < L := by simpa [octsTo] using h2
    rw [List.getElem_set]
    split
    · rename_i e
      subst e
      have e1 : i + 1 - 8 * (i / 8) = i % 8 + 1 := by omega
      have e2 : min 8 (i % 8 + 1) = i % 8 + 1 := by omega
      simp only [octsTo, List.getElem_map, List.getElem_range, e1, e2, preN]
      rw [show 8 * (i / 8) + i % 8 = i by omega, show 8 - (i % 8 + 1) = 7 - i % 8 by omega]
    · rename_i e
      simp only [octsTo, List.getElem_map, List.getElem_range]
      rcases Nat.lt_or_gt_of_ne e with h | h
      · have e1 : i - 8 * j = 0 := by omega
        have e2 : i + 1 - 8 * j = 0 := by omega
        rw [e1, e2]
      · have e1 : min 8 (i - 8 * j) = 8 := by omega
        have e2 : min 8 (i + 1 - 8 * j) = 8 := by omega
        rw [e1, e2]
theorem or_step (q d m : Nat) (hm : m < 8) (hq : q < 2 ^ m) (hd : d < 2) : Go.bits .or .u8 ((q * 2 ^ (8 - m) : Nat) : Int) (shl .u8 (d : Int) ((7 - m : Nat) : Int)) = (((2 * q + d) * 2 ^ (7 - m) : Nat) : Int) := by
  have h : ∀ m : Nat, m < 8 → ∀ q : Nat, q < 2 ^ m → ∀ d : Nat, d < 2 → Go.bits .or .u8 ((q * 2 ^ (8 - m) : Nat) : Int) (shl .u8 (d : Int) ((7 - m : Nat) : Int)) = (((2 * q + d) * 2 ^ (7 - m) : Nat) : Int) := by decide +kernel
  exact h m hm q hq d hd
theorem pack_loop (s : ByteArray) (h01 : all01 s = true) (hs : s.size ≤ 32000) : ∀ (d i : Nat), i + d = s.size → Ev (fun k => bits_pack.l0 k s (octsTo s ((s.size + 7) / 8) i) (s.size : Int) (i : Int)) (strOfNums (octs s)) := by
  intro d
  induction d with
  | zero =>
    intro i hi
    refine ev_succ ?_
    simp only [bits_pack.l0, if_neg (show ¬ (i : Int) < (s.size : Int) by omega)]
    obtain rfl : i = s.size := by omega
    rw [octsTo_end]
    exact Ev.now _
  | succ d ih =>
    intro i hi
    refine ev_succ ?_
    have e1 : wrap64 (Int.tdiv (i : Int) 8) = ((i / 8 : Nat) : Int) := by
      rw [Int.tdiv_eq_ediv_of_nonneg (by omega)]
      unfold wrap64
      omega
    have e2 : wrap64 (7 - (Int.tmod (i : Int) 8)) = ((7 - i % 8 : Nat) : Int) := by
      rw [Int.tmod_eq_emod_of_nonneg (by omega)]
      unfold wrap64
      omega
    have hl : ((octsTo s ((s.size + 7) / 8) i).length : Int) = (((s.size + 7) / 8 : Nat) : Int) := by rw [octsTo_length]
    have hb : ((bt s (i : Int)) - 48) % 256 = ((bitAt s i : Nat) : Int) := by
      unfold bitAt
      rw [if_pos (by omega)]
      omega
    have hr : rd (octsTo s ((s.size + 7) / 8) i) ((i / 8 : Nat) : Int) = ((preN s (i / 8) (i % 8) * 2 ^ (8 - i % 8) : Nat) : Int) := by
      unfold rd
      rw [Int.toNat_natCast, List.getD_eq_getElem?_getD]
      have : i / 8 < (s.size + 7) / 8 := by omega
      have e3 : min 8 (i - 8 * (i / 8)) = i % 8 := by omega
      simp [octsTo, this, e3]
    have hor := or_step (preN s (i / 8) (i % 8)) (bitAt s i) (i % 8) (by omega) (preN_lt s h01 _ _) (bitAt_lt s h01 i)
    simp only [bits_pack.l0, if_pos (show (i : Int) < (s.size : Int) by omega), if_pos (show 0 ≤ (i : Int) by omega), e1, e2, hl, if_pos (show 0 ≤ ((i / 8 : Nat) : Int) by omega), if_pos (show ((i / 8 : Nat) : Int) < (((s.size + 7) / 8 : Nat) : Int) by omega), if_pos (show 0 ≤ ((7 - i % 8 : Nat) : Int) by omega), hb, hr, hor, Int.toNat_natCast, wrap_succ (show i < s.size by omega) (show s.size ≤ 9223372036854775807 by omega)]
    rw [octsTo_step s _ i (by omega)]
    exact ih (i + 1) (by omega)
theorem pack_eq (s : ByteArray) (h01 : all01 s = true) (hs : s.size ≤ 32000) : Ev (fun k => bits_pack.f k s) (strOfNums (octs s)) := by
  unfold bits_pack.f
  have e : wrap64 (Int.tdiv (wrap64 ((s.size : Int) + 7)) 8) = (((s.size + 7) / 8 : Nat) : Int) := by
    rw [show wrap64 ((s.size : Int) + 7) = (s.size : Int) + 7 by unfold wrap64; omega, Int.tdiv_eq_ediv_of_nonneg (by omega)]
    unfold wrap64
    omega
  simp only [e, if_pos (show 0 ≤ (((s.size + 7) / 8 : Nat) : Int) by omega), Int.toNat_natCast, if_pos (show (s.size + 7) / 8 ≤ 281474976710656 by omega)]
  rw [← octsTo_zero s]
  exact pack_loop s h01 hs s.size 0 (by omega)
theorem bt_append_left (a b : ByteArray) (i : Nat) (h : i < a.size) : bt (a ++ b) (i : Int) = bt a (i : Int) := by
  unfold bt
  simp only [Int.toNat_natCast]
  rw [dif_pos (by rw [ByteArray.size_append]; omega), dif_pos h]
  congr 2
  exact ByteArray.getElem_append_left h
theorem bt_append_right (a b : ByteArray) (i : Nat) (h : a.size ≤ i) (h2 : i < a.size + b.size) : bt (a ++ b) (i : Int) = bt b ((i - a.size : Nat) : Int) := by
  unfold bt
  simp only [Int.toNat_natCast]
  rw [dif_pos (by rw [ByteArray.size_append]; omega), dif_pos (by omega)]
  congr 2
  exact ByteArray.getElem_append_right h
theorem bt_str (xs : List Int) (h : AllByte xs) (i : Nat) (hi : i < xs.length) : bt (strOfNums xs) (i : Int) = xs[i] := by
  rw [← rd_bytesOf, bytes_back xs h]
  unfold rd
  simp [hi]
theorem upk_get : ∀ (bs : List Int) (j m : Nat) (hj : j < bs.length) (hm : m < 8), (upk bs)[8 * j + m]? = (digN bs[j].toNat 8)[m]?
  | b :: bs, 0, m, _, hm => by
    simp only [upk, List.flatMap_cons, Nat.mul_zero, Nat.zero_add, List.getElem_cons_zero]
    rw [List.getElem?_append_left (by rw [digN_length]; exact hm)]
  | b :: bs, j + 1, m, hj, hm => by
    have := upk_get bs j m (by simpa using hj) hm
    simp only [upk, List.flatMap_cons, List.getElem_cons_succ] at this ⊢
    rw [List.getElem?_append_right (by rw [digN_length]; omega), digN_length, show 8 * (j + 1) + m - 8 = 8 * j + m by omega]
    exact this
theorem upk_is (bs : List Int) (x : Int) (h : x ∈ upk bs) : x = 48 ∨ x = 49 := by
  obtain ⟨b, _, hb⟩ := List.mem_flatMap.1 h
  exact digN_is _ _ x hb
theorem upk_byte (bs : List Int) : AllByte (upk bs) := fun x h => by
  have := upk_is bs x h
  omega
theorem str_all01 (xs : List Int) (h : ∀ x, x ∈ xs → x = 48 ∨ x = 49) : all01 (strOfNums xs) = true := by
  unfold all01
  rw [List.all_eq_true]
  intro c hc
  simp only [strOfNums] at hc
  obtain ⟨x, hx, rfl⟩ := List.mem_map.1 hc
  rcases h x hx with rfl | rfl <;> rfl
theorem octs_upk (o : ByteArray) : octs (strOfNums (upk (bytesOf o))) = bytesOf o := by
  have hsz : (strOfNums (upk (bytesOf o))).size = 8 * o.size := by rw [str_size, upk_length, bytesOf_length]
  have hl : (bytesOf o).length = o.size := bytesOf_length o
  unfold octs
  rw [hsz]
  apply List.ext_getElem
  · simp [hl]
    omega
  · intro j h1 h2
    simp only [List.getElem_map, List.getElem_range]
    obtain ⟨n, hn, hlt⟩ := bytesOf_lt o _ (List.getElem_mem h2)
    rw [hn]
    have hbit : ∀ m, m < 8 → bitAt (strOfNums (upk (bytesOf o))) (8 * j + m) = n / 2 ^ (7 - m) % 2 := by
      intro m hm
      have hi : 8 * j + m < (upk (bytesOf o)).length := by rw [upk_length]; omega
      unfold bitAt
      rw [if_pos (by rw [str_size]; exact hi), bt_str _ (upk_byte _) _ hi]
      have h3 := upk_get (bytesOf o) j m h2 hm
      rw [hn, Int.toNat_natCast, digN_get _ _ _ hm, List.getElem?_eq_getElem hi, Option.some.injEq] at h3
      rw [h3, show 8 - 1 - m = 7 - m by omega]
      generalize n / 2 ^ (7 - m) = q
      omega
    have hp : ∀ m, m ≤ 8 → preN (strOfNums (upk (bytesOf o))) j m = n / 2 ^ (8 - m) := by
      intro m
      induction m with
      | zero =>
        intro _
        simp only [preN]
        rw [Nat.div_eq_of_lt]
        simpa using hlt
      | succ m ih =>
        intro hm
        simp only [preN]
        rw [ih (by omega), hbit m (by omega), show 8 - m = (7 - m) + 1 by omega, Nat.pow_succ, ← Nat.div_div_eq_div_mul, show 8 - (m + 1) = 7 - m by omega]
        generalize n / 2 ^ (7 - m) = q
        omega
    rw [hp 8 (by omega)]
    simp
theorem octs_back (o : ByteArray) : strOfNums (octs (strOfNums (upk (bytesOf o)))) = o := by rw [octs_upk, str_back]
def octsE (o : ByteArray) : Int := if (o.size : Int) > 4000 then 2 else 0
theorem octetsErr_eq (o : ByteArray) : bits_octetsErr.f o = some (octsE o) := by
  unfold bits_octetsErr.f octsE
  split <;> rfl
end Go.Proofs.YthicmbhldjebfaaDoor.PA
