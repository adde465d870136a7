/- Chapter 08: what the printed functions compute, plainly: the forms of numbers. -/
import Derived.Test.YthicmbhldjebfaaDoorPAx17
import Derived.Test.YthicmbhldjebfaaDoorPAx18
import Derived.Test.YthicmbhldjebfaaDoorPAx16
import Derived.Test.YthicmbhldjebfaaDoorHK
import Derived.Test.YthicmbhldjebfaaDoorHP3
namespace Go.Proofs.YthicmbhldjebfaaDoor.PA
open Go Go.RowKit Go.Proofs.YthicmbhldjebfaaDoorW.PrintWords Go.Proofs.YthicmbhldjebfaaDoorW.PrintLast Go.Proofs.YthicmbhldjebfaaDoorW.PrintMore
set_option linter.unusedVariables false
set_option linter.unusedSimpArgs false
theorem rd_mid (A B : List Int) (x : Int) (i : Int) (hi : i = (A.length : Int)) : rd (A ++ x :: B) i = x := by
  subst hi
  unfold rd
  rw [Int.toNat_natCast, List.getD_eq_getElem?_getD]
  simp
theorem set_mid (A B : List Int) (x y : Int) (i : Int) (hi : i = (A.length : Int)) : (A ++ x :: B).set i.toNat y = A ++ y :: B := by
  subst hi
  rw [Int.toNat_natCast, List.set_append_right _ _ (Nat.le_refl _)]
  simp
theorem reverse_loop : ∀ (n : Nat) (A M B : List Int) (k : Nat), M.length = n → n < k → A.length + M.length + B.length ≤ 1000000 → slices_Reverse_byte_byte.l0 k (A ++ (M ++ B)) (A.length : Int) ((A.length : Int) + (M.length : Int) - 1) = some (A ++ (M.reverse ++ B)) := by
  intro n
  induction n using Nat.strongRecOn with
  | _ n ih =>
    intro A M B k hM hk hz
    obtain ⟨k, rfl⟩ : ∃ k', k = k' + 1 := ⟨k - 1, by omega⟩
    match M, hM with
    | [], hM => simp only [slices_Reverse_byte_byte.l0, List.length_nil]; rw [if_neg (by omega)]; rfl
    | [a], hM => simp only [slices_Reverse_byte_byte.l0, List.length_cons, List.length_nil]; rw [if_neg (by omega)]; rfl
    | a :: b :: M, hM =>
      obtain ⟨M', c, hc⟩ : ∃ (M' : List Int) (c : Int), b :: M = M' ++ [c] := ⟨(b :: M).dropLast, (b :: M).getLast (by simp), (List.dropLast_concat_getLast (by simp)).symm⟩
      rw [hc] at hM hz ⊢
      simp only [List.length_cons, List.length_append, List.length_nil] at hM hz
      have hlen : (((A ++ (a :: (M' ++ [c]) ++ B)).length : Nat) : Int) = (A.length : Int) + (M'.length : Int) + 2 + (B.length : Int) := by simp; omega
      have e1 : (A.length : Int) + ((a :: (M' ++ [c])).length : Int) - 1 = (A.length : Int) + (M'.length : Int) + 1 := by simp; omega
      have s1 : A ++ (a :: (M' ++ [c]) ++ B) = A ++ a :: (M' ++ c :: B) := by simp
      have s2 : A ++ a :: (M' ++ c :: B) = (A ++ a :: M') ++ c :: B := by simp
      have r1 : rd (A ++ (a :: (M' ++ [c]) ++ B)) ((A.length : Int) + (M'.length : Int) + 1) = c := by
        rw [s1, s2]; exact rd_mid _ _ _ _ (by simp; omega)
      have r2 : rd (A ++ (a :: (M' ++ [c]) ++ B)) (A.length : Int) = a := by
        rw [s1]; exact rd_mid _ _ _ _ rfl
      have w1 : ((A ++ (a :: (M' ++ [c]) ++ B)).set ((A.length : Int)).toNat c).set ((A.length : Int) + (M'.length : Int) + 1).toNat a = (A ++ [c]) ++ (M' ++ (a :: B)) := by
        rw [s1, set_mid A _ a c _ rfl, show A ++ c :: (M' ++ c :: B) = (A ++ c :: M') ++ c :: B by simp, set_mid (A ++ c :: M') _ c a _ (by simp; omega)]
        simp
      rw [e1]
      simp only [slices_Reverse_byte_byte.l0, hlen, r1, r2, w1]
      rw [if_pos (by omega), if_pos (by omega), if_pos (by omega), if_pos (by omega), if_pos (by omega)]
      have := ih M'.length (by omega) (A ++ [c]) M' (a :: B) k rfl (by omega) (by simp; omega)
      rw [show wrap64 ((A.length : Int) + 1) = ((A ++ [c]).length : Int) by simp; unfold wrap64; omega, show wrap64 ((A.length : Int) + (M'.length : Int) + 1 - 1) = ((A ++ [c]).length : Int) + (M'.length : Int) - 1 by simp; unfold wrap64; omega, this]
      simp
theorem reverse_eq (xs : List Int) (k : Nat) (hk : xs.length < k) (hx : xs.length ≤ 1000) : slices_Reverse_byte_byte.f k xs = some xs.reverse := by
  unfold slices_Reverse_byte_byte.f
  have := reverse_loop xs.length [] xs [] k rfl hk (by simp; omega)
  simp only [List.nil_append, List.append_nil, List.length_nil] at this
  rw [show wrap64 ((xs.length : Int) - 1) = ((0 : Nat) : Int) + (xs.length : Int) - 1 by unfold wrap64; omega]
  exact this
/-- The digits of a number, the lowest first: those behind the first one. -/
def leF (m : Nat) : Nat → Nat → List Int
  | 0, _ => []
  | f + 1, n => if n > 0 then ((n % m : Nat) : Int) :: leF m f (n / m) else []
theorem leF_length (m : Nat) : ∀ f n, (leF m f n).length ≤ f
  | 0, _ => Nat.le_refl _
  | f + 1, n => by
    unfold leF
    split
    · have := leF_length m f (n / m)
      simp only [List.length_cons]
      omega
    · simp
theorem leF_lt (m : Nat) (hm : 0 < m) : ∀ f n x, x ∈ leF m f n → ∃ d : Nat, x = (d : Int) ∧ d < m
  | 0, _, x, h => by simp [leF] at h
  | f + 1, n, x, h => by
    unfold leF at h
    split at h
    · rcases List.mem_cons.1 h with rfl | h
      · exact ⟨n % m, rfl, Nat.mod_lt _ hm⟩
      · exact leF_lt m hm f _ x h
    · simp at h
/-- The digits of a number, the lowest first. -/
def leD (m n : Nat) : List Int := ((n % m : Nat) : Int) :: leF m 9 (n / m)
theorem groups8_loop : ∀ (f n k : Nat) (xs : List Int), n < 256 ^ f → n ≤ 1152921504606846976 → f < k → xs.length + f ≤ 30 → groups8.l k (n : Int) xs = some (xs ++ leF 256 f n).reverse := by
  intro f
  induction f with
  | zero =>
    intro n k xs hn hb hk hx
    obtain ⟨k, rfl⟩ : ∃ k', k = k' + 1 := ⟨k - 1, by omega⟩
    have : n = 0 := by simpa using hn
    subst this
    simp only [groups8.l, leF, List.append_nil]
    rw [if_neg (by omega), reverse_eq xs 40 (by omega) (by omega)]
  | succ f ih =>
    intro n k xs hn hb hk hx
    obtain ⟨k, rfl⟩ : ∃ k', k = k' + 1 := ⟨k - 1, by omega⟩
    simp only [groups8.l]
    by_cases h0 : n > 0
    · have hand : (Go.bits .and .i64 (n : Int) 255) % 256 = ((n % 256 : Nat) : Int) := by
        have := Go.bits_mask .i64 63 (by decide) (fun m h0 h1 => by rw [Go.IntKind.wrap_i64]; omega) 8 (by decide) (n : Int) (by omega) (by omega)
        rw [show ((2 : Int) ^ 8 - 1) = 255 by decide, show ((2 : Int) ^ 8) = 256 by decide] at this
        rw [this]
        omega
      rw [if_pos (by omega), if_pos (by omega), hand, show (n : Int) / 256 = ((n / 256 : Nat) : Int) by omega, ih (n / 256) k _ (by rw [Nat.pow_succ] at hn; omega) (by omega) (by omega) (by simp; omega)]
      simp only [leF, if_pos h0, List.append_assoc, List.singleton_append]
    · rw [if_neg (by omega), reverse_eq xs 40 (by omega) (by omega)]
      simp only [leF, if_neg h0, List.append_nil]
theorem groups7_loop : ∀ (f n k : Nat) (xs : List Int), n < 128 ^ f → n ≤ 1152921504606846976 → f < k → xs.length + f ≤ 30 → groups7.l k (n : Int) xs = some (xs ++ leF 128 f n).reverse := by
  intro f
  induction f with
  | zero =>
    intro n k xs hn hb hk hx
    obtain ⟨k, rfl⟩ : ∃ k', k = k' + 1 := ⟨k - 1, by omega⟩
    have : n = 0 := by simpa using hn
    subst this
    simp only [groups7.l, leF, List.append_nil]
    rw [if_neg (by omega), reverse_eq xs 40 (by omega) (by omega)]
  | succ f ih =>
    intro n k xs hn hb hk hx
    obtain ⟨k, rfl⟩ : ∃ k', k = k' + 1 := ⟨k - 1, by omega⟩
    simp only [groups7.l]
    by_cases h0 : n > 0
    · have hand : (Go.bits .and .i64 (n : Int) 127) % 256 = ((n % 128 : Nat) : Int) := by
        have := Go.bits_mask .i64 63 (by decide) (fun m h0 h1 => by rw [Go.IntKind.wrap_i64]; omega) 7 (by decide) (n : Int) (by omega) (by omega)
        rw [show ((2 : Int) ^ 7 - 1) = 127 by decide, show ((2 : Int) ^ 7) = 128 by decide] at this
        rw [this]
        omega
      rw [if_pos (by omega), if_pos (by omega), hand, show (n : Int) / 128 = ((n / 128 : Nat) : Int) by omega, ih (n / 128) k _ (by rw [Nat.pow_succ] at hn; omega) (by omega) (by omega) (by simp; omega)]
      simp only [leF, if_pos h0, List.append_assoc, List.singleton_append]
    · rw [if_neg (by omega), reverse_eq xs 40 (by omega) (by omega)]
      simp only [leF, if_neg h0, List.append_nil]
theorem groups8_eq (n : Nat) (hn : n ≤ 1152921504606846976) : bits_groups.f (n : Int) 8 = some (leD 256 n).reverse := by
  unfold bits_groups.f groups8.f
  rw [if_neg (by decide), if_pos rfl]
  have hand : (Go.bits .and .i64 (n : Int) 255) % 256 = ((n % 256 : Nat) : Int) := by
    have := Go.bits_mask .i64 63 (by decide) (fun m h0 h1 => by rw [Go.IntKind.wrap_i64]; omega) 8 (by decide) (n : Int) (by omega) (by omega)
    rw [show ((2 : Int) ^ 8 - 1) = 255 by decide, show ((2 : Int) ^ 8) = 256 by decide] at this
    rw [this]
    omega
  rw [hand, show (n : Int) / 256 = ((n / 256 : Nat) : Int) by omega, groups8_loop 9 (n / 256) 20 _ (by rw [show (256 : Nat) ^ 9 = 4722366482869645213696 by decide]; omega) (by omega) (by omega) (by simp)]
  rfl
theorem groups7_eq (n : Nat) (hn : n ≤ 1152921504606846976) : bits_groups.f (n : Int) 7 = some (leD 128 n).reverse := by
  unfold bits_groups.f groups7.f
  rw [if_pos rfl]
  have hand : (Go.bits .and .i64 (n : Int) 127) % 256 = ((n % 128 : Nat) : Int) := by
    have := Go.bits_mask .i64 63 (by decide) (fun m h0 h1 => by rw [Go.IntKind.wrap_i64]; omega) 7 (by decide) (n : Int) (by omega) (by omega)
    rw [show ((2 : Int) ^ 7 - 1) = 127 by decide, show ((2 : Int) ^ 7) = 128 by decide] at this
    rw [this]
    omega
  rw [hand, show (n : Int) / 128 = ((n / 128 : Nat) : Int) by omega, groups7_loop 9 (n / 128) 20 _ (by rw [show (128 : Nat) ^ 9 = 9223372036854775808 by decide]; omega) (by omega) (by omega) (by simp)]
  rfl
theorem or128 (d : Nat) (h : d < 128) : Go.bits .or .u8 (d : Int) 128 = 128 + (d : Int) := by
  have : ∀ d : Nat, d < 128 → Go.bits .or .u8 (d : Int) 128 = 128 + (d : Int) := by decide +kernel
  exact this d h
theorem septetsOf_loop (z : Int) : ∀ (B A : List Int) (k : Nat), (∀ x, x ∈ B → ∃ d : Nat, x = (d : Int) ∧ d < 128) → B.length < k → A.length + B.length ≤ 100 → bits_SeptetsOf.l0 k (A ++ (B ++ [z])) ((A.length : Int) + (B.length : Int)) (A.length : Int) = some (strOfNums (A ++ (B.map (128 + ·) ++ [z])), 0) := by
  intro B
  induction B with
  | nil =>
    intro A k hB hk hz
    obtain ⟨k, rfl⟩ : ∃ k', k = k' + 1 := ⟨k - 1, by omega⟩
    simp only [bits_SeptetsOf.l0, List.length_nil, List.map_nil]
    rw [if_neg (by omega)]
  | cons x B ih =>
    intro A k hB hk hz
    obtain ⟨k, rfl⟩ : ∃ k', k = k' + 1 := ⟨k - 1, by omega⟩
    obtain ⟨d, rfl, hd⟩ := hB _ List.mem_cons_self
    simp only [List.length_cons] at hk hz
    have hl : ((A ++ ((d : Int) :: B ++ [z])).length : Int) = (A.length : Int) + (B.length : Int) + 2 := by simp; omega
    have r1 : rd (A ++ ((d : Int) :: B ++ [z])) (A.length : Int) = (d : Int) := rd_mid A (B ++ [z]) _ _ rfl
    have w1 : (A ++ ((d : Int) :: B ++ [z])).set ((A.length : Int)).toNat (128 + (d : Int)) = (A ++ [128 + (d : Int)]) ++ (B ++ [z]) := by
      have := set_mid A (B ++ [z]) (d : Int) (128 + (d : Int)) (A.length : Int) rfl
      simp only [List.cons_append]
      rw [this]
      simp
    simp only [bits_SeptetsOf.l0, hl, r1, or128 d hd, w1, List.length_cons]
    rw [if_pos (by omega), if_pos (by omega), if_pos (by omega)]
    have := ih (A ++ [128 + (d : Int)]) k (fun x hx => hB x (List.mem_cons_of_mem _ hx)) (by omega) (by simp; omega)
    rw [show wrap64 ((A.length : Int) + 1) = ((A ++ [128 + (d : Int)]).length : Int) by simp; unfold wrap64; omega, show (A.length : Int) + ((B.length + 1 : Nat) : Int) = ((A ++ [128 + (d : Int)]).length : Int) + (B.length : Int) by simp; omega, this]
    simp
/-- The septets of a number. -/
def sepB (n : Nat) : List Int := ((leF 128 9 (n / 128)).map (128 + ·)).reverse ++ [((n % 128 : Nat) : Int)]
def numOk (n : Int) : Prop := 0 ≤ n ∧ n ≤ 1152921504606846976
theorem septetsOf_eq (n : Nat) (hn : n ≤ 1152921504606846976) (k : Nat) (hk : 30 ≤ k) : bits_SeptetsOf.f k (n : Int) = some (strOfNums (sepB n), 0) := by
  unfold bits_SeptetsOf.f
  have hll := leF_length 128 9 (n / 128)
  have hr : (leD 128 n).reverse = [] ++ ((leF 128 9 (n / 128)).reverse ++ [((n % 128 : Nat) : Int)]) := by simp [leD]
  simp only [bits_within_eq, decide_eq_true (show 0 ≤ (n : Int) ∧ (n : Int) ≤ 1152921504606846976 by omega), Option.bind_some, if_true, groups7_eq n hn]
  have h := septetsOf_loop ((n % 128 : Nat) : Int) (leF 128 9 (n / 128)).reverse [] k (fun x hx => leF_lt 128 (by omega) 9 _ x (List.mem_reverse.1 hx)) (by rw [List.length_reverse]; omega) (by simp; omega)
  have e : wrap64 (((leD 128 n).reverse.length : Int) - 1) = (([] : List Int).length : Int) + ((leF 128 9 (n / 128)).reverse.length : Int) := by
    rw [hr]
    simp only [List.nil_append, List.length_append, List.length_reverse, List.length_nil, List.length_cons]
    unfold wrap64
    omega
  rw [show (([] : List Int).length : Int) = 0 from rfl] at h e
  rw [e, hr]
  rw [h]
  unfold sepB
  rw [List.map_reverse, List.nil_append]
theorem septetsOf_err (n : Int) (h : ¬ numOk n) (k : Nat) : bits_SeptetsOf.f k n = some (⟨#[]⟩, 3) := by
  unfold bits_SeptetsOf.f
  unfold numOk at h
  simp only [bits_within_eq, decide_eq_false h, Option.bind_some, Bool.false_eq_true, if_false]
theorem unsignedOf_eq (n : Nat) (hn : n ≤ 1152921504606846976) : bits_UnsignedOf.f (n : Int) = some (strOfNums (leD 256 n).reverse, 0) := by
  unfold bits_UnsignedOf.f
  simp only [bits_within_eq, decide_eq_true (show 0 ≤ (n : Int) ∧ (n : Int) ≤ 1152921504606846976 by omega), Option.bind_some, if_true, groups8_eq n hn]
theorem unsignedOf_err (n : Int) (h : ¬ numOk n) : bits_UnsignedOf.f n = some (⟨#[]⟩, 3) := by
  unfold bits_UnsignedOf.f
  unfold numOk at h
  simp only [bits_within_eq, decide_eq_false h, Option.bind_some, Bool.false_eq_true, if_false]
/-- The signed form, the lowest octet first, with a bound. -/
def sl : Nat → Int → List Int
  | 0, _ => []
  | f + 1, n => (n % 256) :: (if -128 ≤ n ∧ n < 128 then [] else sl f (n / 256))
theorem sl_length : ∀ f n, (sl f n).length ≤ f
  | 0, _ => Nat.le_refl _
  | f + 1, n => by
    unfold sl
    split
    · simp
    · have := sl_length f (n / 256)
      simp only [List.length_cons]
      omega
def Fits : Nat → Int → Prop
  | 0, _ => False
  | f + 1, n => (-128 ≤ n ∧ n < 128) ∨ Fits f (n / 256)
theorem signedOf_loop : ∀ (f : Nat) (n : Int) (k : Nat) (xs : List Int), Fits f n → -1152921504606846976 ≤ n → n ≤ 1152921504606846976 → 60 + f < k → xs.length + f ≤ 30 → bits_SignedOf.l0 k (xs ++ [n % 256]) (n / 256) = some (strOfNums (xs ++ sl f n).reverse, 0) := by
  intro f
  induction f with
  | zero => intro n k xs h; exact h.elim
  | succ f ih =>
    intro n k xs hfit h0 h1 hk hx
    obtain ⟨k, rfl⟩ : ∃ k', k = k' + 1 := ⟨k - 1, by omega⟩
    have hl : ((xs ++ [n % 256]).length : Int) = (xs.length : Int) + 1 := by simp
    have e1 : wrap64 ((xs.length : Int) + 1 - 1) = (xs.length : Int) := by unfold wrap64; omega
    have r1 : rd (xs ++ [n % 256]) (xs.length : Int) = n % 256 := rd_mid xs [] _ _ rfl
    have hs : wrap64 (IntKind.i8.wrap (n % 256)) / 128 = if n % 256 < 128 then 0 else -1 := by
      have e8 : IntKind.i8.wrap (n % 256) = if n % 256 < 128 then n % 256 else n % 256 - 256 := by
        simp [IntKind.wrap, IntKind.bits, IntKind.signed]
        split <;> split <;> omega
      rw [e8]
      split
      · rw [show wrap64 (n % 256) = n % 256 by unfold wrap64; omega]; omega
      · rw [show wrap64 (n % 256 - 256) = n % 256 - 256 by unfold wrap64; omega]; omega
    simp only [bits_SignedOf.l0, hl, e1, r1, hs]
    rw [if_pos (by omega), if_pos (by omega)]
    by_cases c : -128 ≤ n ∧ n < 128
    · have : n / 256 = if n % 256 < 128 then 0 else -1 := by split <;> omega
      rw [if_pos this, reverse_eq _ k (by simp; omega) (by simp; omega)]
      simp only [sl, if_pos c, Option.bind_some]
    · have : ¬ n / 256 = if n % 256 < 128 then 0 else -1 := by split <;> omega
      rw [if_neg this, if_pos (by simp; omega)]
      have hf : Fits f (n / 256) := by
        rcases hfit with h | h
        · exact absurd h c
        · exact h
      have hst := ih (n / 256) k (xs ++ [n % 256]) hf (by omega) (by omega) (by omega) (by simp; omega)
      rw [hst]
      simp only [sl, if_neg c, List.append_assoc, List.singleton_append]
theorem fits9 (n : Int) (h0 : -1152921504606846976 ≤ n) (h1 : n ≤ 1152921504606846976) : Fits 8 n := by
  unfold Fits
  by_cases c1 : -128 ≤ n ∧ n < 128
  · exact .inl c1
  refine .inr ?_
  unfold Fits
  by_cases c2 : -128 ≤ n / 256 ∧ n / 256 < 128
  · exact .inl c2
  refine .inr ?_
  unfold Fits
  by_cases c3 : -128 ≤ n / 256 / 256 ∧ n / 256 / 256 < 128
  · exact .inl c3
  refine .inr ?_
  unfold Fits
  by_cases c4 : -128 ≤ n / 256 / 256 / 256 ∧ n / 256 / 256 / 256 < 128
  · exact .inl c4
  refine .inr ?_
  unfold Fits
  by_cases c5 : -128 ≤ n / 256 / 256 / 256 / 256 ∧ n / 256 / 256 / 256 / 256 < 128
  · exact .inl c5
  refine .inr ?_
  unfold Fits
  by_cases c6 : -128 ≤ n / 256 / 256 / 256 / 256 / 256 ∧ n / 256 / 256 / 256 / 256 / 256 < 128
  · exact .inl c6
  refine .inr ?_
  unfold Fits
  by_cases c7 : -128 ≤ n / 256 / 256 / 256 / 256 / 256 / 256 ∧ n / 256 / 256 / 256 / 256 / 256 / 256 < 128
  · exact .inl c7
  refine .inr ?_
  unfold Fits
  exact .inl (by omega)
def sigOk (n : Int) : Prop := -1152921504606846976 ≤ n ∧ n ≤ 1152921504606846976
theorem signedOf_eq (n : Int) (h : sigOk n) (k : Nat) (hk : 100 < k) : bits_SignedOf.f k n = some (strOfNums (sl 8 n).reverse, 0) := by
  unfold bits_SignedOf.f
  have h' := h
  unfold sigOk at h
  simp only [bits_within_eq, decide_eq_true h, Option.bind_some, if_true]
  exact signedOf_loop 8 n k [] (fits9 n h.1 h.2) h.1 h.2 (by omega) (by simp)
theorem signedOf_err (n : Int) (h : ¬ sigOk n) (k : Nat) : bits_SignedOf.f k n = some (⟨#[]⟩, 3) := by
  unfold bits_SignedOf.f
  unfold sigOk at h
  simp only [bits_within_eq, decide_eq_false h, Option.bind_some, Bool.false_eq_true, if_false]
/-- A definite length. -/
def lenB (n extra : Nat) : List Int :=
  if n < 128 ∧ extra = 0 then [(n : Int)] else
    (128 + (((if n < 128 then extra - 1 else extra) + (leD 256 n).length : Nat) : Int)) :: (List.replicate (if n < 128 then extra - 1 else extra) 0 ++ (leD 256 n).reverse)
theorem leD_length (m n : Nat) : (leD m n).length ≤ 10 := by
  have := leF_length m 9 (n / m)
  simp only [leD, List.length_cons]
  omega
theorem lengthOf_eq (n extra : Nat) (hn : n ≤ 1152921504606846976) (he : extra ≤ 3) (k : Nat) (hk : 10 ≤ k) : bits_LengthOf.f k (n : Int) (extra : Int) = some (strOfNums (lenB n extra), 0) := by
  obtain ⟨k, rfl⟩ : ∃ k', k = k' + 2 := ⟨k - 2, by omega⟩
  have hll := leD_length 256 n
  unfold bits_LengthOf.f lenB
  simp only [bits_within_eq, decide_eq_true (show 0 ≤ (n : Int) ∧ (n : Int) ≤ 1152921504606846976 by omega), decide_eq_true (show 0 ≤ (extra : Int) ∧ (extra : Int) ≤ 3 by omega), Option.bind_some, if_true, Bool.not_true, bits_LengthOf.j0, Bool.false_eq_true, if_false]
  by_cases c : n < 128
  · rw [if_pos (by omega)]
    by_cases z : extra = 0
    · subst z
      simp only [bits_LengthOf.j1]
      rw [if_pos (by rfl), if_pos ⟨c, trivial⟩]
      rw [show (n : Int) % 256 = (n : Int) by omega]
    · have hz : ((extra : Int) == 0) = false := by simp; omega
      have e1 : wrap64 ((extra : Int) - 1) = ((extra - 1 : Nat) : Int) := by unfold wrap64; omega
      simp only [bits_LengthOf.j1, hz, Bool.false_eq_true, if_false, groups8_eq n hn, Option.bind_some, e1, Int.toNat_natCast, List.length_append, List.length_replicate, List.length_reverse, List.length_cons, List.length_nil]
      have e2 : wrap64 (128 + ((extra - 1 + (leD 256 n).length : Nat) : Int)) % 256 = 128 + ((extra - 1 + (leD 256 n).length : Nat) : Int) := by unfold wrap64; omega
      rw [if_pos (by omega), if_pos (by omega), if_pos (by omega), if_pos (by omega), e2, if_pos (by omega), if_neg (fun h => z h.2), if_pos c]
      rfl
  · rw [if_neg (by omega)]
    have e2 : wrap64 (128 + ((extra + (leD 256 n).length : Nat) : Int)) % 256 = 128 + ((extra + (leD 256 n).length : Nat) : Int) := by unfold wrap64; omega
    simp only [bits_LengthOf.j1, Bool.false_eq_true, if_false, groups8_eq n hn, Option.bind_some, Int.toNat_natCast, List.length_append, List.length_replicate, List.length_reverse, List.length_cons, List.length_nil]
    rw [if_neg (by omega), if_pos (by omega), if_pos (by omega), if_pos (by omega), e2, if_pos (by omega), if_neg (fun h => c h.1), if_neg c]
    rfl
theorem lengthOf_err (n extra : Int) (h : ¬ (numOk n ∧ (0 ≤ extra ∧ extra ≤ 3))) (k : Nat) (hk : 10 ≤ k) : bits_LengthOf.f k n extra = some (⟨#[]⟩, 3) := by
  obtain ⟨k, rfl⟩ : ∃ k', k = k' + 2 := ⟨k - 2, by omega⟩
  unfold bits_LengthOf.f
  unfold numOk at h
  simp only [bits_within_eq, Option.bind_some]
  by_cases a : 0 ≤ n ∧ n ≤ 1152921504606846976
  · have b : ¬ (0 ≤ extra ∧ extra ≤ 3) := fun b => h ⟨a, b⟩
    simp only [decide_eq_true a, decide_eq_false b, if_true, Bool.not_false, bits_LengthOf.j0]
  · simp only [decide_eq_false a, Bool.false_eq_true, if_false, bits_LengthOf.j0, if_true]
/-- A fragment length. -/
def fragOfB (n : Nat) : List Int := if n < 128 then 48 :: digN n 7 else 49 :: 48 :: digN n 14
theorem fragmentOf_eq (n : Nat) (hn : n ≤ 16383) : bits_FragmentOf.f (n : Int) = some (strOfNums (fragOfB n), 0) := by
  unfold bits_FragmentOf.f fragOfB
  rw [if_pos (by omega)]
  by_cases c : n < 128
  · have := digits_eq n 7 (by omega) (by omega) 40 (by omega) [48] (by simp)
    rw [if_pos (by omega), if_pos c, show (7 : Int) = ((7 : Nat) : Int) from rfl, this]
    rfl
  · have := digits_eq n 14 (by omega) (by omega) 40 (by omega) [49, 48] (by simp)
    rw [if_neg (by omega), if_neg c, show (14 : Int) = ((14 : Nat) : Int) from rfl, this]
    rfl
theorem fragmentOf_err (n : Int) (h : ¬ (0 ≤ n ∧ n ≤ 16383)) : bits_FragmentOf.f n = some (⟨#[]⟩, 3) := by
  unfold bits_FragmentOf.f
  rw [if_neg h]
end Go.Proofs.YthicmbhldjebfaaDoor.PA
