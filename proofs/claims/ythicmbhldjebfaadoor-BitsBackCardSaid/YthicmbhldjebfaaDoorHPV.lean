/- Chapter 08: what the printed functions compute, plainly: the values of the forms. -/
import Derived.Test.YthicmbhldjebfaaDoorHP5
import Derived.Test.YthicmbhldjebfaaDoorHP8
namespace Go.Proofs.YthicmbhldjebfaaDoor.PA
open Go Go.RowKit Go.Proofs.YthicmbhldjebfaaDoorW.PrintWords Go.Proofs.YthicmbhldjebfaaDoorW.PrintLast Go.Proofs.YthicmbhldjebfaaDoorW.PrintMore
set_option linter.unusedVariables false
set_option linter.unusedSimpArgs false
/-- The number that digits are, the highest first, behind a number. -/
def vM (m : Int) : List Int → Int → Int
  | [], n => n
  | b :: r, n => vM m r (n * m + b)
theorem val_vM : ∀ (bs : List Int) (n : Int), val bs n = vM 256 bs n
  | [], _ => rfl
  | b :: r, n => val_vM r (n * 256 + b)
def Dig (m : Int) (xs : List Int) : Prop := ∀ x, x ∈ xs → 0 ≤ x ∧ x < m
theorem Dig.tail {m x : Int} {xs : List Int} (h : Dig m (x :: xs)) : Dig m xs := fun y hy => h y (List.mem_cons_of_mem _ hy)
theorem vM_append (m : Int) : ∀ (xs ys : List Int) (p : Int), vM m (xs ++ ys) p = vM m ys (vM m xs p)
  | [], _, _ => rfl
  | a :: xs, ys, p => vM_append m xs ys _
theorem leF_val (m : Nat) (hm : 1 < m) : ∀ (f n : Nat), n < m ^ f → vM m (leF m f n).reverse 0 = (n : Int)
  | 0, n, h => by
    have : n = 0 := by simpa using h
    subst this
    rfl
  | f + 1, n, h => by
    unfold leF
    by_cases h0 : n > 0
    · rw [if_pos h0, List.reverse_cons, vM_append, leF_val m hm f (n / m) (by rw [Nat.pow_succ] at h; exact Nat.div_lt_of_lt_mul (by rw [Nat.mul_comm]; exact h))]
      simp only [vM]
      have := Nat.div_add_mod n m
      have h2 : (m : Int) * ((n / m : Nat) : Int) + ((n % m : Nat) : Int) = (n : Int) := by exact_mod_cast this
      rw [Int.mul_comm]
      exact h2
    · rw [if_neg h0]
      have : n = 0 := by omega
      subst this
      rfl
theorem leF_head (m : Nat) (hm : 1 < m) : ∀ (f n : Nat), n < m ^ f → leF m f n = [] ∨ ∃ (h : Int) (r : List Int), (leF m f n).reverse = h :: r ∧ 1 ≤ h
  | 0, n, h => .inl rfl
  | f + 1, n, h => by
    unfold leF
    by_cases h0 : n > 0
    · rw [if_pos h0]
      refine .inr ?_
      rw [List.reverse_cons]
      rcases leF_head m hm f (n / m) (by rw [Nat.pow_succ] at h; exact Nat.div_lt_of_lt_mul (by rw [Nat.mul_comm]; exact h)) with e | ⟨g, r, e, hg⟩
      · have hz : n / m = 0 := by
          have hv := leF_val m hm f (n / m) (by rw [Nat.pow_succ] at h; exact Nat.div_lt_of_lt_mul (by rw [Nat.mul_comm]; exact h))
          rw [e] at hv
          have : (0 : Int) = ((n / m : Nat) : Int) := hv
          omega
        have hlt : n < m := by
          rcases Nat.lt_or_ge n m with h1 | h1
          · exact h1
          · have := Nat.div_pos h1 (by omega)
            omega
        rw [e]
        refine ⟨((n % m : Nat) : Int), [], rfl, ?_⟩
        rw [Nat.mod_eq_of_lt hlt]
        omega
      · rw [e]
        exact ⟨g, r ++ [((n % m : Nat) : Int)], rfl, hg⟩
    · rw [if_neg h0]
      exact .inl rfl
theorem leD_facts (m : Nat) (hm : 1 < m) (n : Nat) (hn : n / m < m ^ 9) : Dig m (leD m n).reverse ∧ vM m (leD m n).reverse 0 = (n : Int) ∧ ((leD m n).length = 1 ∨ ∃ (h : Int) (r : List Int), (leD m n).reverse = h :: r ∧ 1 ≤ h ∧ r ≠ []) := by
  refine ⟨fun x hx => ?_, ?_, ?_⟩
  · rw [List.mem_reverse] at hx
    unfold leD at hx
    rcases List.mem_cons.1 hx with rfl | hx
    · have := Nat.mod_lt n (show 0 < m by omega)
      omega
    · obtain ⟨d, rfl, hd⟩ := leF_lt m (by omega) 9 _ x hx
      omega
  · unfold leD
    rw [List.reverse_cons, vM_append, leF_val m hm 9 _ hn]
    simp only [vM]
    have h2 : (m : Int) * ((n / m : Nat) : Int) + ((n % m : Nat) : Int) = (n : Int) := by exact_mod_cast Nat.div_add_mod n m
    rw [Int.mul_comm]
    exact h2
  · unfold leD
    rcases leF_head m hm 9 _ hn with e | ⟨h, r, e, hh⟩
    · rw [e]; exact .inl rfl
    · rw [List.reverse_cons, e]
      exact .inr ⟨h, r ++ [((n % m : Nat) : Int)], rfl, hh, by simp⟩
theorem leD_byte (n : Nat) (hn : n ≤ 1152921504606846976) : AllByte (leD 256 n).reverse := fun x hx => by
  have hp : (256 : Nat) ^ 9 = 4722366482869645213696 := by decide
  exact (leD_facts 256 (by decide) n (by rw [hp]; omega)).1 x hx
theorem sepB_byte (n : Nat) : AllByte (sepB n) := fun x hx => by
  unfold sepB at hx
  rcases List.mem_append.1 hx with h | h
  · rw [List.mem_reverse] at h
    obtain ⟨y, hy, rfl⟩ := List.mem_map.1 h
    obtain ⟨d, rfl, hd⟩ := leF_lt 128 (by decide) 9 _ y hy
    omega
  · have : x = ((n % 128 : Nat) : Int) := by simpa using h
    omega
theorem emptyE_str (xs : List Int) (h : xs ≠ []) (hl : xs.length ≤ 100) : emptyE (strOfNums xs) = 0 := by
  unfold emptyE octsE
  have hne : ¬ (strOfNums xs).toList = [] := by
    rw [ByteArray.toList_eq]
    intro e
    have : (strOfNums xs).data.toList.length = 0 := by rw [e]; rfl
    have h2 : (strOfNums xs).data.toList.length = (strOfNums xs).size := Array.length_toList
    rw [str_size] at h2
    exact h (List.eq_nil_of_length_eq_zero (by omega))
  rw [if_neg hne, str_size, if_neg (by omega)]
theorem val_append : ∀ (xs ys : List Int) (p : Int), val (xs ++ ys) p = val ys (val xs p)
  | [], _, _ => rfl
  | a :: xs, ys, p => val_append xs ys _
theorem sl_val : ∀ (f : Nat) (n : Int), Fits f n → val (sl f n).reverse (if n < 0 then -1 else 0) = n
  | f + 1, n, h => by
    unfold sl
    rw [List.reverse_cons, val_append]
    by_cases c : -128 ≤ n ∧ n < 128
    · rw [if_pos c]
      simp only [List.reverse_nil, val]
      split <;> omega
    · rw [if_neg c]
      have hf : Fits f (n / 256) := by
        rcases h with h | h
        · exact absurd h c
        · exact h
      have ih := sl_val f (n / 256) hf
      have e : (if n / 256 < 0 then (-1 : Int) else 0) = if n < 0 then -1 else 0 := by
        by_cases g : n < 0
        · rw [if_pos g, if_pos (by omega)]
        · rw [if_neg g, if_neg (by omega)]
      rw [e] at ih
      rw [ih]
      simp only [val]
      omega
theorem sl_byte : ∀ (f : Nat) (n : Int), AllByte (sl f n)
  | 0, n, x, hx => by simp [sl] at hx
  | f + 1, n, x, hx => by
    unfold sl at hx
    rcases List.mem_cons.1 hx with rfl | hx
    · omega
    · split at hx
      · simp at hx
      · exact sl_byte f _ x hx
/-- The first octet tells the sign; behind it, if others follow, it does not. -/
theorem sl_head : ∀ (f : Nat) (n : Int), Fits f n → ∃ (h : Int) (r : List Int), (sl f n).reverse = h :: r ∧ (h ≥ 128 ↔ n < 0) ∧ (∀ (b : Int) (t : List Int), r = b :: t → ¬ (if n < 0 then -1 else 0) * 256 + h = (if b ≥ 128 then -1 else 0))
  | f + 1, n, hfit => by
    unfold sl
    rw [List.reverse_cons]
    by_cases c : -128 ≤ n ∧ n < 128
    · rw [if_pos c]
      refine ⟨n % 256, [], rfl, by omega, fun b t e => by cases e⟩
    · rw [if_neg c]
      have hf : Fits f (n / 256) := by
        rcases hfit with h | h
        · exact absurd h c
        · exact h
      obtain ⟨h, r, e, h1, h2⟩ := sl_head f (n / 256) hf
      have es : (if n / 256 < 0 then (-1 : Int) else 0) = if n < 0 then -1 else 0 := by
        by_cases g : n < 0
        · rw [if_pos g, if_pos (by omega)]
        · rw [if_neg g, if_neg (by omega)]
      rw [e]
      refine ⟨h, r ++ [n % 256], rfl, by omega, fun b t et => ?_⟩
      cases r with
      | cons b' t' =>
        obtain ⟨rfl, _⟩ := List.cons.inj et
        rw [← es]
        exact h2 b' t' rfl
      | nil =>
        obtain ⟨rfl, _⟩ := List.cons.inj et
        have hv := sl_val f (n / 256) hf
        rw [e, es] at hv
        simp only [val] at hv
        rw [hv]
        split <;> omega
theorem bt_first (x : Int) (xs : List Int) (hb : AllByte (x :: xs)) : bt (strOfNums (x :: xs)) 0 = x := bt_str (x :: xs) hb 0 (by simp)
theorem sig_str (x : Int) (xs : List Int) (hb : AllByte (x :: xs)) (hl : xs.length ≤ 90) : sigB (strOfNums (x :: xs)) = numR (val (x :: xs) (if x ≥ 128 then -1 else 0)) := by
  unfold sigB signI
  rw [emptyE_str _ (by simp) (by simp; omega), if_pos rfl, bytes_back _ hb, bt_first x xs hb]
theorem signed_back (n : Int) (h : sigOk n) : sigB (strOfNums (sl 8 n).reverse) = (n, 0) := by
  have h' := h
  unfold sigOk at h'
  have hfit := fits9 n h'.1 h'.2
  obtain ⟨x, r, e, h1, h2⟩ := sl_head 8 n hfit
  have hby : AllByte (x :: r) := fun y hy => sl_byte 8 n y (List.mem_reverse.1 (e ▸ hy))
  have hlen : r.length ≤ 8 := by
    have := sl_length 8 n
    have g : (sl 8 n).reverse.length = r.length + 1 := by rw [e]; rfl
    rw [List.length_reverse] at g
    omega
  have hv := sl_val 8 n hfit
  rw [e] at hv ⊢
  rw [sig_str x r hby (by omega)]
  have es : (if x ≥ 128 then (-1 : Int) else 0) = if n < 0 then -1 else 0 := by
    by_cases g : n < 0
    · rw [if_pos g, if_pos (h1.2 g)]
    · rw [if_neg g, if_neg (fun q => g (h1.1 q))]
  rw [es, hv]
  unfold numR
  rw [if_pos (show InMax n from h')]
theorem unsigned_back (n : Nat) (hn : n ≤ 1152921504606846976) : unsB (strOfNums (leD 256 n).reverse) = ((n : Int), 0) := by
  have hp : (256 : Nat) ^ 9 = 4722366482869645213696 := by decide
  obtain ⟨dg, vl, _⟩ := leD_facts 256 (by decide) n (by rw [hp]; omega)
  have hl := leD_length 256 n
  have hne : (leD 256 n).reverse ≠ [] := by simp [leD]
  unfold unsB
  rw [emptyE_str _ hne (by rw [List.length_reverse]; omega), if_pos rfl, bytes_back _ dg, val_vM]
  unfold numR
  rw [show vM 256 (leD 256 n).reverse 0 = (n : Int) from vl, if_pos (show InMax (n : Int) from ⟨by omega, by omega⟩)]
end Go.Proofs.YthicmbhldjebfaaDoor.PA
