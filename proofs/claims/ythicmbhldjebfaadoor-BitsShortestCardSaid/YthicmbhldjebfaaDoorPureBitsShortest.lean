/- BitsShortest: the plain law: the forms of numbers are the shortest, and in order. -/
import Derived.Test.YthicmbhldjebfaaDoorPAx21
import Derived.Test.YthicmbhldjebfaaDoorHP5
import Derived.Test.YthicmbhldjebfaaDoorHP8
namespace Go.Proofs.YthicmbhldjebfaaDoor.Pure
open Go.RowKit Go.Proofs.YthicmbhldjebfaaDoor.PA Go.Proofs.YthicmbhldjebfaaDoorW.PrintWords Go.Proofs.YthicmbhldjebfaaDoorW.PrintLast
set_option linter.unusedVariables false
set_option linter.unusedSimpArgs false
/-- The number that digits are, the highest first, behind a number. -/
def vM (m : Int) : List Int → Int → Int
  | [], n => n
  | b :: r, n => vM m r (n * m + b)
theorem val_vM : ∀ (bs : List Int) (n : Int), val bs n = vM 256 bs n
  | [], _ => rfl
  | b :: r, n => val_vM r (n * 256 + b)
def Dig (m : Int) (xs : List Int) : Prop := ∀ x, x ∈ xs → 0 ≤ x ∧ x < m
theorem Dig.tail {m x : Int} {xs : List Int} (h : Dig m (x :: xs)) : Dig m xs := fun y hy => h y (List.mem_cons_of_mem _ hy)
theorem vM_lt (m : Int) (hm : 0 < m) : ∀ (xs ys : List Int) (p q : Int), xs.length = ys.length → Dig m xs → Dig m ys → p < q → vM m xs p < vM m ys q
  | [], [], p, q, _, _, _, h => h
  | a :: xs, b :: ys, p, q, hl, hx, hy, h => by
    have ha := hx a List.mem_cons_self
    have hb := hy b List.mem_cons_self
    have hpq : (p + 1) * m ≤ q * m := Int.mul_le_mul_of_nonneg_right (by omega) (by omega)
    rw [Int.add_mul, Int.one_mul] at hpq
    exact vM_lt m hm xs ys _ _ (by simpa using hl) hx.tail hy.tail (by omega)
  | [], b :: ys, p, q, hl, _, _, _ => by simp at hl
  | a :: xs, [], p, q, hl, _, _, _ => by simp at hl
def lexI : List Int → List Int → Bool
  | _, [] => false
  | [], _ :: _ => true
  | a :: x, b :: y => decide (a < b) || (a == b && lexI x y)
theorem lex_vM (m : Int) (hm : 0 < m) : ∀ (xs ys : List Int) (p : Int), xs.length = ys.length → Dig m xs → Dig m ys → lexI xs ys = decide (vM m xs p < vM m ys p)
  | [], [], p, _, _, _ => by simp [lexI, vM]
  | a :: xs, b :: ys, p, hl, hx, hy => by
    have hl' : xs.length = ys.length := by simpa using hl
    simp only [lexI, vM]
    rcases Int.lt_trichotomy a b with h | h | h
    · rw [decide_eq_true h, Bool.true_or]
      exact (decide_eq_true (vM_lt m hm xs ys _ _ hl' hx.tail hy.tail (by omega))).symm
    · subst h
      rw [decide_eq_false (by omega), beq_self_eq_true, Bool.false_or, Bool.true_and]
      exact lex_vM m hm xs ys _ hl' hx.tail hy.tail
    · have h2 := vM_lt m hm ys xs (p * m + b) (p * m + a) hl'.symm hy.tail hx.tail (by omega)
      rw [decide_eq_false (by omega), beq_eq_false_iff_ne.2 (by omega), Bool.false_or, Bool.false_and]
      exact (decide_eq_false (by omega)).symm
  | [], b :: ys, p, hl, _, _ => by simp at hl
  | a :: xs, [], p, hl, _, _ => by simp at hl
theorem vM_append (m : Int) : ∀ (xs ys : List Int) (p : Int), vM m (xs ++ ys) p = vM m ys (vM m xs p)
  | [], _, _ => rfl
  | a :: xs, ys, p => vM_append m xs ys _
theorem vM_pos (m : Int) (hm : 0 < m) : ∀ (xs : List Int) (p : Int), Dig m xs → 1 ≤ p → 1 ≤ vM m xs p
  | [], p, _, h => h
  | a :: xs, p, hx, h => by
    have ha := hx a List.mem_cons_self
    have : 1 * m ≤ p * m := Int.mul_le_mul_of_nonneg_right h (by omega)
    exact vM_pos m hm xs _ hx.tail (by omega)
theorem vM_short (m : Int) (hm : 0 < m) (xs : List Int) (h : Int) (r : List Int) (hh : 1 ≤ h) (hx : Dig m xs) (hr : Dig m (h :: r)) (hl : xs.length ≤ r.length) : vM m xs 0 < vM m (h :: r) 0 := by
  have e : h :: r = (h :: r.take (r.length - xs.length)) ++ r.drop (r.length - xs.length) := by simp
  have hd : Dig m (r.drop (r.length - xs.length)) := fun y hy => hr y (List.mem_cons_of_mem _ (List.mem_of_mem_drop hy))
  have ht : Dig m (r.take (r.length - xs.length)) := fun y hy => hr y (List.mem_cons_of_mem _ (List.mem_of_mem_take hy))
  rw [e, vM_append]
  refine vM_lt m hm _ _ _ _ (by simp; omega) hx hd ?_
  have : 1 ≤ vM m (h :: r.take (r.length - xs.length)) 0 := vM_pos m hm (r.take (r.length - xs.length)) (0 * m + h) ht (by omega)
  omega
theorem less_lex : ∀ (xs ys : List Int), AllByte xs → AllByte ys → Op.bytesLess (xs.map fun n => UInt8.ofNat n.toNat) (ys.map fun n => UInt8.ofNat n.toNat) = lexI xs ys
  | xs, [], _, _ => by cases xs <;> rfl
  | [], b :: ys, _, _ => rfl
  | a :: xs, b :: ys, hx, hy => by
    have ha := hx a List.mem_cons_self
    have hb := hy b List.mem_cons_self
    have ih := less_lex xs ys (fun x h => hx x (List.mem_cons_of_mem _ h)) (fun x h => hy x (List.mem_cons_of_mem _ h))
    have ea : (UInt8.ofNat a.toNat).toNat = a.toNat := by rw [UInt8.toNat_ofNat', Nat.mod_eq_of_lt (show a.toNat < 2 ^ 8 by omega)]
    have eb : (UInt8.ofNat b.toNat).toNat = b.toNat := by rw [UInt8.toNat_ofNat', Nat.mod_eq_of_lt (show b.toNat < 2 ^ 8 by omega)]
    simp only [List.map_cons, Op.bytesLess, lexI, ih]
    have e1 : decide (UInt8.ofNat a.toNat < UInt8.ofNat b.toNat) = decide (a < b) := by
      by_cases h : a < b
      · rw [decide_eq_true h, decide_eq_true (UInt8.lt_iff_toNat_lt.2 (by rw [ea, eb]; omega))]
      · rw [decide_eq_false h, decide_eq_false (fun g => h (by have := UInt8.lt_iff_toNat_lt.1 g; rw [ea, eb] at this; omega))]
    have e2 : (UInt8.ofNat a.toNat == UInt8.ofNat b.toNat) = (a == b) := by
      by_cases h : a = b
      · subst h; simp
      · rw [beq_eq_false_iff_ne.2 h, beq_eq_false_iff_ne.2 (fun g => h (by have := congrArg UInt8.toNat g; rw [ea, eb] at this; omega))]
    rw [e1, e2]
theorem isLess_eq (xs ys : List Int) (hx : AllByte xs) (hy : AllByte ys) : examinerlaw08_isLess.f (strOfNums xs) (strOfNums ys) = some (if xs.length = ys.length then lexI xs ys else decide (xs.length < ys.length)) := by
  unfold examinerlaw08_isLess.f
  rw [str_size, str_size, ByteArray.toList_eq, ByteArray.toList_eq]
  have e : ∀ zs : List Int, (strOfNums zs).data.toList = zs.map fun n => UInt8.ofNat n.toNat := fun zs => by simp [strOfNums]
  rw [e, e, less_lex xs ys hx hy]
  by_cases h : xs.length = ys.length
  · rw [if_pos (by omega), if_pos h]
  · rw [if_neg (by omega), if_neg h]
    by_cases g : xs.length < ys.length
    · rw [decide_eq_true g, decide_eq_true (by omega)]
    · rw [decide_eq_false g, decide_eq_false (by omega)]
theorem leF_val (m : Nat) (hm : 1 < m) : ∀ (f n : Nat), n < m ^ f → vM m (leF m f n).reverse 0 = (n : Int)
  | 0, n, h => by
    have : n = 0 := by simpa using h
    subst this
    rfl
  | f + 1, n, h => by
    unfold leF
    by_cases h0 : n > 0
    · rw [if_pos h0, List.reverse_cons, vM_append, leF_val m hm f (n / m) (by rw [Nat.pow_succ] at h; exact Nat.div_lt_of_lt_mul (by rw [Nat.mul_comm]; exact h))]
      simp only [vM]
      have := Nat.div_add_mod n m
      have h2 : (m : Int) * ((n / m : Nat) : Int) + ((n % m : Nat) : Int) = (n : Int) := by exact_mod_cast this
      rw [Int.mul_comm]
      exact h2
    · rw [if_neg h0]
      have : n = 0 := by omega
      subst this
      rfl
theorem leF_head (m : Nat) (hm : 1 < m) : ∀ (f n : Nat), n < m ^ f → leF m f n = [] ∨ ∃ (h : Int) (r : List Int), (leF m f n).reverse = h :: r ∧ 1 ≤ h
  | 0, n, h => .inl rfl
  | f + 1, n, h => by
    unfold leF
    by_cases h0 : n > 0
    · rw [if_pos h0]
      refine .inr ?_
      rw [List.reverse_cons]
      rcases leF_head m hm f (n / m) (by rw [Nat.pow_succ] at h; exact Nat.div_lt_of_lt_mul (by rw [Nat.mul_comm]; exact h)) with e | ⟨g, r, e, hg⟩
      · have hz : n / m = 0 := by
          have hv := leF_val m hm f (n / m) (by rw [Nat.pow_succ] at h; exact Nat.div_lt_of_lt_mul (by rw [Nat.mul_comm]; exact h))
          rw [e] at hv
          have : (0 : Int) = ((n / m : Nat) : Int) := hv
          omega
        have hlt : n < m := by
          rcases Nat.lt_or_ge n m with h1 | h1
          · exact h1
          · have := Nat.div_pos h1 (by omega)
            omega
        rw [e]
        refine ⟨((n % m : Nat) : Int), [], rfl, ?_⟩
        rw [Nat.mod_eq_of_lt hlt]
        omega
      · rw [e]
        exact ⟨g, r ++ [((n % m : Nat) : Int)], rfl, hg⟩
    · rw [if_neg h0]
      exact .inl rfl
theorem leD_facts (m : Nat) (hm : 1 < m) (n : Nat) (hn : n / m < m ^ 9) : Dig m (leD m n).reverse ∧ vM m (leD m n).reverse 0 = (n : Int) ∧ ((leD m n).length = 1 ∨ ∃ (h : Int) (r : List Int), (leD m n).reverse = h :: r ∧ 1 ≤ h ∧ r ≠ []) := by
  refine ⟨fun x hx => ?_, ?_, ?_⟩
  · rw [List.mem_reverse] at hx
    unfold leD at hx
    rcases List.mem_cons.1 hx with rfl | hx
    · have := Nat.mod_lt n (show 0 < m by omega)
      omega
    · obtain ⟨d, rfl, hd⟩ := leF_lt m (by omega) 9 _ x hx
      omega
  · unfold leD
    rw [List.reverse_cons, vM_append, leF_val m hm 9 _ hn]
    simp only [vM]
    have h2 : (m : Int) * ((n / m : Nat) : Int) + ((n % m : Nat) : Int) = (n : Int) := by exact_mod_cast Nat.div_add_mod n m
    rw [Int.mul_comm]
    exact h2
  · unfold leD
    rcases leF_head m hm 9 _ hn with e | ⟨h, r, e, hh⟩
    · rw [e]; exact .inl rfl
    · rw [List.reverse_cons, e]
      exact .inr ⟨h, r ++ [((n % m : Nat) : Int)], rfl, hh, by simp⟩
theorem order (m : Nat) (hm : 1 < m) (a b : Nat) (ha : a / m < m ^ 9) (hb : b / m < m ^ 9) : (if (leD m a).reverse.length = (leD m b).reverse.length then lexI (leD m a).reverse (leD m b).reverse else decide ((leD m a).reverse.length < (leD m b).reverse.length)) = decide ((a : Int) < (b : Int)) := by
  obtain ⟨da, va, ca⟩ := leD_facts m hm a ha
  obtain ⟨db, vb, cb⟩ := leD_facts m hm b hb
  have la : 0 < (leD m a).length := by simp [leD]
  have lb : 0 < (leD m b).length := by simp [leD]
  by_cases h : (leD m a).reverse.length = (leD m b).reverse.length
  · rw [if_pos h, lex_vM m (by omega) _ _ 0 h da db, va, vb]
  · rw [if_neg h]
    rw [List.length_reverse, List.length_reverse] at h ⊢
    by_cases g : (leD m a).length < (leD m b).length
    · rw [decide_eq_true g]
      rcases cb with cb | ⟨c, r, e, hc, _⟩
      · omega
      · have hlen : (leD m b).length = r.length + 1 := by rw [← List.length_reverse, e]; rfl
        have := vM_short m (by omega) (leD m a).reverse c r hc da (e ▸ db) (by rw [List.length_reverse]; omega)
        rw [← e, va, vb] at this
        exact (decide_eq_true this).symm
    · rw [decide_eq_false g]
      rcases ca with ca | ⟨c, r, e, hc, _⟩
      · omega
      · have hlen : (leD m a).length = r.length + 1 := by rw [← List.length_reverse, e]; rfl
        have := vM_short m (by omega) (leD m b).reverse c r hc db (e ▸ da) (by rw [List.length_reverse]; omega)
        rw [← e, va, vb] at this
        exact (decide_eq_false (by omega)).symm
theorem lex_sep : ∀ (A B : List Int) (x y : Int), A.length = B.length → lexI (A.map (128 + ·) ++ [x]) (B.map (128 + ·) ++ [y]) = lexI (A ++ [x]) (B ++ [y])
  | [], [], _, _, _ => rfl
  | a :: A, b :: B, x, y, h => by
    simp only [List.map_cons, List.cons_append, lexI]
    rw [lex_sep A B x y (by simpa using h)]
    have e1 : decide (128 + a < 128 + b) = decide (a < b) := by
      by_cases h : a < b
      · rw [decide_eq_true h, decide_eq_true (by omega)]
      · rw [decide_eq_false h, decide_eq_false (by omega)]
    have e2 : (128 + a == 128 + b) = (a == b) := by
      by_cases h : a = b
      · subst h; simp
      · rw [beq_eq_false_iff_ne.2 h, beq_eq_false_iff_ne.2 (by omega)]
    rw [e1, e2]
  | [], b :: B, _, _, h => by simp at h
  | a :: A, [], _, _, h => by simp at h
theorem sep_order (a b : Nat) (ha : a ≤ 1152921504606846976) (hb : b ≤ 1152921504606846976) : (if (sepB a).length = (sepB b).length then lexI (sepB a) (sepB b) else decide ((sepB a).length < (sepB b).length)) = decide ((a : Int) < (b : Int)) := by
  have hp : (128 : Nat) ^ 9 = 9223372036854775808 := by decide
  have h := order 128 (by decide) a b (by rw [hp]; omega) (by rw [hp]; omega)
  have l : ∀ n, (sepB n).length = (leD 128 n).reverse.length := fun n => by simp [sepB, leD]
  rw [l, l]
  rw [← h]
  by_cases c : (leD 128 a).reverse.length = (leD 128 b).reverse.length
  · rw [if_pos c, if_pos c]
    unfold sepB leD
    rw [← List.map_reverse, ← List.map_reverse, List.reverse_cons, List.reverse_cons]
    refine lex_sep _ _ _ _ ?_
    rw [← l, ← l] at c
    simpa [sepB] using c
  · rw [if_neg c, if_neg c]
theorem leD_byte (n : Nat) (hn : n ≤ 1152921504606846976) : AllByte (leD 256 n).reverse := fun x hx => by
  have hp : (256 : Nat) ^ 9 = 4722366482869645213696 := by decide
  exact (leD_facts 256 (by decide) n (by rw [hp]; omega)).1 x hx
theorem sepB_byte (n : Nat) : AllByte (sepB n) := fun x hx => by
  unfold sepB at hx
  rcases List.mem_append.1 hx with h | h
  · rw [List.mem_reverse] at h
    obtain ⟨y, hy, rfl⟩ := List.mem_map.1 h
    obtain ⟨d, rfl, hd⟩ := leF_lt 128 (by decide) 9 _ y hy
    omega
  · have : x = ((n % 128 : Nat) : Int) := by simpa using h
    omega
theorem extract_str (x : Int) (xs : List Int) : (strOfNums (x :: xs)).extract 1 (strOfNums (x :: xs)).size = strOfNums xs := by
  apply ByteArray.ext
  rw [ByteArray.data_extract]
  apply Array.ext'
  simp [strOfNums]
  apply List.take_of_length_le
  have h : (strOfNums (x :: xs)).size = xs.length + 1 := str_size _
  rw [List.length_map]
  show xs.length ≤ (strOfNums (x :: xs)).size - 1
  omega
theorem emptyE_str (xs : List Int) (h : xs ≠ []) (hl : xs.length ≤ 100) : emptyE (strOfNums xs) = 0 := by
  unfold emptyE octsE
  have hne : ¬ (strOfNums xs).toList = [] := by
    rw [ByteArray.toList_eq]
    intro e
    have : (strOfNums xs).data.toList.length = 0 := by rw [e]; rfl
    have h2 : (strOfNums xs).data.toList.length = (strOfNums xs).size := Array.length_toList
    rw [str_size] at h2
    exact h (List.eq_nil_of_length_eq_zero (by omega))
  rw [if_neg hne, str_size, if_neg (by omega)]
theorem uns_tail (a : Nat) (ha : a ≤ 1152921504606846976) (h : Int) (r : List Int) (e : (leD 256 a).reverse = h :: r) (hh : 1 ≤ h) (hr : r ≠ []) : ∃ v : Int, unsB (strOfNums r) = (v, 0) ∧ v ≠ (a : Int) := by
  have hp : (256 : Nat) ^ 9 = 4722366482869645213696 := by decide
  obtain ⟨dg, vl, _⟩ := leD_facts 256 (by decide) a (by rw [hp]; omega)
  rw [e] at dg vl
  have hlen : r.length ≤ 100 := by
    have := leD_length 256 a
    have h2 : (leD 256 a).reverse.length = r.length + 1 := by rw [e]; rfl
    rw [List.length_reverse] at h2
    omega
  have hb : AllByte r := fun x hx => dg.tail x hx
  have hlt := vM_lt 256 (by decide) r r 0 h rfl dg.tail dg.tail (by omega)
  simp only [vM, Int.zero_mul, Int.zero_add] at vl
  have v0 := val_nonneg r 0 hb (by decide)
  rw [val_vM] at v0
  refine ⟨vM 256 r 0, ?_, ?_⟩
  · unfold unsB
    rw [emptyE_str r hr hlen, if_pos rfl, bytes_back r hb, val_vM]
    unfold numR
    have vl' : vM 256 r h = (a : Int) := vl
    rw [if_pos (show InMax (vM 256 r 0) from ⟨by omega, by omega⟩)]
  · have vl' : vM 256 r h = (a : Int) := vl
    omega
theorem val_append : ∀ (xs ys : List Int) (p : Int), val (xs ++ ys) p = val ys (val xs p)
  | [], _, _ => rfl
  | a :: xs, ys, p => val_append xs ys _
theorem sl_val : ∀ (f : Nat) (n : Int), Fits f n → val (sl f n).reverse (if n < 0 then -1 else 0) = n
  | f + 1, n, h => by
    unfold sl
    rw [List.reverse_cons, val_append]
    by_cases c : -128 ≤ n ∧ n < 128
    · rw [if_pos c]
      simp only [List.reverse_nil, val]
      split <;> omega
    · rw [if_neg c]
      have hf : Fits f (n / 256) := by
        rcases h with h | h
        · exact absurd h c
        · exact h
      have ih := sl_val f (n / 256) hf
      have e : (if n / 256 < 0 then (-1 : Int) else 0) = if n < 0 then -1 else 0 := by
        by_cases g : n < 0
        · rw [if_pos g, if_pos (by omega)]
        · rw [if_neg g, if_neg (by omega)]
      rw [e] at ih
      rw [ih]
      simp only [val]
      omega
theorem sl_byte : ∀ (f : Nat) (n : Int), AllByte (sl f n)
  | 0, n, x, hx => by simp [sl] at hx
  | f + 1, n, x, hx => by
    unfold sl at hx
    rcases List.mem_cons.1 hx with rfl | hx
    · omega
    · split at hx
      · simp at hx
      · exact sl_byte f _ x hx
/-- The first octet tells the sign; behind it, if others follow, it does not. -/
theorem sl_head : ∀ (f : Nat) (n : Int), Fits f n → ∃ (h : Int) (r : List Int), (sl f n).reverse = h :: r ∧ (h ≥ 128 ↔ n < 0) ∧ (∀ (b : Int) (t : List Int), r = b :: t → ¬ (if n < 0 then -1 else 0) * 256 + h = (if b ≥ 128 then -1 else 0))
  | f + 1, n, hfit => by
    unfold sl
    rw [List.reverse_cons]
    by_cases c : -128 ≤ n ∧ n < 128
    · rw [if_pos c]
      refine ⟨n % 256, [], rfl, by omega, fun b t e => by cases e⟩
    · rw [if_neg c]
      have hf : Fits f (n / 256) := by
        rcases hfit with h | h
        · exact absurd h c
        · exact h
      obtain ⟨h, r, e, h1, h2⟩ := sl_head f (n / 256) hf
      have es : (if n / 256 < 0 then (-1 : Int) else 0) = if n < 0 then -1 else 0 := by
        by_cases g : n < 0
        · rw [if_pos g, if_pos (by omega)]
        · rw [if_neg g, if_neg (by omega)]
      rw [e]
      refine ⟨h, r ++ [n % 256], rfl, by omega, fun b t et => ?_⟩
      cases r with
      | cons b' t' =>
        obtain ⟨rfl, _⟩ := List.cons.inj et
        rw [← es]
        exact h2 b' t' rfl
      | nil =>
        obtain ⟨rfl, _⟩ := List.cons.inj et
        have hv := sl_val f (n / 256) hf
        rw [e, es] at hv
        simp only [val] at hv
        rw [hv]
        split <;> omega
theorem bt_first (x : Int) (xs : List Int) (hb : AllByte (x :: xs)) : bt (strOfNums (x :: xs)) 0 = x := bt_str (x :: xs) hb 0 (by simp)
theorem sig_str (x : Int) (xs : List Int) (hb : AllByte (x :: xs)) (hl : xs.length ≤ 90) : sigB (strOfNums (x :: xs)) = numR (val (x :: xs) (if x ≥ 128 then -1 else 0)) := by
  unfold sigB signI
  rw [emptyE_str _ (by simp) (by simp; omega), if_pos rfl, bytes_back _ hb, bt_first x xs hb]
theorem val_ne : ∀ (r : List Int) (p q : Int), p ≠ q → val r p ≠ val r q
  | [], p, q, h => h
  | a :: r, p, q, h => val_ne r _ _ (by omega)
theorem BitsShortest : examinerlaw08_BitsShortest.Pure := by
  intro a b ha hb
  refine Ev.rounds ?_
  unfold examinerlaw08_BitsShortest.f
  refine Ev.bind awake_eq ?_
  simp only [if_true]
  have p256 : (256 : Nat) ^ 9 = 4722366482869645213696 := by decide
  have next : Ev (fun k => examinerlaw08_BitsShortest.j0 k a b) true := by
    have no : Ev (fun k => examinerlaw08_BitsShortest.j1 k a b true) true := by
      refine ev_succ ?_
      simp only [examinerlaw08_BitsShortest.j1, if_true]
      exact Ev.now _
    refine ev_succ ?_
    simp only [examinerlaw08_BitsShortest.j0, within_eq, Option.bind_some]
    by_cases h1 : 0 ≤ a ∧ a ≤ 1152921504606846976
    · simp only [decide_eq_true h1, if_true]
      by_cases h2 : 0 ≤ b ∧ b ≤ 1152921504606846976
      · simp only [decide_eq_true h2, Bool.not_true]
        obtain ⟨m, rfl⟩ := Int.eq_ofNat_of_zero_le h1.1
        obtain ⟨n, rfl⟩ := Int.eq_ofNat_of_zero_le h2.1
        have hm : m ≤ 1152921504606846976 := by omega
        have hn : n ≤ 1152921504606846976 := by omega
        have o1 := order 256 (by decide) m n (by rw [p256]; omega) (by rw [p256]; omega)
        have o2 := sep_order m n hm hn
        refine ev_succ ?_
        simp only [examinerlaw08_BitsShortest.j1, Bool.false_eq_true, if_false, unsignedOf_eq m hm, unsignedOf_eq n hn, Option.bind_some]
        refine Ev.bind (ev_some 30 (fun k hk => septetsOf_eq m hm k hk)) ?_
        refine Ev.bind (ev_some 30 (fun k hk => septetsOf_eq n hn k hk)) ?_
        simp only [if_true]
        have hne : ((strOfNums (leD 256 m).reverse).toList == ([] : List UInt8)) = false := by
          rw [ByteArray.toList_eq]
          refine beq_eq_false_iff_ne.2 (fun e => ?_)
          have h0 : (strOfNums (leD 256 m).reverse).data.toList.length = 0 := by rw [e]; rfl
          have h3 : (strOfNums (leD 256 m).reverse).data.toList.length = (strOfNums (leD 256 m).reverse).size := Array.length_toList
          rw [h0, str_size, List.length_reverse] at h3
          simp only [leD, List.length_cons] at h3
          omega
        rw [hne]
        refine ev_succ ?_
        simp only [examinerlaw08_BitsShortest.j2, Bool.false_eq_true, if_false, str_size, isLess_eq _ _ (leD_byte m hm) (leD_byte n hn), isLess_eq _ _ (sepB_byte m) (sepB_byte n), o1, o2, Option.bind_some, beq_self_eq_true, if_true]
        obtain ⟨dg, vl, cs⟩ := leD_facts 256 (by decide) m (by rw [p256]; omega)
        rcases cs with cs | ⟨h, r, e, hh, hr⟩
        · rw [List.length_reverse]
          simp only [if_neg (show ¬ ((leD 256 m).length : Int) > 1 by omega)]
          exact Ev.now _
        · have hl : 1 < (leD 256 m).reverse.length := by
            rw [e]
            have : 0 < r.length := List.length_pos_iff.2 hr
            simp only [List.length_cons]
            omega
          simp only [if_pos (show ((leD 256 m).reverse.length : Int) > 1 by omega), if_pos (show 1 ≤ ((leD 256 m).reverse.length : Int) by omega)]
          have ht := uns_tail m hm h r e hh hr
          obtain ⟨v, hv, hne2⟩ := ht
          have hx : (strOfNums (leD 256 m).reverse).extract 1 (leD 256 m).reverse.length = strOfNums r := by
            have := extract_str h r
            rw [← e, str_size] at this
            exact this
          rw [hx]
          refine Ev.bind (unsignedIn_eq (strOfNums r)) ?_
          rw [hv]
          simp only [if_true, beq_eq_false_iff_ne.2 hne2]
          refine ev_succ ?_
          simp only [examinerlaw08_BitsShortest.j3, Bool.false_eq_true, if_false, isLess_eq _ _ (leD_byte m hm) (leD_byte n hn), isLess_eq _ _ (sepB_byte m) (sepB_byte n), o1, o2, Option.bind_some, beq_self_eq_true, if_true]
          exact Ev.now _
      · simp only [decide_eq_false h2, Bool.not_false]
        exact no
    · simp only [decide_eq_false h1, Bool.false_eq_true, if_false]
      exact no
  by_cases hs : sigOk a
  · have hs' := hs
    unfold sigOk at hs'
    refine Ev.bind (ev_some 101 (fun k hk => signedOf_eq a hs k (by omega))) ?_
    have hfit := fits9 a hs'.1 hs'.2
    obtain ⟨h, r, e, h1, h2⟩ := sl_head 8 a hfit
    have hby : AllByte (h :: r) := fun x hx => sl_byte 8 a x (List.mem_reverse.1 (e ▸ hx))
    have hlen : r.length ≤ 8 := by
      have := sl_length 8 a
      have g : (sl 8 a).reverse.length = r.length + 1 := by rw [e]; rfl
      rw [List.length_reverse] at g
      omega
    have hv := sl_val 8 a hfit
    rw [e] at hv ⊢
    have hne : ¬ (strOfNums (h :: r)).toList = [] := by
      rw [ByteArray.toList_eq]
      intro q
      have h0 : (strOfNums (h :: r)).data.toList.length = 0 := by rw [q]; rfl
      have h3 : (strOfNums (h :: r)).data.toList.length = (strOfNums (h :: r)).size := Array.length_toList
      rw [h0, str_size, List.length_cons] at h3
      omega
    simp only [if_true, if_neg hne, count_eq, Option.bind_some]
    obtain ⟨sg, hsg⟩ : ∃ sg : Int, (if a < 0 then 255 else 0) = sg := ⟨_, rfl⟩
    have hoct : examinerref08_Octet.f (wrap64 (255 * (if decide (a < 0) = true then 1 else 0))) = some (strOfNums [sg]) := by
      unfold examinerref08_Octet.f
      rw [← hsg]
      by_cases g : a < 0
      · rw [decide_eq_true g, if_pos rfl, if_pos g, show wrap64 (255 * 1) % 256 = 255 by simp [wrap64]]
      · rw [decide_eq_false g, if_neg (by decide), if_neg g, show wrap64 (255 * 0) % 256 = 0 by simp [wrap64]]
    have hsb : 0 ≤ sg ∧ sg < 256 := by rw [← hsg]; split <;> omega
    simp only [hoct, Option.bind_some, str_size, List.length_cons, List.length_nil]
    simp only [if_pos (show 0 + 1 + (r.length + 1) ≤ 9223372036854775807 by omega), ← str_append]
    have hmore : sigB (strOfNums ([sg] ++ (h :: r))) = (a, 0) := by
      have hby2 : AllByte (sg :: h :: r) := fun x hx => by
        rcases List.mem_cons.1 hx with rfl | hx
        · exact hsb
        · exact hby x hx
      show sigB (strOfNums (sg :: h :: r)) = (a, 0)
      rw [sig_str sg (h :: r) hby2 (by simp; omega)]
      have hval : val (sg :: h :: r) (if sg ≥ 128 then -1 else 0) = a := by
        rw [← hv]
        show val (h :: r) ((if sg ≥ 128 then -1 else 0) * 256 + sg) = _
        congr 1
        rw [← hsg]
        by_cases g : a < 0
        · simp only [if_pos g]; decide
        · simp only [if_neg g]; decide
      rw [hval]
      unfold numR
      rw [if_pos (show InMax a from hs')]
    have hx : (strOfNums (h :: r)).extract 1 (r.length + 1) = strOfNums r := by
      have := extract_str h r
      rw [str_size] at this
      exact this
    refine Ev.bind (signedIn_eq _) ?_
    rw [hmore]
    rw [hx]
    simp only [if_pos (show 1 ≤ ((r.length + 1 : Nat) : Int) by omega)]
    refine Ev.bind (signedIn_eq _) ?_
    simp only [if_true]
    by_cases g1 : (sigB (strOfNums r)).2 = 0
    · simp only [if_pos g1]
      have g2 : ¬ (sigB (strOfNums r)).1 = a := by
        cases r with
        | nil =>
          have h1e : emptyE (strOfNums []) = 1 := by
            unfold emptyE
            rw [if_pos (show (strOfNums []).toList = [] by rw [ByteArray.toList_eq]; rfl)]
          unfold sigB at g1
          rw [h1e, if_neg (by decide)] at g1
          exact absurd g1 (by decide)
        | cons b0 t =>
          have hby2 : AllByte (b0 :: t) := fun x hx => hby x (List.mem_cons_of_mem _ hx)
          have hl2 : t.length ≤ 90 := by simp at hlen; omega
          rw [sig_str b0 t hby2 hl2] at g1 ⊢
          have hnn : val (b0 :: t) (if b0 ≥ 128 then -1 else 0) ≠ a := by
            have h3 := h2 b0 t rfl
            have h4 := val_ne (b0 :: t) _ _ (fun q => h3 q.symm)
            intro q
            exact h4 (q.trans (show a = val (b0 :: t) ((if a < 0 then -1 else 0) * 256 + h) from hv.symm))
          unfold numR at g1 ⊢
          by_cases g3 : InMax (val (b0 :: t) (if b0 ≥ 128 then -1 else 0))
          · rw [if_pos g3]; exact hnn
          · rw [if_neg g3] at g1; simp at g1
      simp only [if_neg g2]
      exact next
    · simp only [if_neg g1]
      exact next
  · refine Ev.bind (ev_some 0 (fun k _ => signedOf_err a hs k)) ?_
    simp only [if_neg (show ¬ (3 : Int) = 0 by decide)]
    exact next
end Go.Proofs.YthicmbhldjebfaaDoor.Pure
