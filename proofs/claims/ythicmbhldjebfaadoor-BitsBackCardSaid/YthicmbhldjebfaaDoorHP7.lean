/- Chapter 08, plainly: what is written is read again. -/
import Derived.Test.YthicmbhldjebfaaDoorHP4
import Derived.Test.YthicmbhldjebfaaDoorHP5
import Derived.Test.YthicmbhldjebfaaDoorHP8
import Derived.Test.YthicmbhldjebfaaDoorHPV
namespace Go.Proofs.YthicmbhldjebfaaDoor.PA
open Go Go.RowKit Go.Proofs.YthicmbhldjebfaaDoorW.PrintWords Go.Proofs.YthicmbhldjebfaaDoorW.PrintLast Go.Proofs.YthicmbhldjebfaaDoorW.PrintMore
set_option linter.unusedVariables false
set_option linter.unusedSimpArgs false
theorem list_no (s : ByteArray) (h : s.toList = []) : s = ⟨#[]⟩ := by
  rw [ByteArray.toList_eq] at h
  exact ByteArray.ext (Array.toList_eq_nil_iff.1 h)
theorem lt_bitLen : ∀ (d n : Nat), n < 2 ^ d → d ≤ 62 → n < 2 ^ Lib.bitLen n := by
  intro d
  induction d with
  | zero =>
    intro n h _
    have : n = 0 := by simpa using h
    subst this
    exact Nat.two_pow_pos _
  | succ d ih =>
    intro n h hd
    by_cases h0 : n = 0
    · subst h0; exact Nat.two_pow_pos _
    · have hb : n < 9223372036854775808 := Nat.lt_of_lt_of_le h (Nat.pow_le_pow_right (by decide) (show d + 1 ≤ 63 by omega))
      rw [Lib.bitLen_half n h0 (by omega), Nat.add_comm, Nat.pow_succ]
      have := ih (n / 2) (by rw [Nat.pow_succ] at h; omega) (by omega)
      omega
theorem extract_mid (A B C : List Int) : (strOfNums (A ++ (B ++ C))).extract A.length (A.length + B.length) = strOfNums B := by
  apply ByteArray.ext
  rw [ByteArray.data_extract]
  apply Array.ext'
  simp [strOfNums]
theorem numB_digN (n w : Nat) (hw : w ≤ 60) (hn : n < 2 ^ w) : numB (strOfNums (digN n w)) = (n : Int) := by
  have h : ∀ (d i : Nat), i + d = w → numFrom (strOfNums (digN n w)) d ((n / 2 ^ d : Nat) : Int) i = (n : Int) := by
    intro d
    induction d with
    | zero => intro i hi; simp [numFrom]
    | succ d ih =>
      intro i hi
      have hg := digN_get n w i (by omega)
      have hl : i < (digN n w).length := by rw [digN_length]; omega
      rw [List.getElem?_eq_getElem hl, Option.some.injEq, show w - 1 - i = d by omega] at hg
      have hb : bt (strOfNums (digN n w)) (i : Int) = ((48 + n / 2 ^ d % 2 : Nat) : Int) := by rw [bt_str _ (digN_byte _ _) i hl, hg]
      have hq : n / 2 ^ (d + 1) = n / 2 ^ d / 2 := by rw [Nat.pow_succ, Nat.div_div_eq_div_mul]
      have hs : n < 1152921504606846977 := Nat.lt_of_lt_of_le hn (Nat.le_trans (Nat.pow_le_pow_right (by decide) hw) (by decide))
      have hle : n / 2 ^ d ≤ n := Nat.div_le_self _ _
      unfold numFrom
      rw [hb, hq]
      have e : wrap64 (wrap64 (2 * ((n / 2 ^ d / 2 : Nat) : Int)) + (((48 + n / 2 ^ d % 2 : Nat) : Int) - 48) % 256) = ((n / 2 ^ d : Nat) : Int) := by
        generalize n / 2 ^ d = q at *
        rw [show wrap64 (2 * ((q / 2 : Nat) : Int)) = 2 * ((q / 2 : Nat) : Int) by unfold wrap64; omega]
        unfold wrap64
        omega
      rw [e]
      exact ih (i + 1) (by omega)
  unfold numB
  rw [str_size, digN_length]
  have := h w 0 (by omega)
  rw [Nat.div_eq_of_lt hn] at this
  exact this
def addD (a : Nat) (x : S66) : List Int := if x.f0 = 0 then digN x.f2.toNat x.f1.toNat else if x.f0 = 1 then bytesOf x.f3 else if x.f0 = 2 then upk (bytesOf x.f3) else List.replicate ((8 - a % 8) % 8) 48
theorem addField_eq (xs : List Int) (x : S66) : addField xs x = xs ++ addD xs.length x := rfl
theorem addD_size (a : Nat) (x : S66) (h : fieldES x = 0) : (addD a x).length = fieldSize x a := by
  unfold addD fieldSize
  rcases field_ok x h with ⟨h0, ⟨n, w, e1, e2, hw, hn, hb⟩, _⟩ | ⟨h0, _, e1, hs, _⟩ | ⟨h0, _, e1, hs⟩ | ⟨h0, _, _, _⟩
  · rw [if_pos h0, if_neg (by omega), if_neg (by omega), digN_length]
  · rw [if_neg (by omega), if_pos h0, if_neg (by omega), if_neg (by omega), bytesOf_length, e1, Int.toNat_natCast]
  · rw [if_neg (by omega), if_neg (by omega), if_pos h0, if_pos h0, upk_length, bytesOf_length, e1, Int.toNat_natCast]
  · rw [if_neg (by omega), if_neg (by omega), if_neg (by omega), if_neg (by omega), if_pos h0, List.length_replicate]
theorem addD_is (a : Nat) (x : S66) (h : fieldES x = 0) (y : Int) (hy : y ∈ addD a x) : y = 48 ∨ y = 49 := by
  unfold addD at hy
  rcases field_ok x h with ⟨h0, ⟨n, w, e1, e2, hw, hn, hb⟩, _⟩ | ⟨h0, _, e1, hs, h01⟩ | ⟨h0, _, e1, hs⟩ | ⟨h0, _, _, _⟩
  · rw [if_pos h0] at hy; exact digN_is _ _ _ hy
  · rw [if_neg (by omega), if_pos h0] at hy
    unfold bytesOf at hy
    obtain ⟨b, hb, rfl⟩ := List.mem_map.1 hy
    exact (is01_num b).1 (List.all_eq_true.1 h01 b hb)
  · rw [if_neg (by omega), if_neg (by omega), if_pos h0] at hy; exact upk_is _ _ hy
  · rw [if_neg (by omega), if_neg (by omega), if_neg (by omega)] at hy
    exact .inl (List.eq_of_mem_replicate hy)
theorem writeAll_pre : ∀ (r : List S66) (P : List Int), ∃ R, writeAll P r = P ++ R
  | [], P => ⟨[], by simp [writeAll]⟩
  | x :: r, P => by
    obtain ⟨R, hR⟩ := writeAll_pre r (addField P x)
    exact ⟨addD P.length x ++ R, by show writeAll (addField P x) r = _; rw [hR, addField_eq, List.append_assoc]⟩
theorem writeAll_is : ∀ (r : List S66) (P : List Int), (∀ x, x ∈ r → fieldES x = 0) → (∀ y, y ∈ P → y = 48 ∨ y = 49) → ∀ y, y ∈ writeAll P r → y = 48 ∨ y = 49
  | [], P, _, hP, y, hy => hP y hy
  | x :: r, P, hr, hP, y, hy => by
    refine writeAll_is r (addField P x) (fun z hz => hr z (List.mem_cons_of_mem _ hz)) (fun z hz => ?_) y hy
    rw [addField_eq] at hz
    rcases List.mem_append.1 hz with h | h
    · exact hP z h
    · exact addD_is _ x (hr x List.mem_cons_self) z h
theorem zeroB_rep (n : Nat) : zeroB (strOfNums (List.replicate n 48)) = true := by
  unfold zeroB
  rw [List.all_eq_true]
  intro b hb
  simp [strOfNums] at hb
  rw [hb.2]
  rfl
theorem read_back (more : List Int) : ∀ (r : List S66) (P : List Int) (i : Nat) (out : List S66) (s : ByteArray), (∀ x, x ∈ r → fieldES x = 0) → s = strOfNums (writeAll P r ++ more) → readR s r i P.length out = (out ++ r, ((writeAll P r).length : Int), 0)
  | [], P, i, out, s, _, _ => by simp [readR, writeAll]
  | x :: r, P, i, out, s, hr, hs => by
    have hx := hr x List.mem_cons_self
    have hd := addD_size P.length x hx
    obtain ⟨R, hR⟩ := writeAll_pre r (addField P x)
    have hw : writeAll P (x :: r) = P ++ (addD P.length x ++ R) := by
      show writeAll (addField P x) r = _
      rw [hR, addField_eq, List.append_assoc]
    have hp : s.extract P.length (P.length + fieldSize x P.length) = strOfNums (addD P.length x) := by
      rw [hs, hw, ← hd, show P ++ (addD P.length x ++ R) ++ more = P ++ (addD P.length x ++ (R ++ more)) by simp]
      exact extract_mid _ _ _
    have hsz : P.length + fieldSize x P.length ≤ s.size := by
      rw [hs, str_size, hw, ← hd]
      simp only [List.length_append]
      omega
    have ih : ∀ out' : List S66, readR s r (i + 1) (P.length + fieldSize x P.length) out' = (out' ++ r, ((writeAll P (x :: r)).length : Int), 0) := by
      intro out'
      have := read_back more r (addField P x) (i + 1) out' s (fun z hz => hr z (List.mem_cons_of_mem _ hz)) hs
      rw [addField_eq, List.length_append, hd] at this
      exact this
    have fin : ∀ y : S66, y = x → (out ++ [y] ++ r, ((writeAll P (x :: r)).length : Int), (0 : Int)) = (out ++ x :: r, ((writeAll P (x :: r)).length : Int), (0 : Int)) := by
      rintro y rfl
      simp
    unfold readR
    rw [hp]
    rcases field_ok x hx with ⟨h0, ⟨n, w, e1, e2, hw2, hn, hb⟩, h3⟩ | ⟨h0, h2, e1, hs2, h01⟩ | ⟨h0, h2, e1, hs2⟩ | ⟨h0, h2, h1, h3⟩
    · have hm : mostW x.f0 = 60 := by unfold mostW; rw [if_pos h0]
      have hnum : numB (strOfNums (addD P.length x)) = (n : Int) := by
        unfold addD
        rw [if_pos h0, e1, e2, Int.toNat_natCast, Int.toNat_natCast]
        exact numB_digN n w hw2 (Nat.lt_of_lt_of_le (lt_bitLen 62 n (Nat.lt_of_le_of_lt hn (by decide)) (by omega)) (Nat.pow_le_pow_right (by decide) hb))
      rw [if_pos (by omega), if_pos (by omega), if_pos hsz, if_pos h0, hnum, if_neg (by omega), ih]
      refine fin _ ?_
      rw [← e1, ← list_no _ h3]
    · have hm : mostW x.f0 = 32000 := by unfold mostW; rw [if_neg (by omega), if_pos h0]
      rw [if_pos (by omega), if_pos (by omega), if_pos hsz, if_neg (by omega), if_pos h0, ih]
      refine fin _ ?_
      unfold addD
      rw [if_neg (by omega), if_pos h0, str_back, ← h2]
    · have hm : mostW x.f0 = 4000 := by unfold mostW; rw [if_neg (by omega), if_neg (by omega), if_pos h0]
      rw [if_pos (by omega), if_pos (by omega), if_pos hsz, if_neg (by omega), if_neg (by omega), if_pos h0, ih]
      refine fin _ ?_
      unfold addD
      rw [if_neg (by omega), if_neg (by omega), if_pos h0, octs_back, ← h2]
    · have hm : mostW x.f0 = 0 := by unfold mostW; rw [if_neg (by omega), if_neg (by omega), if_neg (by omega)]
      have hz : zeroB (strOfNums (addD P.length x)) = true := by
        unfold addD
        rw [if_neg (by omega), if_neg (by omega), if_neg (by omega)]
        exact zeroB_rep _
      rw [if_pos (by omega), if_pos (by omega), if_pos hsz, if_neg (by omega), if_neg (by omega), if_neg (by omega), if_pos hz, ih]
      refine fin _ ?_
      rw [← h2, ← list_no _ h3]
theorem fields_back (l : List S66) (hl : (fieldsE l).2 = 0) (around : ByteArray) (h : (writeAll [] l).length + 8 * around.size ≤ 32000) : readB (strOfNums (writeAll [] l) ++ strOfNums (upk (bytesOf around))) l = (l, ((writeAll [] l).length : Int), 0) := by
  obtain ⟨h1000, hok⟩ := fieldsE_ok l hl
  rw [← str_append]
  have hE : bitsE (strOfNums (writeAll [] l ++ upk (bytesOf around))) = 0 := by
    unfold bitsE
    rw [if_neg (by rw [str_size, List.length_append, upk_length, bytesOf_length]; omega), if_pos (str_all01 _ (fun x hx => by
      rcases List.mem_append.1 hx with h | h
      · exact writeAll_is l [] hok (by simp) x h
      · exact upk_is _ x h))]
  unfold readB
  rw [if_pos hE, if_neg (by omega)]
  have := read_back (upk (bytesOf around)) l [] 0 [] _ hok rfl
  simpa using this
theorem bt_mid (A B C : ByteArray) (i : Nat) (h : i < B.size) : bt ((A ++ B) ++ C) ((A.size + i : Nat) : Int) = bt B (i : Int) := by
  rw [bt_append_left _ _ _ (by rw [ByteArray.size_append]; omega), bt_append_right _ _ _ (by omega) (by omega), Nat.add_sub_cancel_left]
theorem extract_in (A B C : ByteArray) (i j : Nat) (h : j ≤ B.size) : ((A ++ B) ++ C).extract (A.size + i) (A.size + j) = B.extract i j := by
  have hdat : ((A ++ B) ++ C).data.toList = A.data.toList ++ (B.data.toList ++ C.data.toList) := by simp [ByteArray.data_append]
  have e : A.size = A.data.toList.length := Array.length_toList.symm
  have e2 : B.size = B.data.toList.length := Array.length_toList.symm
  apply ByteArray.ext
  rw [ByteArray.data_extract, ByteArray.data_extract]
  apply Array.ext'
  rw [Array.toList_extract, Array.toList_extract, hdat, e]
  rw [e2] at h
  generalize A.data.toList = a at *
  generalize B.data.toList = b at *
  generalize C.data.toList = c at *
  simp only [List.extract_eq_take_drop]
  rw [List.drop_append, List.drop_of_length_le (by omega), List.nil_append, Nat.add_sub_cancel_left, List.drop_append, Nat.add_sub_add_left, List.take_append, List.length_drop, show j - i - (b.length - i) = 0 by omega, List.take_zero, List.append_nil]
/-- Where the septets end. -/
theorem end_at (s : ByteArray) (e : Nat) (he : e < s.size) (h1 : bt s (e : Int) < 128) : ∀ (m d i : Nat), i + m = e → i + d = s.size → (∀ j, i ≤ j → j < e → 128 ≤ bt s (j : Int)) → endF s d i = e := by
  intro m
  induction m with
  | zero =>
    intro d i hi hd _
    obtain ⟨d, rfl⟩ : ∃ d', d = d' + 1 := ⟨d - 1, by omega⟩
    obtain rfl : i = e := by omega
    unfold endF
    rw [if_pos he, if_neg (by omega)]
  | succ m ih =>
    intro d i hi hd h
    obtain ⟨d, rfl⟩ : ∃ d', d = d' + 1 := ⟨d - 1, by omega⟩
    unfold endF
    rw [if_pos (by omega), if_pos (h i (Nat.le_refl _) (by omega))]
    exact ih d (i + 1) (by omega) (by omega) (fun j h1 h2 => h j (by omega) h2)
theorem vM_ge (m : Int) (hm : 1 ≤ m) : ∀ (xs : List Int) (p : Int), Dig m xs → 0 ≤ p → p ≤ vM m xs p
  | [], p, _, _ => Int.le_refl _
  | a :: xs, p, hx, hp => by
    have ha := hx a List.mem_cons_self
    have : p * 1 ≤ p * m := Int.mul_le_mul_of_nonneg_left hm hp
    have := vM_ge m hm xs (p * m + a) hx.tail (by omega)
    simp only [vM]
    omega
theorem acc_val : ∀ (bs ds : List Int) (p : Int), bs.length = ds.length → (∀ i (h1 : i < bs.length) (h2 : i < ds.length), ∃ d : Nat, d < 256 ∧ bs[i] = (d : Int) ∧ ds[i] = ((d % 128 : Nat) : Int)) → Dig 128 ds → 0 ≤ p → vM 128 ds p ≤ 1152921504606846976 → accF bs p = some (vM 128 ds p)
  | [], [], p, _, _, _, _, _ => rfl
  | b :: bs, d :: ds, p, hl, h, hd, hp, hv => by
    obtain ⟨c, hc, e1, e2⟩ := h 0 (by simp) (by simp)
    simp only [List.getElem_cons_zero] at e1 e2
    subst e1 e2
    have hge := vM_ge 128 (by decide) ds (p * 128 + ((c % 128 : Nat) : Int)) hd.tail (by omega)
    have hv' : vM 128 ds (p * 128 + ((c % 128 : Nat) : Int)) ≤ 1152921504606846976 := hv
    unfold accF
    rw [if_neg (by omega), or7 p c hp (by omega) hc]
    exact acc_val bs ds _ (by simpa using hl) (fun i h1 h2 => by
      have := h (i + 1) (by simpa using h1) (by simpa using h2)
      simpa using this) hd.tail (by omega) hv'
  | [], d :: ds, p, hl, _, _, _, _ => by simp at hl
  | b :: bs, [], p, hl, _, _, _, _ => by simp at hl
theorem sepB_length (n : Nat) : (sepB n).length = (leD 128 n).reverse.length := by simp [sepB, leD]
theorem sepB_get (n i : Nat) (h1 : i < (sepB n).length) (h2 : i < (leD 128 n).reverse.length) : ∃ d : Nat, d < 256 ∧ (sepB n)[i] = (d : Int) ∧ (leD 128 n).reverse[i] = ((d % 128 : Nat) : Int) ∧ (128 ≤ d ↔ i + 1 < (sepB n).length) := by
  have el : (leD 128 n).reverse = (leF 128 9 (n / 128)).reverse ++ [((n % 128 : Nat) : Int)] := by simp [leD]
  have es : sepB n = ((leF 128 9 (n / 128)).reverse).map (128 + ·) ++ [((n % 128 : Nat) : Int)] := by unfold sepB; rw [List.map_reverse]
  have hlen : (sepB n).length = (leF 128 9 (n / 128)).reverse.length + 1 := by rw [es]; simp
  rw [hlen]
  rw [hlen] at h1
  have hdig : ∀ x, x ∈ (leF 128 9 (n / 128)).reverse → ∃ d : Nat, x = (d : Int) ∧ d < 128 := fun x hx => leF_lt 128 (by omega) 9 _ x (List.mem_reverse.1 hx)
  simp only [es, el]
  generalize (leF 128 9 (n / 128)).reverse = L at *
  by_cases c : i < L.length
  · obtain ⟨d, hd, hlt⟩ := hdig L[i] (List.getElem_mem c)
    refine ⟨128 + d, by omega, ?_, ?_, by omega⟩
    · rw [List.getElem_append_left (by simpa using c)]
      simp only [List.getElem_map, hd]
      omega
    · rw [List.getElem_append_left c, hd]
      omega
  · obtain rfl : i = L.length := by omega
    refine ⟨n % 128, by omega, ?_, ?_, by omega⟩
    · rw [List.getElem_append_right (by simp)]
      simp
    · rw [List.getElem_append_right (by omega)]
      simp
theorem leD128_facts (n : Nat) (hn : n ≤ 1152921504606846976) : Dig 128 (leD 128 n).reverse ∧ vM 128 (leD 128 n).reverse 0 = (n : Int) := by
  have hp : (128 : Nat) ^ 9 = 9223372036854775808 := by decide
  obtain ⟨dg, vl, _⟩ := leD_facts 128 (by decide) n (by rw [hp]; omega)
  exact ⟨dg, vl⟩
theorem septets_back (n : Nat) (hn : n ≤ 1152921504606846976) (A : ByteArray) (hA : A.size ≤ 50) : septInB ((A ++ strOfNums (sepB n)) ++ A) (A.size : Int) = ((n : Int), ((A.size + (sepB n).length : Nat) : Int), 0) := by
  have hl := leD_length 128 n
  have hsl := sepB_length n
  rw [List.length_reverse] at hsl
  have hpos : 0 < (sepB n).length := by rw [hsl]; simp [leD]
  obtain ⟨dg, vl⟩ := leD128_facts n hn
  have hsz : ((A ++ strOfNums (sepB n)) ++ A).size = A.size + (sepB n).length + A.size := by rw [ByteArray.size_append, ByteArray.size_append, str_size]
  have hbt : ∀ i, i < (sepB n).length → ∃ d : Nat, d < 256 ∧ bt ((A ++ strOfNums (sepB n)) ++ A) ((A.size + i : Nat) : Int) = (d : Int) ∧ (128 ≤ d ↔ i + 1 < (sepB n).length) := by
    intro i hi
    obtain ⟨d, h1, h2, _, h4⟩ := sepB_get n i hi (by rw [← sepB_length]; exact hi)
    refine ⟨d, h1, ?_, h4⟩
    rw [bt_mid _ _ _ _ (by rw [str_size]; exact hi), bt_str _ (sepB_byte n) i hi, h2]
  have hE : endF ((A ++ strOfNums (sepB n)) ++ A) (((A ++ strOfNums (sepB n)) ++ A).size - A.size) A.size = A.size + (sepB n).length - 1 := by
    obtain ⟨d, _, hd, hd2⟩ := hbt ((sepB n).length - 1) (by omega)
    rw [show A.size + ((sepB n).length - 1) = A.size + (sepB n).length - 1 by omega] at hd
    refine end_at _ _ (by omega) (by rw [hd]; omega) ((sepB n).length - 1) _ A.size (by omega) (by omega) (fun j h1 h2 => ?_)
    obtain ⟨c, _, hc, hc2⟩ := hbt (j - A.size) (by omega)
    rw [show A.size + (j - A.size) = j by omega] at hc
    rw [hc]
    omega
  unfold septInB
  have hP : placeE ((A ++ strOfNums (sepB n)) ++ A) (A.size : Int) = 0 := by
    unfold placeE
    rw [if_neg (by omega), if_pos (by omega)]
  have hfirst : ¬ ((A.size : Int) < (((A ++ strOfNums (sepB n)) ++ A).size : Int) ∧ bt ((A ++ strOfNums (sepB n)) ++ A) (A.size : Int) = 128) := by
    rintro ⟨_, h8⟩
    obtain ⟨d, q1, q2, q3, q4⟩ := sepB_get n 0 hpos (by rw [← sepB_length]; exact hpos)
    have hb : bt ((A ++ strOfNums (sepB n)) ++ A) (A.size : Int) = (d : Int) := by
      have := bt_mid A (strOfNums (sepB n)) A 0 (by rw [str_size]; exact hpos)
      rw [Nat.add_zero] at this
      rw [this]
      have h0 := bt_str _ (sepB_byte n) 0 hpos
      rw [h0, q2]
    rw [hb] at h8
    have hp : (128 : Nat) ^ 9 = 9223372036854775808 := by decide
    rcases (leD_facts 128 (by decide) n (by rw [hp]; omega)).2.2 with h1 | ⟨x, r, e, hx, _⟩
    · rw [hsl] at q4
      omega
    · simp only [e, List.getElem_cons_zero] at q3
      omega
  rw [if_pos hP, Int.toNat_natCast, hE, if_neg hfirst, if_neg (by omega), show A.size + (sepB n).length - 1 + 1 = A.size + (sepB n).length by omega]
  have hx : ((A ++ strOfNums (sepB n)) ++ A).extract A.size (A.size + (sepB n).length) = strOfNums (sepB n) := by
    have h := extract_in A (strOfNums (sepB n)) A 0 (sepB n).length (by rw [str_size]; exact Nat.le_refl _)
    rw [Nat.add_zero] at h
    rw [h, ← str_size (sepB n), ByteArray.extract_zero_size]
  rw [hx, bytes_back _ (sepB_byte n), acc_val (sepB n) (leD 128 n).reverse 0 (sepB_length n) (fun i h1 h2 => by
    obtain ⟨d, q1, q2, q3, _⟩ := sepB_get n i h1 h2
    exact ⟨d, q1, q2, q3⟩) dg (by decide) (by rw [vl]; omega), vl]
  simp only [sepEnd]
  rw [if_neg (by omega)]
  congr 2
  omega
theorem val_zeros : ∀ (d : Nat) (ys : List Int), val (List.replicate d 0 ++ ys) 0 = val ys 0
  | 0, _ => rfl
  | d + 1, ys => val_zeros d ys
theorem lenB_byte (n extra : Nat) (hn : n ≤ 1152921504606846976) (he : extra ≤ 3) : AllByte (lenB n extra) := fun x hx => by
  have hl := leD_length 256 n
  unfold lenB at hx
  split at hx
  · have : x = (n : Int) := by simpa using hx
    omega
  · rcases List.mem_cons.1 hx with rfl | hx
    · split <;> omega
    · rcases List.mem_append.1 hx with h | h
      · have := List.eq_of_mem_replicate h
        omega
      · exact leD_byte n hn x h
theorem length_back (n extra : Nat) (hn : n ≤ 1152921504606846976) (he : extra ≤ 3) (A : ByteArray) (hA : A.size ≤ 50) : lenInB ((A ++ strOfNums (lenB n extra)) ++ A) (A.size : Int) = ((n : Int), ((A.size + (lenB n extra).length : Nat) : Int), 0) := by
  have hl := leD_length 256 n
  have hpos : 0 < (lenB n extra).length := by unfold lenB; split <;> simp
  have hlen : (lenB n extra).length ≤ 14 := by
    unfold lenB
    split
    · simp
    · simp only [List.length_cons, List.length_append, List.length_replicate, List.length_reverse]
      split <;> omega
  have hby := lenB_byte n extra hn he
  have hsz : ((A ++ strOfNums (lenB n extra)) ++ A).size = A.size + (lenB n extra).length + A.size := by rw [ByteArray.size_append, ByteArray.size_append, str_size]
  have hP : placeE ((A ++ strOfNums (lenB n extra)) ++ A) (A.size : Int) = 0 := by
    unfold placeE
    rw [if_neg (by omega), if_pos (by omega)]
  have hb : bt ((A ++ strOfNums (lenB n extra)) ++ A) (A.size : Int) = (lenB n extra)[0] := by
    have := bt_mid A (strOfNums (lenB n extra)) A 0 (by rw [str_size]; exact hpos)
    rw [Nat.add_zero] at this
    rw [this]
    exact bt_str _ hby 0 hpos
  unfold lenInB
  rw [if_pos hP, if_neg (by omega), hb]
  by_cases c : n < 128 ∧ extra = 0
  · have e : lenB n extra = [(n : Int)] := by unfold lenB; rw [if_pos c]
    simp only [e, List.getElem_cons_zero]
    rw [if_pos (by omega)]
    simp
  · obtain ⟨z, hz⟩ : ∃ z, (if n < 128 then extra - 1 else extra) = z := ⟨_, rfl⟩
    have hz3 : z ≤ 3 := by rw [← hz]; split <;> omega
    have e : lenB n extra = (128 + ((z + (leD 256 n).length : Nat) : Int)) :: (List.replicate z 0 ++ (leD 256 n).reverse) := by unfold lenB; rw [if_neg c, hz]
    have hd : 1 ≤ (leD 256 n).length := by simp [leD]
    have hll : (lenB n extra).length = 1 + z + (leD 256 n).length := by rw [e]; simp; omega
    have hx := extract_in A (strOfNums (lenB n extra)) A 1 (lenB n extra).length (by rw [str_size]; exact Nat.le_refl _)
    have htail : (strOfNums (lenB n extra)).extract 1 (lenB n extra).length = strOfNums (List.replicate z 0 ++ (leD 256 n).reverse) := by
      have h := extract_mid [(128 + ((z + (leD 256 n).length : Nat) : Int))] (List.replicate z 0 ++ (leD 256 n).reverse) []
      rw [List.append_nil] at h
      have e3 : 1 + (List.replicate z (0 : Int) ++ (leD 256 n).reverse).length = (lenB n extra).length := by rw [hll]; simp; omega
      rw [← e3, e]
      exact h
    rw [htail] at hx
    have hvb : AllByte (List.replicate z 0 ++ (leD 256 n).reverse) := fun x hx => hby x (by rw [e]; exact List.mem_cons_of_mem _ hx)
    have hp : (256 : Nat) ^ 9 = 4722366482869645213696 := by decide
    obtain ⟨_, vl, _⟩ := leD_facts 256 (by decide) n (by rw [hp]; omega)
    have hval : val (bytesOf (strOfNums (List.replicate z 0 ++ (leD 256 n).reverse))) 0 = (n : Int) := by
      rw [bytes_back _ hvb, val_zeros, val_vM]
      exact vl
    have hfst : (lenB n extra)[0] = 128 + ((z + (leD 256 n).length : Nat) : Int) := by simp only [e, List.getElem_cons_zero]
    rw [hfst]
    rw [if_neg (by omega), if_neg (by omega), if_neg (by omega), if_neg (by rw [hsz]; omega)]
    rw [Int.toNat_natCast, show A.size + 1 + (128 + ((z + (leD 256 n).length : Nat) : Int)).toNat - 128 = A.size + (lenB n extra).length by rw [hll]; omega, hx, hval]
    unfold numR lenEnd
    rw [if_pos (show InMax (n : Int) from ⟨by omega, by omega⟩)]
    simp only [if_true]
    congr 2
    rw [hll]
    omega
theorem fragOfB_is (n : Nat) (x : Int) (hx : x ∈ fragOfB n) : x = 48 ∨ x = 49 := by
  unfold fragOfB at hx
  split at hx
  · rcases List.mem_cons.1 hx with rfl | hx
    · exact .inl rfl
    · exact digN_is _ _ _ hx
  · rcases List.mem_cons.1 hx with rfl | hx
    · exact .inr rfl
    · rcases List.mem_cons.1 hx with rfl | hx
      · exact .inl rfl
      · exact digN_is _ _ _ hx
theorem fragment_back (n : Nat) (hn : n ≤ 16383) : fragB (strOfNums (fragOfB n)) 0 = ((n : Int), ((fragOfB n).length : Int), 0) := by
  have hby : AllByte (fragOfB n) := fun x hx => by
    have := fragOfB_is n x hx
    omega
  have hlen : (fragOfB n).length = if n < 128 then 8 else 16 := by
    unfold fragOfB
    split <;> simp [digN_length]
  have hE : bitsE (strOfNums (fragOfB n)) = 0 := by
    unfold bitsE
    rw [if_neg (by rw [str_size, hlen]; split <;> omega), if_pos (str_all01 _ (fragOfB_is n))]
  have hself : (strOfNums (fragOfB n)).extract (0 : Int).toNat (strOfNums (fragOfB n)).size = strOfNums (fragOfB n) := by
    rw [Int.toNat_zero, ByteArray.extract_zero_size]
  unfold fragB
  rw [if_pos hE, if_pos (by omega)]
  simp only [hself]
  simp only [str_size, hlen]
  by_cases c : n < 128
  · have e : fragOfB n = 48 :: digN n 7 := by unfold fragOfB; rw [if_pos c]
    have b0 : bt (strOfNums (fragOfB n)) 0 = 48 := by
      have := bt_str _ hby 0 (by rw [hlen, if_pos c]; omega)
      rw [show ((0 : Nat) : Int) = 0 from rfl] at this
      rw [this]
      simp only [e, List.getElem_cons_zero]
    have hx : (strOfNums (fragOfB n)).extract 1 8 = strOfNums (digN n 7) := by
      have h := extract_mid [48] (digN n 7) []
      rw [List.append_nil, digN_length] at h
      rw [e]
      exact h
    simp only [if_pos c, b0, hx]
    rw [if_neg (by omega), if_neg (by omega), numB_digN n 7 (by omega) (by omega)]
    rw [show wrap64 (0 + 8) = 8 by simp [wrap64]]
    rfl
  · have e : fragOfB n = 49 :: 48 :: digN n 14 := by unfold fragOfB; rw [if_neg c]
    have b0 : bt (strOfNums (fragOfB n)) 0 = 49 := by
      have := bt_str _ hby 0 (by rw [hlen, if_neg c]; omega)
      rw [show ((0 : Nat) : Int) = 0 from rfl] at this
      rw [this]
      simp only [e, List.getElem_cons_zero]
    have b1 : bt (strOfNums (fragOfB n)) 1 = 48 := by
      have := bt_str _ hby 1 (by rw [hlen, if_neg c]; omega)
      rw [show ((1 : Nat) : Int) = 1 from rfl] at this
      rw [this]
      simp only [e, List.getElem_cons_succ, List.getElem_cons_zero]
    have hx : (strOfNums (fragOfB n)).extract 2 16 = strOfNums (digN n 14) := by
      have h := extract_mid [49, 48] (digN n 14) []
      rw [List.append_nil, digN_length] at h
      rw [e]
      exact h
    simp only [if_neg c, b0, b1, hx]
    rw [if_neg (by omega), if_pos trivial, if_neg (by omega), if_neg (by decide), numB_digN n 14 (by omega) (by omega), if_neg (by omega)]
    rw [show wrap64 (0 + 16) = 16 by simp [wrap64]]
    rfl
end Go.Proofs.YthicmbhldjebfaaDoor.PA
