/- Chapter 08: what the printed functions compute, plainly: fields, their errors and what is written. -/
import Derived.Test.YthicmbhldjebfaaDoorPAx14
import Derived.Test.YthicmbhldjebfaaDoorHP2
namespace Go.Proofs.YthicmbhldjebfaaDoor.PA
open Go Go.RowKit Go.Proofs.YthicmbhldjebfaaDoorW.PrintWords Go.Proofs.YthicmbhldjebfaaDoorW.PrintLast Go.Proofs.YthicmbhldjebfaaDoorW.PrintMore
set_option linter.unusedVariables false
set_option linter.unusedSimpArgs false
theorem len_eq (n : Nat) (hn : n ≤ 1152921504606846976) : bits_Len.f (IntKind.u64.wrap (n : Int)) = some ((Lib.bitLen n : Nat) : Int) := by
  have hw : IntKind.u64.wrap (n : Int) = (n : Int) := by
    simp [IntKind.wrap, IntKind.bits, IntKind.signed]
    omega
  unfold bits_Len.f
  rw [hw, if_pos (by omega), if_pos (by omega), Int.toNat_natCast]
def mostW (k : Int) : Int := if k = 0 then 60 else if k = 1 then 32000 else if k = 2 then 4000 else 0
theorem mostWidth_eq (k : Int) : bits_mostWidth.f k = some (mostW k) := by
  unfold bits_mostWidth.f mostW
  split
  · rfl
  · split
    · rfl
    · split <;> rfl
/-- The error of a field, from its width on. -/
def fieldE2 (f0 f1 f2 : Int) (f3 : ByteArray) : Int :=
  if 0 ≤ f1 ∧ f1 ≤ mostW f0 then
    (if f0 = 0 ∧ ¬ (0 ≤ f2 ∧ f2 ≤ 1152921504606846976 ∧ (Lib.bitLen f2.toNat : Int) ≤ f1) then 3
     else if (f0 = 1 ∨ f0 = 2) ∧ ¬ (f3.size : Int) = f1 then 19
     else if f0 = 1 ∧ ¬ all01 f3 = true then 5 else 0)
  else 3
/-- The error of a field. -/
def fieldE (f0 f1 f2 : Int) (f3 : ByteArray) : Int :=
  if 0 ≤ f0 ∧ f0 ≤ 3 then
    (if ¬ f0 = 0 ∧ ¬ f2 = 0 then 5 else if ¬ (f0 = 1 ∨ f0 = 2) ∧ ¬ f3.toList = [] then 5 else if f0 = 3 ∧ ¬ f1 = 0 then 5 else fieldE2 f0 f1 f2 f3)
  else 4
theorem isBits_eq (s : ByteArray) (h : s.size ≤ 9223372036854775807) : bits_isBits.f s = some (all01 s) := by
  unfold bits_isBits.f
  rw [if_pos h]
theorem fieldErr_two (f0 f1 f2 : Int) (f3 : ByteArray) (x4 : Bool) (hx4 : x4 = true ↔ f0 = 1 ∨ f0 = 2) (hs : f3.size ≤ 9223372036854775807) (k : Nat) (hk : 3 ≤ k) : bits_fieldErr.j2 k (f0 == 0) x4 false f0 f1 f2 f3 = some (fieldE2 f0 f1 f2 f3) := by
  obtain ⟨k, rfl⟩ : ∃ k', k = k' + 3 := ⟨k - 3, by omega⟩
  have tail : ∀ (k : Nat), bits_fieldErr.j3 (k + 2) x4 false f0 f1 f2 f3 = some (if (f0 = 1 ∨ f0 = 2) ∧ ¬ (f3.size : Int) = f1 then 19 else if f0 = 1 ∧ ¬ all01 f3 = true then 5 else 0) := by
    intro k
    simp only [bits_fieldErr.j3, bits_fieldErr.j4, Bool.false_eq_true, if_false, isBits_eq f3 hs, Option.bind_some]
    by_cases h1 : f0 = 1 <;> by_cases h2 : f0 = 2 <;> by_cases b : (f3.size : Int) = f1 <;> cases hall : all01 f3 <;> cases x4 <;> simp_all
  have bad : ∀ (k : Nat), bits_fieldErr.j3 (k + 2) x4 true f0 f1 f2 f3 = some 3 := by
    intro k
    simp only [bits_fieldErr.j3, if_true]
  simp only [bits_fieldErr.j2, Bool.false_eq_true, if_false, mostWidth_eq, Option.bind_some, bits_within_eq]
  unfold fieldE2
  by_cases a : 0 ≤ f1 ∧ f1 ≤ mostW f0
  · rw [if_pos (decide_eq_true a), if_pos a]
    by_cases b : f0 = 0
    · rw [if_pos (show (f0 == 0) = true by simp [b])]
      by_cases c : 0 ≤ f2 ∧ f2 ≤ 1152921504606846976
      · rw [if_pos (decide_eq_true c)]
        obtain ⟨n, rfl⟩ := Int.eq_ofNat_of_zero_le c.1
        rw [len_eq n (by omega), Option.bind_some, Int.toNat_natCast]
        by_cases d : (Lib.bitLen n : Int) ≤ f1
        · rw [decide_eq_false (by omega), tail k]
          rw [if_neg (show ¬ (f0 = 0 ∧ ¬ (0 ≤ (n : Int) ∧ (n : Int) ≤ 1152921504606846976 ∧ (Lib.bitLen n : Int) ≤ f1)) from fun h => h.2 ⟨c.1, c.2, d⟩)]
        · rw [decide_eq_true (by omega), bad k, if_pos (show f0 = 0 ∧ ¬ (0 ≤ (n : Int) ∧ (n : Int) ≤ 1152921504606846976 ∧ (Lib.bitLen n : Int) ≤ f1) from ⟨b, fun h => d h.2.2⟩)]
      · rw [if_neg (show ¬ decide (0 ≤ f2 ∧ f2 ≤ 1152921504606846976) = true by simpa using c), bad k, if_pos (show f0 = 0 ∧ ¬ (0 ≤ f2 ∧ f2 ≤ 1152921504606846976 ∧ (Lib.bitLen f2.toNat : Int) ≤ f1) from ⟨b, fun h => c ⟨h.1, h.2.1⟩⟩)]
    · rw [if_neg (show ¬ (f0 == 0) = true by simp [b]), tail k]
      rw [if_neg (show ¬ (f0 = 0 ∧ ¬ (0 ≤ f2 ∧ f2 ≤ 1152921504606846976 ∧ (Lib.bitLen f2.toNat : Int) ≤ f1)) from fun h => b h.1)]
  · rw [if_neg (show ¬ decide (0 ≤ f1 ∧ f1 ≤ mostW f0) = true by simpa using a), if_neg a]
theorem fieldErr_eq (f0 f1 f2 : Int) (f3 : ByteArray) (hs : f3.size ≤ 9223372036854775807) (k : Nat) (hk : 10 ≤ k) : bits_fieldErr.f k f0 f1 f2 f3 = some (fieldE f0 f1 f2 f3) := by
  obtain ⟨k, rfl⟩ : ∃ k', k = k' + 5 := ⟨k - 5, by omega⟩
  have go : ∀ x4 : Bool, (x4 = true ↔ f0 = 1 ∨ f0 = 2) → bits_fieldErr.j0 (k + 5) (f0 == 0) x4 f0 f1 f2 f3 = some (fieldE f0 f1 f2 f3) := by
    intro x4 hx
    have two := fieldErr_two f0 f1 f2 f3 x4 hx hs (k + 3) (by omega)
    have five : bits_fieldErr.j2 (k + 3) (f0 == 0) x4 true f0 f1 f2 f3 = some 5 := by simp only [bits_fieldErr.j2, if_true]
    simp only [bits_fieldErr.j0, bits_within_eq, Option.bind_some]
    unfold fieldE
    by_cases a : 0 ≤ f0 ∧ f0 ≤ 3
    · rw [if_pos (decide_eq_true a), if_pos a]
      have one : bits_fieldErr.j1 (k + 4) (f0 == 0) x4 false f0 f1 f2 f3 = some (if ¬ (f0 = 1 ∨ f0 = 2) ∧ ¬ f3.toList = [] then 5 else if f0 = 3 ∧ ¬ f1 = 0 then 5 else fieldE2 f0 f1 f2 f3) := by
        simp only [bits_fieldErr.j1, Bool.false_eq_true, if_false]
        have last : (if f0 = 3 then (bits_fieldErr.j2 (k + 3) (f0 == 0) x4 (f1 != 0) f0 f1 f2 f3) else (bits_fieldErr.j2 (k + 3) (f0 == 0) x4 false f0 f1 f2 f3)) = some (if f0 = 3 ∧ ¬ f1 = 0 then 5 else fieldE2 f0 f1 f2 f3) := by
          by_cases c : f0 = 3
          · rw [if_pos c]
            by_cases d : f1 = 0
            · rw [show (f1 != 0) = false by simp [d], two, if_neg (show ¬ (f0 = 3 ∧ ¬ f1 = 0) from fun h => h.2 d)]
            · rw [show (f1 != 0) = true by simp [d], five, if_pos (show f0 = 3 ∧ ¬ f1 = 0 from ⟨c, d⟩)]
          · rw [if_neg c, two, if_neg (show ¬ (f0 = 3 ∧ ¬ f1 = 0) from fun h => c h.1)]
        by_cases b : f0 = 1 ∨ f0 = 2
        · rw [if_pos (hx.2 b), if_neg (show ¬ (¬ (f0 = 1 ∨ f0 = 2) ∧ ¬ f3.toList = []) from fun h => h.1 b), last]
        · rw [if_neg (show ¬ x4 = true from fun h => b (hx.1 h))]
          by_cases e : f3.toList = []
          · rw [if_pos e, if_neg (show ¬ (¬ (f0 = 1 ∨ f0 = 2) ∧ ¬ f3.toList = []) from fun h => h.2 e), last]
          · rw [if_neg e, show (f3.toList != ([] : List UInt8)) = true by simp [e], five, if_pos (show ¬ (f0 = 1 ∨ f0 = 2) ∧ ¬ f3.toList = [] from ⟨b, e⟩)]
      have oneT : bits_fieldErr.j1 (k + 4) (f0 == 0) x4 true f0 f1 f2 f3 = some 5 := by simp only [bits_fieldErr.j1, if_true, five]
      by_cases b : f0 = 0
      · rw [if_pos (show (f0 == 0) = true by simp [b]), one, if_neg (show ¬ (¬ f0 = 0 ∧ ¬ f2 = 0) from fun h => h.1 b)]
      · rw [if_neg (show ¬ (f0 == 0) = true by simp [b])]
        by_cases c : f2 = 0
        · rw [show (f2 != 0) = false by simp [c], one, if_neg (show ¬ (¬ f0 = 0 ∧ ¬ f2 = 0) from fun h => h.2 c)]
        · rw [show (f2 != 0) = true by simp [c], oneT, if_pos (show ¬ f0 = 0 ∧ ¬ f2 = 0 from ⟨b, c⟩)]
    · rw [if_neg (show ¬ decide (0 ≤ f0 ∧ f0 ≤ 3) = true by simpa using a), if_neg a]
  unfold bits_fieldErr.f
  by_cases h : f0 = 1
  · rw [if_pos h]
    exact go true (by simp [h])
  · rw [if_neg h]
    exact go (f0 == 2) (by simp [h])
def fieldES (x : S66) : Int := fieldE x.f0 x.f1 x.f2 x.f3
/-- The index and the error of the first wrong field. -/
def fieldsFrom : List S66 → Nat → Int × Int
  | [], _ => (0, 0)
  | x :: r, i => if fieldES x = 0 then fieldsFrom r (i + 1) else ((i : Int), fieldES x)
theorem rd_drop (l : List S66) (i : Nat) (x : S66) (r : List S66) (h : l.drop i = x :: r) : i < l.length ∧ rd_T66 l (i : Int) = x ∧ l.drop (i + 1) = r := by
  have hi : i < l.length := by
    rcases Nat.lt_or_ge i l.length with h' | h'
    · exact h'
    · rw [List.drop_of_length_le h'] at h; cases h
  rw [List.drop_eq_getElem_cons hi] at h
  obtain ⟨h1, h2⟩ := List.cons.inj h
  refine ⟨hi, ?_, h2⟩
  unfold rd_T66
  rw [Int.toNat_natCast]
  simp [hi, h1]
/-- All texts are of a size. -/
def Sized (l : List S66) : Prop := ∀ x, x ∈ l → x.f3.size ≤ 9223372036854775807
theorem checkFields_loop (l : List S66) (hz : Sized l) (hl : l.length ≤ 1000000) : ∀ (r : List S66) (i : Nat), l.drop i = r → Ev (fun k => bits_CheckFields.l0 k l (l.length : Int) (i : Int)) (fieldsFrom r i) := by
  intro r
  induction r with
  | nil =>
    intro i h
    have hi : l.length ≤ i := List.drop_eq_nil_iff.1 h
    refine ev_succ ?_
    simp only [bits_CheckFields.l0, if_neg (show ¬ (i : Int) < (l.length : Int) by omega)]
    exact Ev.now _
  | cons x r ih =>
    intro i h
    obtain ⟨hi, hx, hr⟩ := rd_drop l i x r h
    have hm : x ∈ l := by
      have : x ∈ l.drop i := by rw [h]; exact List.mem_cons_self
      exact List.mem_of_mem_drop this
    refine ev_succ ?_
    simp only [bits_CheckFields.l0, if_pos (show (i : Int) < (l.length : Int) by omega), if_pos (show 0 ≤ (i : Int) by omega), hx, wrap_succ hi (by omega)]
    refine Ev.bind (ev_some 10 (fun k hk => fieldErr_eq x.f0 x.f1 x.f2 x.f3 (hz x hm) k hk)) ?_
    unfold fieldsFrom
    show Ev _ (if fieldE x.f0 x.f1 x.f2 x.f3 = 0 then _ else _)
    by_cases e : fieldE x.f0 x.f1 x.f2 x.f3 = 0
    · simp only [if_pos e]
      exact ih (i + 1) hr
    · simp only [if_neg e]
      exact Ev.now _
def fieldsE (l : List S66) : Int × Int := if (l.length : Int) > 1000 then (0, 2) else fieldsFrom l 0
theorem checkFields_eq (l : List S66) (hz : Sized l) : Ev (fun k => bits_CheckFields.f k l) (fieldsE l) := by
  unfold bits_CheckFields.f fieldsE
  by_cases h : (l.length : Int) > 1000
  · simp only [if_pos h]; exact Ev.now _
  · simp only [if_neg h]; exact checkFields_loop l hz (by omega) l 0 rfl
theorem fieldsFrom_ok : ∀ (l : List S66) (i : Nat), (fieldsFrom l i).2 = 0 → ∀ x, x ∈ l → fieldES x = 0
  | [], _, _, x, hx => by cases hx
  | y :: r, i, h, x, hx => by
    unfold fieldsFrom at h
    by_cases e : fieldES y = 0
    · rw [if_pos e] at h
      rcases List.mem_cons.1 hx with rfl | hx
      · exact e
      · exact fieldsFrom_ok r (i + 1) h x hx
    · rw [if_neg e] at h
      exact absurd h e
theorem fieldsE_ok (l : List S66) (h : (fieldsE l).2 = 0) : l.length ≤ 1000 ∧ ∀ x, x ∈ l → fieldES x = 0 := by
  unfold fieldsE at h
  by_cases c : (l.length : Int) > 1000
  · rw [if_pos c] at h; simp at h
  · rw [if_neg c] at h
    exact ⟨by omega, fieldsFrom_ok l 0 h⟩
/-- A right field. -/
theorem field_ok (x : S66) (h : fieldES x = 0) : (x.f0 = 0 ∧ (∃ n w : Nat, x.f2 = (n : Int) ∧ x.f1 = (w : Int) ∧ w ≤ 60 ∧ n ≤ 1152921504606846976 ∧ Lib.bitLen n ≤ w) ∧ x.f3.toList = []) ∨ (x.f0 = 1 ∧ x.f2 = 0 ∧ x.f1 = (x.f3.size : Int) ∧ x.f3.size ≤ 32000 ∧ all01 x.f3 = true) ∨ (x.f0 = 2 ∧ x.f2 = 0 ∧ x.f1 = (x.f3.size : Int) ∧ x.f3.size ≤ 4000) ∨ (x.f0 = 3 ∧ x.f2 = 0 ∧ x.f1 = 0 ∧ x.f3.toList = []) := by
  unfold fieldES fieldE at h
  split at h
  · rename_i a
    split at h
    · simp at h
    · rename_i b
      split at h
      · simp at h
      · rename_i c
        split at h
        · simp at h
        · rename_i d
          unfold fieldE2 at h
          split at h
          · rename_i e
            split at h
            · simp at h
            · rename_i f
              split at h
              · simp at h
              · rename_i g
                split at h
                · simp at h
                · rename_i i
                  unfold mostW at e
                  by_cases h0 : x.f0 = 0
                  · refine .inl ⟨h0, ?_, ?_⟩
                    · rw [if_pos h0] at e
                      have f2 : 0 ≤ x.f2 ∧ x.f2 ≤ 1152921504606846976 ∧ (Lib.bitLen x.f2.toNat : Int) ≤ x.f1 := by
                        by_cases q : 0 ≤ x.f2 ∧ x.f2 ≤ 1152921504606846976 ∧ (Lib.bitLen x.f2.toNat : Int) ≤ x.f1
                        · exact q
                        · exact absurd ⟨h0, q⟩ f
                      exact ⟨x.f2.toNat, x.f1.toNat, by omega, by omega, by omega, by omega, by omega⟩
                    · by_cases q : x.f3.toList = []
                      · exact q
                      · exact absurd ⟨by omega, q⟩ c
                  · have h2 : x.f2 = 0 := by
                      by_cases q : x.f2 = 0
                      · exact q
                      · exact absurd ⟨h0, q⟩ b
                    rw [if_neg h0] at e
                    by_cases h1 : x.f0 = 1
                    · rw [if_pos h1] at e
                      have hs : (x.f3.size : Int) = x.f1 := by
                        by_cases q : (x.f3.size : Int) = x.f1
                        · exact q
                        · exact absurd ⟨.inl h1, q⟩ g
                      have ha : all01 x.f3 = true := by
                        by_cases q : all01 x.f3 = true
                        · exact q
                        · exact absurd ⟨h1, q⟩ i
                      exact .inr (.inl ⟨h1, h2, by omega, by omega, ha⟩)
                    · rw [if_neg h1] at e
                      by_cases h3 : x.f0 = 2
                      · rw [if_pos h3] at e
                        have hs : (x.f3.size : Int) = x.f1 := by
                          by_cases q : (x.f3.size : Int) = x.f1
                          · exact q
                          · exact absurd ⟨.inr h3, q⟩ g
                        exact .inr (.inr (.inl ⟨h3, h2, by omega, by omega⟩))
                      · have h4 : x.f0 = 3 := by omega
                        have ht : x.f3.toList = [] := by
                          by_cases q : x.f3.toList = []
                          · exact q
                          · exact absurd ⟨by omega, q⟩ c
                        have h5 : x.f1 = 0 := by
                          by_cases q : x.f1 = 0
                          · exact q
                          · exact absurd ⟨h4, q⟩ d
                        exact .inr (.inr (.inr ⟨h4, h2, h5, ht⟩))
          · simp at h
  · simp at h
/-- What a field adds to bits. -/
def addField (xs : List Int) (x : S66) : List Int :=
  xs ++ (if x.f0 = 0 then digN x.f2.toNat x.f1.toNat else if x.f0 = 1 then bytesOf x.f3 else if x.f0 = 2 then upk (bytesOf x.f3) else List.replicate ((8 - xs.length % 8) % 8) 48)
def writeAll (xs : List Int) (l : List S66) : List Int := l.foldl addField xs
theorem addField_le (xs : List Int) (x : S66) : xs.length ≤ (addField xs x).length := by
  unfold addField
  rw [List.length_append]
  omega
theorem writeAll_le : ∀ (l : List S66) (xs : List Int), xs.length ≤ (writeAll xs l).length
  | [], xs => Nat.le_refl _
  | x :: l, xs => Nat.le_trans (addField_le xs x) (writeAll_le l (addField xs x))
theorem addField_bound (xs : List Int) (x : S66) (h : fieldES x = 0) : (addField xs x).length ≤ xs.length + 32000 := by
  unfold addField
  rw [List.length_append]
  rcases field_ok x h with ⟨h0, ⟨n, w, e1, e2, hw, hn, hb⟩, _⟩ | ⟨h0, _, e1, hs, _⟩ | ⟨h0, _, e1, hs⟩ | ⟨h0, _, _, _⟩
  · rw [if_pos h0, digN_length]; omega
  · rw [if_neg (by omega), if_pos h0, bytesOf_length]; omega
  · rw [if_neg (by omega), if_neg (by omega), if_pos h0, upk_length, bytesOf_length]; omega
  · rw [if_neg (by omega), if_neg (by omega), if_neg (by omega), List.length_replicate]; omega
theorem pad_loop (l : List S66) (n i : Int) (g : Nat → List Int → Option (ByteArray × Int)) (hg : ∀ k xs, xs.length % 8 = 0 → bits_WriteFields.l1 (k + 1) xs l n i = g k xs) : ∀ (d : Nat) (xs : List Int), d = (8 - xs.length % 8) % 8 → xs.length ≤ 100000 → ∀ k, bits_WriteFields.l1 (k + d + 1) xs l n i = g k (xs ++ List.replicate d 48) := by
  intro d
  induction d with
  | zero =>
    intro xs hd hx k
    rw [List.replicate_zero, List.append_nil]
    exact hg k xs (by omega)
  | succ d ih =>
    intro xs hd hx k
    rw [show k + (d + 1) + 1 = (k + d + 1) + 1 by omega]
    unfold bits_WriteFields.l1
    rw [if_neg (by omega), if_pos (by omega), ih (xs ++ [48]) (by simp; omega) (by simp; omega) k]
    rw [List.append_assoc, List.replicate_succ]
    rfl
theorem str_append (xs ys : List Int) : strOfNums (xs ++ ys) = strOfNums xs ++ strOfNums ys := by
  apply ByteArray.ext
  rw [ByteArray.data_append]
  simp [strOfNums]
def writeR (xs : List Int) (l : List S66) : ByteArray × Int := if (writeAll xs l).length > 32000 then (⟨#[]⟩, 2) else (strOfNums (writeAll xs l), 0)
theorem writeFields_loop (l : List S66) (hl : l.length ≤ 1000) : ∀ (r : List S66) (i : Nat) (xs : List Int), l.drop i = r → (∀ x, x ∈ r → fieldES x = 0) → xs.length ≤ 32000 → Ev (fun k => bits_WriteFields.l0 k xs l (l.length : Int) (i : Int)) (writeR xs r) := by
  intro r
  induction r with
  | nil =>
    intro i xs h _ hx
    have hi : l.length ≤ i := List.drop_eq_nil_iff.1 h
    refine ev_succ ?_
    simp only [bits_WriteFields.l0, if_neg (show ¬ (i : Int) < (l.length : Int) by omega)]
    unfold writeR
    rw [if_neg (show ¬ (writeAll xs []).length > 32000 from by show ¬ xs.length > 32000; omega)]
    exact Ev.now _
  | cons x r ih =>
    intro i xs h hok hx
    obtain ⟨hi, hrd, hr⟩ := rd_drop l i x r h
    have hxo := hok x List.mem_cons_self
    have hbd := addField_bound xs x hxo
    have next : Ev (fun k => if ((addField xs x).length : Int) > 32000 then (some ((⟨#[]⟩ : ByteArray), (2 : Int))) else (bits_WriteFields.l0 k (addField xs x) l (l.length : Int) (wrap64 ((i : Int) + 1)))) (writeR xs (x :: r)) := by
      by_cases c : ((addField xs x).length : Int) > 32000
      · simp only [if_pos c]
        unfold writeR
        have := writeAll_le r (addField xs x)
        rw [if_pos (show (writeAll xs (x :: r)).length > 32000 from by show (writeAll (addField xs x) r).length > 32000; omega)]
        exact Ev.now _
      · simp only [if_neg c, wrap_succ hi (by omega)]
        exact ih (i + 1) (addField xs x) hr (fun y hy => hok y (List.mem_cons_of_mem _ hy)) (by omega)
    refine ev_succ ?_
    simp only [bits_WriteFields.l0, if_pos (show (i : Int) < (l.length : Int) by omega), if_pos (show 0 ≤ (i : Int) by omega), hrd]
    rcases field_ok x hxo with ⟨h0, ⟨n, w, e1, e2, hw, hn, hb⟩, _⟩ | ⟨h0, _, e1, hs, _⟩ | ⟨h0, _, e1, hs⟩ | ⟨h0, _, _, _⟩
    · simp only [if_pos h0, e1, e2]
      refine Ev.bind (ev_some 61 (fun k hk => digits_eq n w (by omega) (by omega) k (by omega) xs (by omega))) ?_
      have e : xs ++ digN n w = addField xs x := by unfold addField; rw [if_pos h0, e1, e2, Int.toNat_natCast, Int.toNat_natCast]
      rw [e]
      exact next
    · simp only [if_neg (show ¬ x.f0 = 0 by omega), if_pos h0, if_pos (show xs.length + x.f3.size < 140737488355328 by omega), Option.bind_some]
      have e : xs ++ bytesOf x.f3 = addField xs x := by unfold addField; rw [if_neg (by omega), if_pos h0]
      rw [e]
      exact next
    · simp only [if_neg (show ¬ x.f0 = 0 by omega), if_neg (show ¬ x.f0 = 1 by omega), if_pos h0, unpack_eq x.f3 (by omega), Option.bind_some]
      have hsz : (strOfNums (upk (bytesOf x.f3))).size ≤ 32000 := by rw [str_size, upk_length, bytesOf_length]; omega
      simp only [if_pos (show xs.length + (strOfNums (upk (bytesOf x.f3))).size < 140737488355328 by omega), bytes_back _ (upk_byte _)]
      have e : xs ++ upk (bytesOf x.f3) = addField xs x := by unfold addField; rw [if_neg (by omega), if_neg (by omega), if_pos h0]
      rw [e]
      exact next
    · simp only [if_neg (show ¬ x.f0 = 0 by omega), if_neg (show ¬ x.f0 = 1 by omega), if_neg (show ¬ x.f0 = 2 by omega), if_pos h0]
      have e : xs ++ List.replicate ((8 - xs.length % 8) % 8) 48 = addField xs x := by unfold addField; rw [if_neg (by omega), if_neg (by omega), if_neg (by omega)]
      have hp := pad_loop l (l.length : Int) (i : Int) (fun k ys => if (ys.length : Int) > 32000 then (some ((⟨#[]⟩ : ByteArray), (2 : Int))) else (bits_WriteFields.l0 k ys l (l.length : Int) (wrap64 ((i : Int) + 1)))) (fun k ys hy => by unfold bits_WriteFields.l1; rw [if_pos (by omega)]) _ xs rfl (by omega)
      rw [e] at hp
      obtain ⟨K, hK⟩ := next
      refine ⟨K + 100, fun k hk => ?_⟩
      have := hp (k - (8 - xs.length % 8) % 8 - 1)
      rw [show k - (8 - xs.length % 8) % 8 - 1 + (8 - xs.length % 8) % 8 + 1 = k by omega] at this
      show bits_WriteFields.l1 k xs l (l.length : Int) (i : Int) = _
      rw [this]
      exact hK _ (by omega)
theorem writeFields_ok (l : List S66) (hz : Sized l) (h : (fieldsE l).2 = 0) : Ev (fun k => bits_WriteFields.f k l) (writeR [] l) := by
  obtain ⟨hl, hok⟩ := fieldsE_ok l h
  unfold bits_WriteFields.f
  refine Ev.bind (checkFields_eq l hz) ?_
  simp only [if_pos h]
  exact writeFields_loop l hl l 0 [] rfl hok (by simp)
theorem writeFields_err (l : List S66) (hz : Sized l) (h : ¬ (fieldsE l).2 = 0) : Ev (fun k => bits_WriteFields.f k l) (⟨#[]⟩, (fieldsE l).2) := by
  unfold bits_WriteFields.f
  refine Ev.bind (checkFields_eq l hz) ?_
  simp only [if_neg h]
  exact Ev.now _
theorem own_fields (l : List S66) (h : l.length ≤ 1005) : examinerref08_OwnFields.f l = some l := by
  unfold examinerref08_OwnFields.f
  simp only [Option.bind_some, List.nil_append, List.length_nil]
  rw [if_pos (by omega)]
/-- Few fields, with short texts. -/
def fewB (l : List S66) : Bool := (decide (l.length ≤ 20) || (decide (1000 < l.length) && decide (l.length ≤ 1005))) && l.all fun x => decide (x.f3.size ≤ 300)
theorem few_loop (l : List S66) (hl : l.length ≤ 1000000) : ∀ (r : List S66) (i : Nat), l.drop i = r → Ev (fun k => examinerlaw08_few.l0 k l (i : Int)) (r.all fun x => decide (x.f3.size ≤ 300)) := by
  intro r
  induction r with
  | nil =>
    intro i h
    have hi : l.length ≤ i := List.drop_eq_nil_iff.1 h
    refine ev_succ ?_
    simp only [examinerlaw08_few.l0, if_neg (show ¬ (i : Int) < (l.length : Int) by omega)]
    exact Ev.now _
  | cons x r ih =>
    intro i h
    obtain ⟨hi, hx, hr⟩ := rd_drop l i x r h
    refine ev_succ ?_
    simp only [examinerlaw08_few.l0, if_pos (show (i : Int) < (l.length : Int) by omega), if_pos (show 0 ≤ (i : Int) by omega), hx, wrap_succ hi (show l.length ≤ 9223372036854775807 by omega), List.all_cons]
    by_cases c : (x.f3.size : Int) > 300
    · simp only [if_pos c, decide_eq_false (show ¬ x.f3.size ≤ 300 by omega), Bool.false_and]
      exact Ev.now _
    · simp only [if_neg c, decide_eq_true (show x.f3.size ≤ 300 by omega), Bool.true_and]
      exact ih (i + 1) hr
theorem few_eq (l : List S66) : Ev (fun k => examinerlaw08_few.f k l) (fewB l) := by
  unfold examinerlaw08_few.f fewB
  have yes : Ev (fun k => examinerlaw08_few.j0 k l true) false := by
    refine ev_succ ?_
    simp only [examinerlaw08_few.j0, if_true]
    exact Ev.now _
  have no : l.length ≤ 1000000 → Ev (fun k => examinerlaw08_few.j0 k l false) (l.all fun x => decide (x.f3.size ≤ 300)) := by
    intro h
    refine ev_succ ?_
    simp only [examinerlaw08_few.j0, Bool.false_eq_true, if_false]
    exact few_loop l h l 0 rfl
  by_cases a : (l.length : Int) > 20
  · simp only [if_pos a, decide_eq_false (show ¬ l.length ≤ 20 by omega), Bool.false_or]
    by_cases b : (l.length : Int) ≤ 1000
    · simp only [if_pos b, decide_eq_false (show ¬ 1000 < l.length by omega), Bool.false_and]
      exact yes
    · simp only [if_neg b, decide_eq_true (show 1000 < l.length by omega), Bool.true_and]
      by_cases c : (l.length : Int) > 1005
      · simp only [decide_eq_true c, decide_eq_false (show ¬ l.length ≤ 1005 by omega), Bool.false_and]
        exact yes
      · simp only [decide_eq_false c, decide_eq_true (show l.length ≤ 1005 by omega), Bool.true_and]
        exact no (by omega)
  · simp only [if_neg a, decide_eq_true (show l.length ≤ 20 by omega), Bool.true_or, Bool.true_and]
    simp only [decide_eq_false (show ¬ (l.length : Int) > 1005 by omega)]
    exact no (by omega)
theorem fewB_ok (l : List S66) (h : fewB l = true) : l.length ≤ 1005 ∧ Sized l := by
  unfold fewB at h
  rw [Bool.and_eq_true] at h
  refine ⟨?_, fun x hx => ?_⟩
  · have := h.1
    simp at this
    omega
  · have := List.all_eq_true.1 h.2 x hx
    simp at this
    omega
end Go.Proofs.YthicmbhldjebfaaDoor.PA
