/- Chapter 43: journals as lists of blocks: what writing in part makes of them, plainly. -/
import Derived.Test.YtgflelipamofoaaDoorHP6
import Derived.Test.YtgflelipamofoaaDoorHE
namespace Go.Proofs.YtgflelipamofoaaDoor.PA
open Go Go.RowKit Go.Proofs.YtgflelipamofoaaDoorW.PrintWords Go.Proofs.YtgflelipamofoaaDoorW.PrintLast Go.Proofs.YtgflelipamofoaaDoorW.PrintMore
set_option linter.unusedVariables false
set_option linter.unusedSimpArgs false
/-- Bytes as numbers. -/
def Rng (xs : List Int) : Prop := ∀ x ∈ xs, 0 ≤ x ∧ x ≤ 255
theorem bytesOf_strOfNums (xs : List Int) (h : Rng xs) : bytesOf (strOfNums xs) = xs := by
  unfold bytesOf strOfNums
  rw [List.map_map]
  conv => rhs; rw [← List.map_id xs]
  apply List.map_congr_left
  intro x hx
  obtain ⟨h0, h1⟩ := h x hx
  simp
  omega
theorem bt_strOfNums (xs : List Int) (h : Rng xs) (i : Int) : bt (strOfNums xs) i = rd xs i := by
  rw [← rd_bytesOf, bytesOf_strOfNums xs h]
/-- Right blocks: of 32 bytes. -/
def Good (bs : List (List Int)) : Prop := ∀ b ∈ bs, b.length = 32 ∧ Rng b
theorem Good.get {bs : List (List Int)} (h : Good bs) (i : Nat) (hi : i < bs.length) : bs[i].length = 32 ∧ Rng bs[i] := h _ (List.getElem_mem hi)
theorem Good.rng {bs : List (List Int)} (h : Good bs) : Rng bs.flatten := by
  intro x hx
  obtain ⟨b, hb, hx⟩ := List.mem_flatten.1 hx
  exact (h b hb).2 x hx
theorem Good.length {bs : List (List Int)} (h : Good bs) : bs.flatten.length = 32 * bs.length := by
  induction bs with
  | nil => rfl
  | cons b r ih =>
    have := ih (fun c hc => h c (by simp [hc]))
    have hb := (h b (by simp)).1
    simp only [List.flatten_cons, List.length_append, List.length_cons, this, hb]
    omega
theorem Good.take {bs : List (List Int)} (h : Good bs) (n : Nat) : Good (bs.take n) := fun b hb => h b (List.mem_of_mem_take hb)
theorem Good.drop {bs : List (List Int)} (h : Good bs) (n : Nat) : Good (bs.drop n) := fun b hb => h b (List.mem_of_mem_drop hb)
theorem Good.append {a b : List (List Int)} (h : Good a) (h2 : Good b) : Good (a ++ b) := by
  intro c hc
  rcases List.mem_append.1 hc with hc | hc
  · exact h c hc
  · exact h2 c hc
/-- 32 zeros, as numbers. -/
def Z32 : List Int := List.replicate 32 0
theorem Z32_good : Z32.length = 32 ∧ Rng Z32 := ⟨rfl, fun x hx => by have := List.eq_of_mem_replicate hx; omega⟩
theorem good_zeros (n : Nat) : Good (List.replicate n Z32) := fun b hb => by rw [List.eq_of_mem_replicate hb]; exact Z32_good
theorem Good.set {bs : List (List Int)} (h : Good bs) (i : Nat) (b : List Int) (hb : b.length = 32 ∧ Rng b) : Good (bs.set i b) := by
  intro c hc
  rcases List.mem_or_eq_of_mem_set hc with hc | rfl
  · exact h c hc
  · exact hb
theorem flat_split (bs : List (List Int)) (h : Good bs) (i : Nat) (hi : i < bs.length) : bs.flatten = (bs.take i).flatten ++ (bs[i] ++ (bs.drop (i + 1)).flatten) ∧ (bs.take i).flatten.length = 32 * i := by
  refine ⟨?_, ?_⟩
  · have e : bs.take i ++ bs[i] :: bs.drop (i + 1) = bs := by rw [← List.drop_eq_getElem_cons hi, List.take_append_drop]
    conv => lhs; rw [← e]
    rw [List.flatten_append, List.flatten_cons]
  · rw [(h.take i).length, List.length_take, Nat.min_eq_left (by omega)]
theorem flat_at (bs : List (List Int)) (h : Good bs) (i : Nat) (hi : i < bs.length) : (bs.flatten.take (32 * i + 32)).drop (32 * i) = bs[i] := by
  obtain ⟨e, hl⟩ := flat_split bs h i hi
  have hb := (h.get i hi).1
  rw [e, List.take_append, hl, List.take_of_length_le (l := (bs.take i).flatten) (by omega), show 32 * i + 32 - 32 * i = 32 by omega, List.take_append, hb, List.take_of_length_le (l := bs[i]) (by omega), Nat.sub_self, List.take_zero, List.append_nil, List.drop_append, hl, List.drop_eq_nil_of_le (by omega), Nat.sub_self]
  rfl
/-- The journal of blocks. -/
def strB (bs : List (List Int)) : ByteArray := strOfNums bs.flatten
theorem strB_size (bs : List (List Int)) (h : Good bs) : (strB bs).size = 32 * bs.length := by rw [strB, strOfNums_size, h.length]
theorem blocks_strB (bs : List (List Int)) (h : Good bs) : blocksB (strB bs) = bs.map strOfNums := by
  have hs := strB_size bs h
  apply List.ext_getElem
  · rw [blocks_length, hs, List.length_map]; omega
  · intro i h1 h2
    rw [blocks_get, List.getElem_map, chunkB, strB, strOfNums_extract, flat_at bs h i (by simpa using h2)]
theorem bytes_strB (bs : List (List Int)) (h : Good bs) : bytesOf (strB bs) = bs.flatten := bytesOf_strOfNums _ h.rng
/-- A write at a block of the list. -/
theorem splice_at (bs : List (List Int)) (h : Good bs) (i : Nat) (hi : i < bs.length) (c : List Int) (hc : c.length ≤ 32) : splice bs.flatten (32 * i) c = (bs.set i (c ++ bs[i].drop c.length)).flatten := by
  obtain ⟨e, hl⟩ := flat_split bs h i hi
  have hb := (h.get i hi).1
  rw [List.set_eq_take_append_cons_drop, if_pos hi]
  unfold splice
  conv => lhs; rw [e]
  rw [List.take_append, hl, List.take_of_length_le (l := (bs.take i).flatten) (by omega), Nat.sub_self, List.take_zero, List.append_nil, List.drop_append, hl, show (bs.take i).flatten.drop (32 * i + c.length) = [] from List.drop_eq_nil_of_le (by omega), List.nil_append, show 32 * i + c.length - 32 * i = c.length by omega, List.drop_append, hb, show c.length - 32 = 0 by omega, List.drop_zero]
  simp
def padB (bs : List (List Int)) (i : Nat) : List (List Int) := bs ++ List.replicate (i + 1 - bs.length) Z32
theorem padB_good {bs : List (List Int)} (h : Good bs) (i : Nat) : Good (padB bs i) := h.append (good_zeros _)
theorem padB_length (bs : List (List Int)) (i : Nat) : (padB bs i).length = max bs.length (i + 1) := by simp [padB]; omega
theorem flat_zeros (n : Nat) : (List.replicate n Z32).flatten = List.replicate (32 * n) 0 := by
  induction n with
  | zero => rfl
  | succ n ih => rw [List.replicate_succ, List.flatten_cons, ih, Z32, List.replicate_append_replicate, show 32 + 32 * n = 32 * (n + 1) by omega]
theorem padB_flat {bs : List (List Int)} (h : Good bs) (i : Nat) : (padB bs i).flatten = if bs.flatten.length < i * 32 + 32 then bs.flatten ++ List.replicate (i * 32 + 32 - bs.flatten.length) 0 else bs.flatten := by
  rw [padB, List.flatten_append, flat_zeros, h.length]
  split
  · rw [show 32 * (i + 1 - bs.length) = i * 32 + 32 - 32 * bs.length by omega]
  · rw [show 32 * (i + 1 - bs.length) = 0 by omega]
    simp
theorem wrOne_pad (bs : List (List Int)) (h : Good bs) (i : Nat) (B : ByteArray) (hB : B.size = 32) (k : Int) (h0 : 0 ≤ k) (h1 : k ≤ 32) (hk : k ≠ 0) :
    wrOne bs.flatten ⟨(i : Int), B⟩ k = ((padB bs i).set i ((bytesOf B).take k.toNat ++ ((padB bs i)[i]'(by rw [padB_length]; omega)).drop k.toNat)).flatten := by
  have hb : (bytesOf B).length = 32 := by rw [bytesOf_length, hB]
  have hp := padB_flat h i
  unfold wrOne
  simp only [if_neg hk, Int.toNat_natCast]
  rw [← hp]
  have := splice_at (padB bs i) (padB_good h i) i (by rw [padB_length]; omega) ((bytesOf B).take k.toNat) (by rw [List.length_take]; omega)
  rw [List.length_take, hb, Nat.min_eq_left (by omega)] at this
  rw [← this, Nat.mul_comm]
/-- A block whose first k bytes became zeros. -/
def zb (b : List Int) (k : Nat) : List Int := List.replicate k 0 ++ b.drop k
theorem zb_zero (b : List Int) : zb b 0 = b := by simp [zb]
theorem zb_all (b : List Int) (h : b.length = 32) : zb b 32 = Z32 := by
  unfold zb Z32
  rw [List.drop_eq_nil_of_le (by omega), List.append_nil]
theorem zb_zb (b : List Int) (h : b.length = 32) (k j : Nat) : zb (zb b k) j = zb b (max j k) := by
  unfold zb
  rw [List.drop_append, List.drop_replicate, List.drop_drop, List.length_replicate, ← List.append_assoc, List.replicate_append_replicate]
  by_cases c : j ≤ k
  · rw [Nat.max_eq_right c, show j - k = 0 by omega, show j + (k - j) = k by omega]
    rfl
  · rw [Nat.max_eq_left (by omega), show k - j = 0 by omega, show k + (j - k) = j by omega, Nat.add_zero]
theorem zb_good {b : List Int} (h : b.length = 32 ∧ Rng b) (k : Nat) (hk : k ≤ 32) : (zb b k).length = 32 ∧ Rng (zb b k) := by
  refine ⟨by simp [zb, h.1]; omega, fun x hx => ?_⟩
  rcases List.mem_append.1 hx with hx | hx
  · have := List.eq_of_mem_replicate hx; omega
  · exact h.2 x (List.mem_of_mem_drop hx)
theorem zeroB_bytes : bytesOf zeroB = Z32 := bytesOf_strOfNums _ Z32_good.2
theorem zeroB_size : zeroB.size = 32 := by rw [zeroB, strOfNums_size, List.length_replicate]
/-- Zeros are written in part: each block has some first bytes zeroed; one that is not written stays; one that is written whole is zero. -/
theorem wr_zeros : ∀ (l : List S66) (ks : List Int) (bs : List (List Int)), Good bs → ks.length = l.length → (∀ x ∈ l, ∃ i : Nat, x = ⟨(i : Int), zeroB⟩ ∧ i < bs.length) → (∀ k ∈ ks, 0 ≤ k ∧ k ≤ 32) →
    ∃ cs, wrAll bs.flatten l ks = cs.flatten ∧ Good cs ∧ cs.length = bs.length ∧ ∀ i (h : i < bs.length) (h2 : i < cs.length), ∃ k, k ≤ 32 ∧ cs[i] = zb bs[i] k ∧ ((∀ x ∈ l, x.f0 ≠ (i : Int)) → k = 0) ∧ ((∀ q ∈ ks, q = 32) → (∃ x ∈ l, x.f0 = (i : Int)) → k = 32)
  | [], ks, bs, hg, hl, hx, hk => ⟨bs, by rw [wrAll_nil], hg, rfl, fun i h h2 => ⟨0, by omega, (zb_zero _).symm, fun _ => rfl, fun _ ⟨x, hx, _⟩ => by simp at hx⟩⟩
  | x :: l, [], bs, hg, hl, hx, hk => by simp at hl
  | x :: l, k :: ks, bs, hg, hl, hx, hk => by
    obtain ⟨j, rfl, hj⟩ := hx x (by simp)
    obtain ⟨k0, k1⟩ := hk k (by simp)
    have hone : wrOne bs.flatten ⟨(j : Int), zeroB⟩ k = (bs.set j (zb bs[j] k.toNat)).flatten := by
      by_cases c : k = 0
      · subst c
        unfold wrOne
        rw [if_pos rfl, show (0 : Int).toNat = 0 from rfl, zb_zero, List.set_getElem_self]
      · rw [wrOne_pad bs hg j zeroB zeroB_size k k0 k1 c]
        have hp : padB bs j = bs := by rw [padB, show j + 1 - bs.length = 0 by omega]; simp
        simp only [hp, zeroB_bytes, zb]
        rw [Z32, List.take_replicate, Nat.min_eq_left (by omega)]
    have hg1 : Good (bs.set j (zb bs[j] k.toNat)) := hg.set j _ (zb_good (hg.get j hj) _ (by omega))
    obtain ⟨cs, e, hc, hcl, hci⟩ := wr_zeros l ks _ hg1 (by simpa using hl) (fun y hy => by
      obtain ⟨i, rfl, hi⟩ := hx y (by simp [hy])
      exact ⟨i, rfl, by rw [List.length_set]; exact hi⟩) (fun q hq => hk q (by simp [hq]))
    rw [List.length_set] at hcl
    refine ⟨cs, by rw [wrAll, hone, e], hc, hcl, fun i h h2 => ?_⟩
    obtain ⟨q, hq, e1, e2, e3⟩ := hci i (by rw [List.length_set]; exact h) h2
    by_cases c : j = i
    · subst c
      rw [List.getElem_set_self, zb_zb _ (hg.get j h).1] at e1
      refine ⟨max q k.toNat, by omega, e1, fun hn => absurd rfl (hn ⟨(j : Int), zeroB⟩ (by simp)), fun ha _ => ?_⟩
      have := ha k (by simp)
      omega
    · rw [List.getElem_set_ne c] at e1
      refine ⟨q, hq, e1, fun hn => e2 fun y hy => hn y (by simp [hy]), fun ha ⟨y, hy, hyi⟩ => e3 (fun r hr => ha r (by simp [hr])) ?_⟩
      rcases List.mem_cons.1 hy with rfl | hy
      · exact absurd (Int.ofNat.inj hyi) c
      · exact ⟨y, hy, hyi⟩
end Go.Proofs.YtgflelipamofoaaDoor.PA
