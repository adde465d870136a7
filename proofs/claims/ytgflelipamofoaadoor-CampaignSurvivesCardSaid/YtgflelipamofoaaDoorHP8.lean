/- Chapter 43: records that a power failure cut, and what is read of a journal then, plainly. -/
import Derived.Test.YtgflelipamofoaaDoorHP7
namespace Go.Proofs.YtgflelipamofoaaDoor.PA
open Go Go.RowKit Go.Proofs.YtgflelipamofoaaDoorW.PrintWords Go.Proofs.YtgflelipamofoaaDoorW.PrintLast Go.Proofs.YtgflelipamofoaaDoorW.PrintMore
set_option linter.unusedVariables false
set_option linter.unusedSimpArgs false
/-- The block of an entry. -/
def blkOf (e : S57) : List Int := blkNums e.f0 e.f1 e.f2 e.f3
theorem blkOf_good (e : S57) (h : entE e = 0) : (blkOf e).length = 32 ∧ Rng (blkOf e) := by
  obtain ⟨o1, o2, o3, o4, o5, o6, o7, o8, _⟩ := ent_ok h
  refine ⟨blkNums_length _ _ _ _ o2, fun x hx => ?_⟩
  unfold blkOf blkNums at hx
  simp only [List.mem_append, List.mem_cons, List.not_mem_nil, or_false] at hx
  have hb : ∀ j, 0 ≤ bkNum e.f1 j ∧ bkNum e.f1 j ≤ 255 := fun j => by unfold bkNum; omega
  rcases hx with ((( rfl | rfl) | hx) | (rfl | rfl | rfl | rfl | rfl | rfl | rfl | rfl)) | hx
  · omega
  · omega
  · obtain ⟨b, _, rfl⟩ := List.mem_map.1 hx
    have := b.toNat_lt
    omega
  · exact hb 0
  · exact hb 1
  · exact hb 2
  · exact hb 3
  · exact hb 4
  · omega
  · omega
  · omega
  · have := List.eq_of_mem_replicate hx; omega
theorem rd_cut (xs : List Int) (a b j : Nat) (h : a + j < b) : rd ((xs.take b).drop a) (j : Int) = rd xs ((a + j : Nat) : Int) := by
  unfold rd
  simp only [Int.toNat_natCast, List.getD_eq_getElem?_getD, List.getElem?_drop, List.getElem?_take, if_pos h]
theorem rng_cut {xs : List Int} (h : Rng xs) (a b : Nat) : Rng ((xs.take b).drop a) := fun x hx => h x (List.mem_of_mem_take (List.mem_of_mem_drop hx))
def okB (xs : List Int) : Bool := (entOf (strOfNums xs)).2.2.2.2
theorem okB_says (xs : List Int) (hl : xs.length = 32) (hr : Rng xs) (h : okB xs = true) : rd xs 0 = 165 ∧ ∃ n : Nat, rd xs 1 = n ∧ 1 ≤ n ∧ n ≤ 22 ∧ rd xs ((n + 9 : Nat) : Int) = 90 := by
  unfold okB entOf at h
  split at h
  · rename_i c
    simp only [okRest, Bool.and_eq_true, decide_eq_true_eq] at h
    unfold nmOf at c h
    split at c
    · rename_i d
      rw [if_pos d] at h
      simp only at c h
      rw [bt_strOfNums xs hr, bt_strOfNums xs hr] at d
      rw [bt_strOfNums xs hr] at c h
      obtain ⟨d0, d1⟩ := d
      have hp : 0 ≤ rd xs 1 := by rw [← bt_strOfNums xs hr]; exact (bt_range _ _).1
      obtain ⟨n, hn⟩ := Int.eq_ofNat_of_zero_le hp
      rw [hn, Int.toNat_natCast] at c h
      rw [hn] at d1
      have hs := (ent_ok h.2).1
      simp only [ByteArray.size_extract, strOfNums_size, hl] at hs c
      refine ⟨d0, n, hn, by omega, by omega, ?_⟩
      have h7 := h.1.1
      rw [strOfNums_extract, bt_strOfNums _ (rng_cut hr _ _), strOfNums_size, hl] at h7
      have := rd_cut xs (2 + n) 32 7 (by omega)
      rw [show 2 + n + 7 = n + 9 by omega] at this
      rw [← this]
      exact h7
    · simp at c
  · simp at h
/-- A block of which so many first bytes were kept, over zeros. -/
def tornB (e : S57) (k : Nat) : List Int := (blkOf e).take k ++ List.replicate (32 - k) 0
theorem tornB_zero (e : S57) : tornB e 0 = Z32 := by simp [tornB, Z32]
theorem tornB_all (e : S57) (h : entE e = 0) : tornB e 32 = blkOf e := by
  have := (blkOf_good e h).1
  unfold tornB
  rw [List.take_of_length_le (by omega), Nat.sub_self]
  simp
theorem tornB_good (e : S57) (h : entE e = 0) (k : Nat) (hk : k ≤ 32) : (tornB e k).length = 32 ∧ Rng (tornB e k) := by
  have hb := blkOf_good e h
  refine ⟨by simp [tornB, hb.1]; omega, fun x hx => ?_⟩
  rcases List.mem_append.1 hx with hx | hx
  · exact hb.2 x (List.mem_of_mem_take hx)
  · have := List.eq_of_mem_replicate hx; omega
theorem rd_torn (e : S57) (h : entE e = 0) (k : Nat) (hk : k ≤ 32) (i : Nat) : rd (tornB e k) (i : Int) = if i < k then rd (blkOf e) (i : Int) else 0 := by
  have hb := (blkOf_good e h).1
  unfold rd tornB
  simp only [Int.toNat_natCast, List.getD_eq_getElem?_getD]
  by_cases c : i < k
  · rw [if_pos c, List.getElem?_append_left (by rw [List.length_take]; omega), List.getElem?_take, if_pos c]
  · rw [if_neg c, List.getElem?_append_right (by rw [List.length_take]; omega), List.getElem?_replicate]
    split <;> rfl
theorem blk_first (e : S57) : rd (blkOf e) 0 = 165 ∧ rd (blkOf e) 1 = (e.f0.size : Int) := by
  unfold blkOf blkNums rd
  simp
theorem torn_ok (e : S57) (h : entE e = 0) (k : Nat) (hk : k ≤ 32) (ho : okB (tornB e k) = true) : tornB e k = blkOf e := by
  have hg := tornB_good e h k hk
  obtain ⟨h0, n, h1, hn1, hn2, h9⟩ := okB_says _ hg.1 hg.2 ho
  obtain ⟨b0, b1⟩ := blk_first e
  have r0 := rd_torn e h k hk 0
  have r1 := rd_torn e h k hk 1
  have r9 := rd_torn e h k hk (n + 9)
  rw [show ((0 : Nat) : Int) = 0 from rfl, h0] at r0
  rw [show ((1 : Nat) : Int) = 1 from rfl, h1, b1] at r1
  rw [h9] at r9
  have c1 : 1 < k := by
    rcases Nat.lt_or_ge 1 k with c | c
    · exact c
    · rw [if_neg (by omega)] at r1; omega
  rw [if_pos c1] at r1
  have c9 : n + 9 < k := by
    rcases Nat.lt_or_ge (n + 9) k with c | c
    · exact c
    · rw [if_neg (by omega)] at r9; omega
  have hs : e.f0.size = n := by omega
  unfold tornB blkOf
  rw [blk_rec, hs, List.take_append, recNums_length, hs, List.take_of_length_le (by rw [recNums_length]; omega), List.take_replicate, List.append_assoc, List.replicate_append_replicate, show min (k - (10 + n)) (22 - n) + (32 - k) = 22 - n by omega]
theorem all0_rep (n : Nat) : all0 (strOfNums (List.replicate n 0)) = true := by
  rw [← all0_zeros _ n (by rw [strOfNums_size, List.length_replicate])]
  exact beq_self_eq_true _
theorem ent_blk (e : S57) (h : entE e = 0) : entOf (strOfNums (blkOf e)) = (e.f0, e.f1, e.f2, e.f3, true) := by
  obtain ⟨o1, o2, o3, o4, o5, o6, o7, o8, _⟩ := ent_ok h
  obtain ⟨hl, hr⟩ := blkOf_good e h
  obtain ⟨b0, b1⟩ := blk_first e
  obtain ⟨R, hR⟩ : ∃ R, [bkNum e.f1 0, bkNum e.f1 1, bkNum e.f1 2, bkNum e.f1 3, bkNum e.f1 4, e.f2, e.f3, 90] ++ List.replicate (22 - e.f0.size) 0 = R := ⟨_, rfl⟩
  have hx : blkOf e = [165, (e.f0.size : Int)] ++ (bytesOf e.f0 ++ R) := by
    rw [← hR]; unfold blkOf blkNums; simp
  have hbl := bytesOf_length e.f0
  have hRl : R.length = 30 - e.f0.size := by rw [← hR]; simp; omega
  have hRr : Rng R := fun x hx' => hr x (by rw [hx]; simp [hx'])
  have hnm : nmOf (strOfNums (blkOf e)) = (e.f0, strOfNums R, true) := by
    unfold nmOf
    rw [bt_strOfNums _ hr, bt_strOfNums _ hr, b0, b1, if_pos ⟨rfl, by omega⟩, Int.toNat_natCast, strOfNums_extract, strOfNums_extract, strOfNums_size, hl]
    have e1 : ((blkOf e).take (2 + e.f0.size)).drop 2 = bytesOf e.f0 := by
      rw [hx, Nat.add_comm, List.take_append, List.drop_append]
      simp [hbl]
    have e2 : ((blkOf e).take 32).drop (2 + e.f0.size) = R := by
      rw [List.take_of_length_le (by omega), hx, List.drop_append, List.drop_append, List.drop_eq_nil_of_le (by simp)]
      simp [hbl]
    rw [e1, e2, strOfNums_bytes]
  have hd : digB (strOfNums R) 5 = e.f1 := by
    simp only [digB, bt_strOfNums _ hRr]
    rw [← hR]
    simp only [rd, bkNum]
    simp
    omega
  have h5 : bt (strOfNums R) 5 = e.f2 := by rw [bt_strOfNums _ hRr, ← hR]; simp [rd]
  have h6 : bt (strOfNums R) 6 = e.f3 := by rw [bt_strOfNums _ hRr, ← hR]; simp [rd]
  have h7 : bt (strOfNums R) 7 = 90 := by rw [bt_strOfNums _ hRr, ← hR]; simp [rd]
  have h8 : all0 ((strOfNums R).extract 8 (strOfNums R).size) = true := by
    rw [strOfNums_extract, strOfNums_size, List.take_length, ← hR]
    simp only [List.cons_append, List.nil_append, List.drop_succ_cons, List.drop_zero]
    exact all0_rep _
  unfold entOf
  rw [hnm]
  simp only
  rw [if_pos ⟨trivial, by rw [strOfNums_size, hRl]; omega⟩, hd, h5, h6, okRest, h7, h8, hd, h5, h6]
  have : (⟨e.f0, e.f1, e.f2, e.f3⟩ : S57) = e := rfl
  rw [this, h]
  rfl
theorem okB_blk (e : S57) (h : entE e = 0) : okB (blkOf e) = true := by unfold okB; rw [ent_blk e h]
/-- What is read, where the first m blocks are those of entries, and no entry follows. -/
theorem ents_pre : ∀ (m : Nat) (es : List S57) (bs : List (List Int)), (∀ x ∈ es, entE x = 0) → m ≤ bs.length → m ≤ es.length → (∀ i (h : i < bs.length) (h2 : i < es.length), i < m → bs[i] = blkOf es[i]) → (∀ h : m < bs.length, okB bs[m] = false) →
    entsL (bs.map strOfNums) = es.take m
  | 0, es, [], hok, hb, he, hp, hn => by simp [entsL]
  | 0, es, b :: bs, hok, hb, he, hp, hn => by
    have := hn (by simp)
    unfold okB at this
    simp only [List.getElem_cons_zero] at this
    rw [List.map_cons, entsL, if_neg (by rw [this]; simp), List.take_zero]
  | m + 1, [], bs, hok, hb, he, hp, hn => by simp at he
  | m + 1, e :: es, [], hok, hb, he, hp, hn => by simp at hb
  | m + 1, e :: es, b :: bs, hok, hb, he, hp, hn => by
    have h0 := hp 0 (by simp) (by simp) (by omega)
    simp only [List.getElem_cons_zero] at h0
    have ho := hok e (by simp)
    rw [List.map_cons, entsL, h0, ent_blk e ho, if_pos rfl, List.take_succ_cons,
      ents_pre m es bs (fun x hx => hok x (by simp [hx])) (by simpa using hb) (by simpa using he) (fun i h h2 hi => by
        have := hp (i + 1) (by simpa using h) (by simpa using h2) (by omega)
        simpa using this) (fun h => by
        have := hn (by simpa using h)
        simpa using this)]
theorem torn_ents : ∀ (es : List S57) (bs : List (List Int)), (∀ x ∈ es, entE x = 0) → bs.length ≤ es.length → (∀ i (h : i < bs.length) (h2 : i < es.length), ∃ k, k ≤ 32 ∧ bs[i] = tornB es[i] k) →
    ∃ m, m ≤ bs.length ∧ (∀ i (h : i < bs.length) (h2 : i < es.length), i < m → bs[i] = blkOf es[i]) ∧ (∀ h : m < bs.length, okB bs[m] = false)
  | es, [], hok, hl, ht => ⟨0, by simp, fun i h => by simp at h, fun h => by simp at h⟩
  | [], b :: bs, hok, hl, ht => by simp at hl
  | e :: es, b :: bs, hok, hl, ht => by
    by_cases c : okB b = true
    · obtain ⟨m, hm, hp, hn⟩ := torn_ents es bs (fun x hx => hok x (by simp [hx])) (by simpa using hl) (fun i h h2 => by
        have := ht (i + 1) (by simpa using h) (by simpa using h2)
        simpa using this)
      obtain ⟨k, hk, hb⟩ := ht 0 (by simp) (by simp)
      simp only [List.getElem_cons_zero] at hb
      have hbe : b = blkOf e := by
        rw [hb] at c ⊢
        exact torn_ok e (hok e (by simp)) k hk c
      refine ⟨m + 1, by simpa using hm, fun i h h2 hi => ?_, fun h => by simpa using hn (by simpa using h)⟩
      match i with
      | 0 => simpa using hbe
      | i + 1 => simpa using hp i (by simpa using h) (by simpa using h2) (by omega)
    · exact ⟨0, by simp, fun i _ _ h => by omega, fun _ => by simpa using c⟩
/-- Appending in part. -/
theorem wr_torn (n : Nat) : ∀ (l : List S57) (ks : List Int) (i : Nat) (es : List S57) (bs : List (List Int)), Good bs → ks.length = l.length → l = es.drop (n + i) → (∀ x ∈ es, entE x = 0) → bs.length ≤ n + i → bs.length ≤ es.length → (∀ j (h : j < bs.length) (h2 : j < es.length), ∃ k, k ≤ 32 ∧ bs[j] = tornB es[j] k) → (∀ k ∈ ks, 0 ≤ k ∧ k ≤ 32) →
    ∃ cs, wrAll bs.flatten (wrFrom n l i) ks = cs.flatten ∧ Good cs ∧ bs.length ≤ cs.length ∧ cs.length ≤ es.length ∧ (∀ j (h : j < cs.length) (h2 : j < es.length), ∃ k, k ≤ 32 ∧ cs[j] = tornB es[j] k) ∧ (∀ j (h : j < bs.length) (h2 : j < cs.length), cs[j] = bs[j])
  | [], ks, i, es, bs, hg, hks, hl, hok, hb, hbe, ht, hk => ⟨bs, by rw [wrFrom, wrAll_nil], hg, Nat.le_refl _, hbe, ht, fun _ _ _ => rfl⟩
  | x :: l, [], i, es, bs, hg, hks, hl, hok, hb, hbe, ht, hk => by simp at hks
  | x :: l, k :: ks, i, es, bs, hg, hks, hl, hok, hb, hbe, ht, hk => by
    have hne : n + i < es.length := by
      rcases Nat.lt_or_ge (n + i) es.length with c | c
      · exact c
      · rw [List.drop_eq_nil_of_le c] at hl; simp at hl
    rw [List.drop_eq_getElem_cons hne] at hl
    obtain ⟨hx, hl⟩ := List.cons.inj hl
    obtain ⟨k0, k1⟩ := hk k (by simp)
    have hks' : ks.length = l.length := by simpa using hks
    have hk' : ∀ q ∈ ks, 0 ≤ q ∧ q ≤ 32 := fun q hq => hk q (by simp [hq])
    rw [wrFrom, wrAll]
    by_cases c : k = 0
    · subst c
      have e : wrOne bs.flatten ⟨((n + i : Nat) : Int), blockB x.f0 x.f1 x.f2 x.f3⟩ 0 = bs.flatten := by unfold wrOne; rw [if_pos rfl]
      rw [e]
      exact wr_torn n l ks (i + 1) es bs hg hks' hl hok (by omega) hbe ht hk'
    · have ho : entE x = 0 := by rw [hx]; exact hok _ (List.getElem_mem hne)
      have hbk := blkOf_good x ho
      have hBb : bytesOf (blockB x.f0 x.f1 x.f2 x.f3) = blkOf x := bytesOf_strOfNums _ hbk.2
      have hBs : (blockB x.f0 x.f1 x.f2 x.f3).size = 32 := by rw [blockB, strOfNums_size]; exact hbk.1
      rw [wrOne_pad bs hg (n + i) _ hBs k k0 k1 c, hBb]
      have hpl := padB_length bs (n + i)
      have hz : (padB bs (n + i))[n + i]'(by rw [hpl]; omega) = Z32 := by
        simp only [padB]
        rw [List.getElem_append_right hb, List.getElem_replicate]
      have hnew : (blkOf x).take k.toNat ++ ((padB bs (n + i))[n + i]'(by rw [hpl]; omega)).drop k.toNat = tornB x k.toNat := by
        rw [hz, Z32, List.drop_replicate]
        rfl
      rw [hnew]
      obtain ⟨cs, e, hc, hlo, hhi, ht2, hs2⟩ := wr_torn n l ks (i + 1) es ((padB bs (n + i)).set (n + i) (tornB x k.toNat)) ((padB_good hg _).set _ _ (tornB_good x ho _ (by omega))) hks' hl hok (by rw [List.length_set, hpl]; omega) (by rw [List.length_set, hpl]; omega) (fun j h h2 => by
          rw [List.length_set, hpl] at h
          by_cases cj : n + i = j
          · subst cj
            refine ⟨k.toNat, by omega, ?_⟩
            rw [List.getElem_set_self, hx]
          · rw [List.getElem_set_ne cj]
            by_cases cb : j < bs.length
            · obtain ⟨q, hq, e⟩ := ht j cb h2
              refine ⟨q, hq, ?_⟩
              simp only [padB]
              rw [List.getElem_append_left cb, e]
            · refine ⟨0, by omega, ?_⟩
              simp only [padB]
              rw [List.getElem_append_right (by omega), List.getElem_replicate, tornB_zero]) hk'
      rw [List.length_set, hpl] at hlo
      refine ⟨cs, e, hc, by omega, hhi, ht2, fun j h h2 => ?_⟩
      rw [hs2 j (by rw [List.length_set, hpl]; omega) h2, List.getElem_set_ne (by omega)]
      simp only [padB]
      rw [List.getElem_append_left h]
theorem recFrom_mem (n : Nat) : ∀ (a : List ByteArray) (i : Nat) (x : S66), x ∈ recFrom n a i → ∃ j : Nat, i ≤ j ∧ n ≤ j ∧ j < i + a.length ∧ x = ⟨(j : Int), zeroB⟩
  | [], i, x, h => by simp [recFrom] at h
  | b :: a, i, x, h => by
    rw [recFrom] at h
    rcases List.mem_append.1 h with h | h
    · split at h
      · rename_i c
        have := List.mem_singleton.1 h
        exact ⟨i, Nat.le_refl _, c.1, by simp, this⟩
      · simp at h
    · obtain ⟨j, h1, h2, h3, h4⟩ := recFrom_mem n a (i + 1) x h
      exact ⟨j, by omega, h2, by simp; omega, h4⟩
theorem recFrom_has (n : Nat) : ∀ (a : List ByteArray) (i j : Nat) (h : j < a.length), n ≤ i + j → a[j] ≠ zeroB → (⟨((i + j : Nat) : Int), zeroB⟩ : S66) ∈ recFrom n a i
  | [], i, j, h, _, _ => by simp at h
  | b :: a, i, 0, h, hn, hz => by
    rw [recFrom, if_pos ⟨by omega, by simpa using hz⟩]
    simp
  | b :: a, i, j + 1, h, hn, hz => by
    rw [recFrom]
    have := recFrom_has n a (i + 1) j (by simpa using h) (by omega) (by simpa using hz)
    rw [show i + 1 + j = i + (j + 1) by omega] at this
    exact List.mem_append_right _ this
theorem blkE_zero : ∀ l : List S66, (∀ x ∈ l, 0 ≤ x.f0 ∧ x.f0 < 48 ∧ x.f1.size = 32) → blkE l = 0
  | [], _ => rfl
  | x :: r, h => by
    obtain ⟨h1, h2, h3⟩ := h x (by simp)
    rw [blkE, if_pos ⟨h1, h2⟩, if_pos h3, blkE_zero r fun y hy => h y (by simp [hy])]
theorem written_ok (bs cs : List (List Int)) (hg : Good bs) (hb : bs.length ≤ 48) (l : List S66) (ks : List Int) (hl : l.length ≤ 96) (hx : ∀ x ∈ l, 0 ≤ x.f0 ∧ x.f0 < 48 ∧ x.f1.size = 32) (hks : ks.length = l.length) (hk : ∀ k ∈ ks, 0 ≤ k ∧ k ≤ 32) (h : wrAll bs.flatten l ks = cs.flatten) :
    campaign_Written.f (strB bs) l ks = some (strB cs, 0) := by
  have hs := strB_size bs hg
  have hbad : ¬ ks.any badK = true := by
    intro hh
    obtain ⟨k, hk1, hk2⟩ := List.any_eq_true.1 hh
    have := hk k hk1
    unfold badK at hk2
    simp at hk2
    omega
  unfold campaign_Written.f writtenB bytesE writesE
  rw [if_pos (show (strB bs).size % 32 = 0 by omega), if_pos (show (strB bs).size ≤ 1536 by omega), if_pos rfl, if_pos hl, blkE_zero l hx, if_pos rfl, if_pos hks, if_neg hbad, if_pos rfl, bytes_strB bs hg, h]
  rfl
theorem recovered_ok (bs : List (List Int)) (hg : Good bs) (hb : bs.length ≤ 48) (E : List S57) (hE : entsL (bs.map strOfNums) = E) : campaign_Recovered.f (strB bs) = some (E, recFrom E.length (bs.map strOfNums) 0, 0) := by
  have hs := strB_size bs hg
  unfold campaign_Recovered.f recOf entsB
  rw [if_pos (show (strB bs).size % 32 = 0 by omega), if_pos (show (strB bs).size ≤ 1536 by omega), blocks_strB bs hg, hE]
theorem journal_strB (l : List S57) : journalB l = strB (l.map blkOf) := by
  unfold journalB strB jNums
  rw [List.flatMap_def]
  rfl
theorem good_blks (l : List S57) (h : ∀ x ∈ l, entE x = 0) : Good (l.map blkOf) := by
  intro b hb
  obtain ⟨x, hx, rfl⟩ := List.mem_map.1 hb
  exact blkOf_good x (h x hx)
end Go.Proofs.YtgflelipamofoaaDoor.PA
