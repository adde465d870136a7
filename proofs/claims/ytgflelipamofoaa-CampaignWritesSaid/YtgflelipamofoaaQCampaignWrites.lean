/- CampaignWrites: the plain law: the printed program and the printed reference write the same bytes, or the same error. -/
import Derived.Test.YtgflelipamofoaaSCampaignWrites
import Derived.Test.YtgflelipamofoaaHP3
namespace Go.Proofs.Ytgflelipamofoaa.PA
open Go Go.RowKit Go.Proofs.YtgflelipamofoaaW.PrintWords Go.Proofs.YtgflelipamofoaaW.PrintLast Go.Proofs.YtgflelipamofoaaW.PrintMore Go.Proofs.Ytgflelipamofoaa.Own
set_option linter.unusedVariables false
set_option linter.unusedSimpArgs false
theorem strOfNums_extract (xs : List Int) (a b : Nat) : (strOfNums xs).extract a b = strOfNums ((xs.take b).drop a) := by
  apply ByteArray.ext
  apply Array.ext'
  simp [strOfNums, List.map_drop, List.map_take, List.drop_take]
theorem jerr_eq (s : ByteArray) : examinerref43_JournalErr.f s = some (bytesE s) := by
  unfold examinerref43_JournalErr.f bytesE
  by_cases h : s.size % 32 = 0
  · rw [if_pos (by omega), if_pos h]
    by_cases h2 : s.size ≤ 1536
    · rw [if_neg (by omega), if_pos h2]
    · rw [if_pos (by omega), if_neg h2]
  · rw [if_neg (by omega), if_neg h]
theorem werr_l1 (ks : List Int) (hl : ks.length ≤ 96) : ∀ (d i : Nat), i + d = ks.length → Ev (fun k => examinerref43_WritesErr.l1 k ks i) (if (ks.drop i).any badK = true then 3 else 0) := by
  intro d
  induction d with
  | zero =>
    intro i hi
    refine ev_succ ?_
    obtain rfl : i = ks.length := by omega
    simp only [examinerref43_WritesErr.l1, if_neg (show ¬ (ks.length : Int) < (ks.length : Int) by omega), List.drop_length, List.any_nil, Bool.false_eq_true, if_false]
    exact Ev.now _
  | succ d ih =>
    intro i hi
    refine ev_succ ?_
    have hx : rd ks (i : Int) = ks[i] := by simp [rd, show i < ks.length by omega]
    simp only [examinerref43_WritesErr.l1, if_pos (show (i : Int) < (ks.length : Int) by omega), if_pos (show 0 ≤ (i : Int) by omega), within_eq, Option.bind_some, decide_eq_true_eq, hx]
    rw [List.drop_eq_getElem_cons (show i < ks.length by omega), List.any_cons]
    by_cases h : 0 ≤ ks[i] ∧ ks[i] ≤ 32
    · have hb : badK ks[i] = false := by unfold badK; simp; omega
      simp only [if_pos h, hb, Bool.false_or, wrap_succ (show i < ks.length by omega) (show ks.length ≤ 9223372036854775807 by omega)]
      exact ih (i + 1) (by omega)
    · have hb : badK ks[i] = true := by unfold badK; simp; omega
      simp only [if_neg h, hb, Bool.true_or, if_true]
      exact Ev.now _
theorem werr_l0 (l : List S97) (ks : List Int) (hl : l.length ≤ 96) : ∀ (d i : Nat), i + d = l.length → Ev (fun k => examinerref43_WritesErr.l0 k l ks i) (if blkE (l.drop i) = 0 then (if ks.length = l.length then (if ks.any badK = true then 3 else 0) else 6) else blkE (l.drop i)) := by
  intro d
  induction d with
  | zero =>
    intro i hi
    refine ev_succ ?_
    obtain rfl : i = l.length := by omega
    simp only [examinerref43_WritesErr.l0, if_neg (show ¬ (l.length : Int) < (l.length : Int) by omega), List.drop_length, blkE, if_true]
    by_cases h : ks.length = l.length
    · simp only [if_pos h, if_pos (show (ks.length : Int) = (l.length : Int) by omega)]
      have := werr_l1 ks (by omega) ks.length 0 (by omega)
      exact this
    · simp only [if_neg h, if_neg (show ¬ (ks.length : Int) = (l.length : Int) by omega)]
      exact Ev.now _
  | succ d ih =>
    intro i hi
    refine ev_succ ?_
    simp only [examinerref43_WritesErr.l0, if_pos (show (i : Int) < (l.length : Int) by omega), if_pos (show 0 ≤ (i : Int) by omega), within_eq, Option.bind_some, decide_eq_true_eq, rd97 l i (show i < l.length by omega)]
    rw [List.drop_eq_getElem_cons (show i < l.length by omega)]
    simp only [blkE]
    by_cases h : 0 ≤ l[i].f0 ∧ l[i].f0 < 48
    · simp only [if_pos h, if_pos (show 0 ≤ l[i].f0 ∧ l[i].f0 ≤ 47 by omega)]
      by_cases h2 : l[i].f1.size = 32
      · simp only [if_pos h2, if_pos (show (l[i].f1.size : Int) = 32 by omega), wrap_succ (show i < l.length by omega) (show l.length ≤ 9223372036854775807 by omega)]
        exact ih (i + 1) (by omega)
      · simp only [if_neg h2, if_neg (show ¬ (l[i].f1.size : Int) = 32 by omega), if_neg (show ¬ (19 : Int) = 0 by omega)]
        exact Ev.now _
    · simp only [if_neg h, if_neg (show ¬ (0 ≤ l[i].f0 ∧ l[i].f0 ≤ 47) by omega), if_neg (show ¬ (3 : Int) = 0 by omega)]
      exact Ev.now _
theorem werr_eq (s : ByteArray) (l : List S97) (ks : List Int) : Ev (fun k => examinerref43_WritesErr.f k s l ks) (if bytesE s = 0 then writesE l ks else bytesE s) := by
  unfold examinerref43_WritesErr.f writesE
  simp only [jerr_eq, Option.bind_some]
  by_cases h : bytesE s = 0
  · simp only [if_pos h]
    by_cases h2 : l.length ≤ 96
    · simp only [if_pos h2, if_neg (show ¬ (l.length : Int) > 96 by omega)]
      have := werr_l0 l ks h2 l.length 0 (by omega)
      exact this
    · simp only [if_neg h2, if_pos (show (l.length : Int) > 96 by omega)]
      exact Ev.now _
  · simp only [if_neg h]
    exact Ev.now _
theorem ref_written_loop (l : List S97) (ks : List Int) (hl : l.length ≤ 96) (hlen : ks.length = l.length) (hokl : ∀ x ∈ l, 0 ≤ x.f0 ∧ x.f0 < 48 ∧ x.f1.size = 32) (hokk : ∀ k ∈ ks, 0 ≤ k ∧ k ≤ 32) :
    ∀ (d i : Nat) (xs : List Int), i + d = l.length → xs.length ≤ 1536 → Ev (fun k => examinerref43_Written.l0 k (strOfNums xs) l ks i) (strOfNums (wrAll xs (l.drop i) (ks.drop i))) := by
  intro d
  induction d with
  | zero =>
    intro i xs hi hxs
    refine ev_succ ?_
    obtain rfl : i = l.length := by omega
    simp only [examinerref43_Written.l0, if_neg (show ¬ (l.length : Int) < (l.length : Int) by omega), List.drop_length, wrAll_nil]
    exact Ev.now _
  | succ d ih =>
    intro i xs hi hxs
    refine ev_succ ?_
    have h1 : i < l.length := by omega
    have h2 : i < ks.length := by omega
    have hx : rd ks (i : Int) = ks[i] := by simp [rd, h2]
    obtain ⟨o1, o2, o3⟩ := hokl l[i] (List.getElem_mem _)
    obtain ⟨o4, o5⟩ := hokk ks[i] (List.getElem_mem _)
    have hwl := wrOne_length xs l[i] ks[i] ⟨o1, o2, o3⟩ ⟨o4, o5⟩ hxs
    rw [wrAll_step xs l ks i h1 h2]
    simp only [examinerref43_Written.l0, if_pos (show (i : Int) < (l.length : Int) by omega), if_pos (show 0 ≤ (i : Int) by omega), if_pos (show (i : Int) < (ks.length : Int) by omega), hx, rd97 l i h1, wrap_succ h1 (show l.length ≤ 9223372036854775807 by omega)]
    generalize l[i] = x at *
    generalize ks[i] = q at *
    by_cases hq : q = 0
    · have : wrOne xs x q = xs := by unfold wrOne; rw [if_pos hq]
      rw [this] at hwl ⊢
      simp only [if_pos hq]
      exact ih (i + 1) xs (by omega) hxs
    · simp only [if_neg hq]
      obtain ⟨F, hF⟩ := Int.eq_ofNat_of_zero_le o1
      obtain ⟨q, rfl⟩ := Int.eq_ofNat_of_zero_le o4
      have hone : wrOne xs x q = splice (if xs.length < F * 32 + 32 then xs ++ List.replicate (F * 32 + 32 - xs.length) 0 else xs) (F * 32) ((bytesOf x.f1).take q) := by
        unfold wrOne; rw [if_neg hq, hF]; simp
      have hbl : (bytesOf x.f1).length = 32 := by simp [bytesOf, o3]
      have hspl : ∀ ys : List Int, splice ys (F * 32) ((bytesOf x.f1).take q) = ys.take (F * 32) ++ (bytesOf x.f1).take q ++ ys.drop (F * 32 + q) := by
        intro ys
        unfold splice
        rw [List.length_take, hbl, Nat.min_eq_left (show q ≤ 32 by omega), List.append_assoc]
      have hex : x.f1.extract 0 q = strOfNums ((bytesOf x.f1).take q) := by
        have h := strOfNums_extract (bytesOf x.f1) 0 q
        rw [strOfNums_bytes, List.drop_zero] at h
        exact h
      have hw1 : wrap64 (x.f0 * 32) = ((F * 32 : Nat) : Int) := by unfold wrap64; omega
      have hw2 : wrap64 (((F * 32 : Nat) : Int) + 32) = ((F * 32 + 32 : Nat) : Int) := by unfold wrap64; omega
      have hw3 : wrap64 (((F * 32 : Nat) : Int) + (q : Int)) = ((F * 32 + q : Nat) : Int) := by unfold wrap64; omega
      simp only [hw1, hw2, hw3, strOfNums_size]
      clear hw1 hw2 hw3
      by_cases hm : xs.length < F * 32 + 32
      · rw [hone, if_pos hm, hspl] at hwl ⊢
        have hw4 : wrap64 (((F * 32 + 32 : Nat) : Int) - (xs.length : Int)) = ((F * 32 + 32 - xs.length : Nat) : Int) := by unfold wrap64; omega
        simp only [hw4]
        clear hw4
        simp only [if_pos (show ((F * 32 + 32 : Nat) : Int) > (xs.length : Int) by omega), zeros_eq ((F * 32 + 32 - xs.length : Nat) : Int) (by omega) (by omega), Option.bind_some, Int.toNat_natCast, strOfNums_size, List.length_replicate, strOfNums_append]
        generalize hy : xs ++ List.replicate (F * 32 + 32 - xs.length) 0 = ys at *
        have hyl : ys.length = F * 32 + 32 := by rw [← hy]; simp; omega
        simp only [if_pos (show xs.length + (F * 32 + 32 - xs.length) ≤ 9223372036854775807 by omega), if_pos (show 0 ≤ ((F * 32 : Nat) : Int) by omega), if_pos (show 0 ≤ (q : Int) by omega), if_pos (show 0 ≤ ((F * 32 + q : Nat) : Int) by omega), hyl, if_pos (show ((F * 32 : Nat) : Int) ≤ ((F * 32 + 32 : Nat) : Int) by omega), if_pos (show (q : Int) ≤ (x.f1.size : Int) by omega), if_pos (show ((F * 32 + q : Nat) : Int) ≤ ((F * 32 + 32 : Nat) : Int) by omega)]
        simp only [hex, strOfNums_extract, strOfNums_size, strOfNums_append]
        simp only [if_pos (show (List.drop 0 (List.take (F * 32) ys)).length + (List.take q (bytesOf x.f1)).length ≤ 9223372036854775807 by simp only [List.length_drop, List.length_take]; omega), if_pos (show (List.drop 0 (List.take (F * 32) ys) ++ List.take q (bytesOf x.f1)).length + (List.drop (F * 32 + q) (List.take (F * 32 + 32) ys)).length ≤ 9223372036854775807 by simp only [List.length_append, List.length_drop, List.length_take]; omega)]
        have e1 : ((List.take (F * 32) ys).drop 0 ++ (bytesOf x.f1).take q) ++ (List.take (F * 32 + 32) ys).drop (F * 32 + q) = ys.take (F * 32) ++ (bytesOf x.f1).take q ++ ys.drop (F * 32 + q) := by
          rw [List.drop_zero, List.take_of_length_le (l := ys) (i := F * 32 + 32) (by omega)]
        rw [e1]
        exact ih (i + 1) _ (by omega) hwl
      · rw [hone, if_neg hm, hspl] at hwl ⊢
        simp only [if_neg (show ¬ ((F * 32 + 32 : Nat) : Int) > (xs.length : Int) by omega), Int.toNat_natCast]
        simp only [if_pos (show 0 ≤ ((F * 32 : Nat) : Int) by omega), if_pos (show 0 ≤ (q : Int) by omega), if_pos (show 0 ≤ ((F * 32 + q : Nat) : Int) by omega), if_pos (show ((F * 32 : Nat) : Int) ≤ (xs.length : Int) by omega), if_pos (show (q : Int) ≤ (x.f1.size : Int) by omega), if_pos (show ((F * 32 + q : Nat) : Int) ≤ (xs.length : Int) by omega)]
        simp only [hex, strOfNums_extract, strOfNums_size, strOfNums_append]
        simp only [if_pos (show (List.drop 0 (List.take (F * 32) xs)).length + (List.take q (bytesOf x.f1)).length ≤ 9223372036854775807 by simp only [List.length_drop, List.length_take]; omega), if_pos (show (List.drop 0 (List.take (F * 32) xs) ++ List.take q (bytesOf x.f1)).length + (List.drop (F * 32 + q) (List.take xs.length xs)).length ≤ 9223372036854775807 by simp only [List.length_append, List.length_drop, List.length_take]; omega)]
        have e1 : ((List.take (F * 32) xs).drop 0 ++ (bytesOf x.f1).take q) ++ (List.take xs.length xs).drop (F * 32 + q) = xs.take (F * 32) ++ (bytesOf x.f1).take q ++ xs.drop (F * 32 + q) := by
          rw [List.drop_zero, List.take_length]
        rw [e1]
        exact ih (i + 1) _ (by omega) hwl
theorem no_bytes : (ByteArray.toList ⟨#[]⟩ == ([] : List UInt8)) = true := by rw [ByteArray.toList_eq]; rfl
theorem pure_campaignWrites : PureCampaignWrites := by
  rintro s l ks hs ⟨hl, _⟩ ⟨hk, _⟩
  refine Ev.rounds ?_
  unfold examinerlaw43_CampaignWrites.f
  rw [awake_eq]
  simp only [Option.bind_some, if_true]
  have out : ∀ (a : ByteArray) (b : List S97) (c : List Int), Ev (fun k => examinerlaw43_CampaignWrites.j0 k a true b c) true := by
    intro a b c
    refine ev_succ ?_
    simp only [examinerlaw43_CampaignWrites.j0, if_true]
    exact Ev.now _
  by_cases c1 : (s.size : Int) > 2000
  · simp only [if_pos c1]; exact out _ _ _
  simp only [if_neg c1]
  by_cases c2 : (l.length : Int) > 120
  · simp only [if_pos c2]; exact out _ _ _
  simp only [if_neg c2]
  by_cases c3 : (ks.length : Int) > 120
  · simp only [decide_eq_true c3]; exact out _ _ _
  simp only [decide_eq_false c3]
  refine ev_succ ?_
  have hw : examinerlaw43_writes.f l = some l := by
    unfold examinerlaw43_writes.f
    simp only [Option.bind_some, List.length_nil, List.nil_append, if_pos (show 0 + l.length < 5864062014805 by omega)]
  have hi : examinerbase_OwnInts.f ks = some ks := by
    unfold examinerbase_OwnInts.f
    simp only [Option.bind_some, List.length_nil, List.nil_append, if_pos (show 0 + ks.length < 17592186044416 by omega)]
  simp only [examinerlaw43_CampaignWrites.j0, Bool.false_eq_true, if_false, hw, hi, Option.bind_some, campaign_Written.f]
  refine Ev.bind (werr_eq s l ks) ?_
  unfold writtenB
  by_cases hb : bytesE s = 0
  · simp only [if_pos hb]
    by_cases hE : writesE l ks = 0
    · simp only [if_pos hE, if_true]
      obtain ⟨h96, hlen, hokl, hokk⟩ := writes_ok hE
      have h1536 : s.size ≤ 1536 := by
        unfold bytesE at hb
        split at hb
        · split at hb
          · assumption
          · simp at hb
        · simp at hb
      unfold examinerref43_Written.f
      have hr := ref_written_loop l ks h96 hlen hokl hokk l.length 0 (bytesOf s) (by omega) (by simp [bytesOf]; exact h1536)
      rw [strOfNums_bytes] at hr
      refine Ev.bind hr ?_
      simp only [List.drop_zero, beq_self_eq_true]
      exact Ev.now _
    · simp only [if_neg hE, if_true, no_bytes]
      exact Ev.now _
  · simp only [if_neg hb, if_true, no_bytes]
    exact Ev.now _
end Go.Proofs.Ytgflelipamofoaa.PA
