/- CampaignSurvives: the plain law: whatever a power failure keeps, the entries before and a beginning of the new ones are read, twice the same, and at last the journal is clean. -/
import Derived.Test.YtgflelipamofoaaDoorSCampaignSurvives
import Derived.Test.YtgflelipamofoaaDoorHP8
namespace Go.Proofs.YtgflelipamofoaaDoor.PA
open Go Go.RowKit Go.Proofs.YtgflelipamofoaaDoorW.PrintWords Go.Proofs.YtgflelipamofoaaDoorW.PrintLast Go.Proofs.YtgflelipamofoaaDoorW.PrintMore
set_option linter.unusedVariables false
set_option linter.unusedSimpArgs false
theorem kept_loop (l : List Int) (hl : ∀ x ∈ l, 0 ≤ x ∧ x ≤ 255) (n : Nat) (hn : n ≤ 48) : ∀ (d i : Nat) (acc : List Int), i + d = n → acc.length = i → (∀ k ∈ acc, 0 ≤ k ∧ k ≤ 32 ∧ (l = [] → k = 32)) →
    ∃ ks, Ev (fun k => examinerlaw43_kept.l0 k l (n : Int) acc (i : Int)) ks ∧ ks.length = n ∧ ∀ k ∈ ks, 0 ≤ k ∧ k ≤ 32 ∧ (l = [] → k = 32) := by
  intro d
  induction d with
  | zero =>
    intro i acc hi ha hk
    refine ⟨acc, ev_succ ?_, by omega, hk⟩
    simp only [examinerlaw43_kept.l0, if_neg (show ¬ (i : Int) < (n : Int) by omega)]
    exact Ev.now _
  | succ d ih =>
    intro i acc hi ha hk
    by_cases c : i < l.length
    · have hx : rd l (i : Int) = l[i] := by simp [rd, c]
      obtain ⟨h0, h1⟩ := hl l[i] (List.getElem_mem c)
      have hw : wrap64 l[i] = l[i] := by unfold wrap64; omega
      obtain ⟨ks, e, h2, h3⟩ := ih (i + 1) (acc ++ [Int.tmod l[i] 33]) (by omega) (by simp; omega) (fun k hk' => by
        rcases List.mem_append.1 hk' with hk' | hk'
        · exact hk k hk'
        · obtain rfl := List.mem_singleton.1 hk'
          rw [Int.tmod_eq_emod_of_nonneg h0]
          exact ⟨by omega, by omega, fun e => by rw [e] at c; simp at c⟩)
      refine ⟨ks, ev_succ ?_, h2, h3⟩
      simp only [examinerlaw43_kept.l0, if_pos (show (i : Int) < (n : Int) by omega), if_pos (show (i : Int) < (l.length : Int) by omega), if_pos (show 0 ≤ (i : Int) by omega), if_pos (show acc.length < 17592186044416 by omega), hx, hw, wrap_succ (show i < n by omega) (by omega)]
      exact e
    · obtain ⟨ks, e, h2, h3⟩ := ih (i + 1) (acc ++ [32]) (by omega) (by simp; omega) (fun k hk' => by
        rcases List.mem_append.1 hk' with hk' | hk'
        · exact hk k hk'
        · obtain rfl := List.mem_singleton.1 hk'
          exact ⟨by omega, by omega, fun _ => rfl⟩)
      refine ⟨ks, ev_succ ?_, h2, h3⟩
      simp only [examinerlaw43_kept.l0, if_pos (show (i : Int) < (n : Int) by omega), if_neg (show ¬ (i : Int) < (l.length : Int) by omega), if_pos (show acc.length < 17592186044416 by omega), wrap_succ (show i < n by omega) (by omega)]
      exact e
theorem kept_eq (l : List Int) (hl : ∀ x ∈ l, 0 ≤ x ∧ x ≤ 255) (n : Nat) (hn : n ≤ 48) : ∃ ks, Ev (fun k => examinerlaw43_kept.f k l (n : Int)) ks ∧ ks.length = n ∧ ∀ k ∈ ks, 0 ≤ k ∧ k ≤ 32 ∧ (l = [] → k = 32) := by
  have := kept_loop l hl n hn n 0 [] (by omega) rfl (by simp)
  exact this
theorem writes_eq (l : List S66) (h : l.length ≤ 1000) : examinerlaw43_writes.f l = some l := by
  unfold examinerlaw43_writes.f
  simp only [Option.bind_some, List.length_nil, List.nil_append, if_pos (show 0 + l.length < 5864062014805 by omega)]
theorem sv4 (l : List S57) (hok : ∀ x ∈ l, entE x = 0) (hl : l.length ≤ 48) (n : Nat) : Ev (fun k => examinerlaw43_CampaignSurvives.j4 k l (strB (l.map blkOf ++ List.replicate n Z32)) false) true := by
  refine ev_succ ?_
  have hg := good_blks l hok
  have hs := strB_size _ (hg.append (good_zeros n))
  have hc := check_eq 63 (by omega) l
  have h0 : (checkB l).2 = 0 := by
    have hf : ∀ (a : List S57) (i : Int), (∀ x ∈ a, entE x = 0) → chkFrom a i = (0, 0) := by
      intro a
      induction a with
      | nil => intro i _; rfl
      | cons y r ih => intro i h; rw [chkFrom, if_pos (h y (by simp)), ih _ fun x hx => h x (by simp [hx])]
    unfold checkB
    rw [if_neg (by omega), hf l 0 hok]
  simp only [examinerlaw43_CampaignSurvives.j4, Bool.false_eq_true, if_false, own_eq l (by omega), Option.bind_some, campaign_JournalOf.f, jOf, if_pos h0, if_pos hl, if_true]
  have hw : wrap64 ((l.length : Int) * 32) = ((32 * l.length : Nat) : Int) := by unfold wrap64; omega
  rw [List.length_append, List.length_map, List.length_replicate] at hs
  simp only [hw, Int.toNat_natCast, if_pos (show 0 ≤ ((32 * l.length : Nat) : Int) by omega), if_pos (show ((32 * l.length : Nat) : Int) ≤ ((strB (l.map blkOf ++ List.replicate n Z32)).size : Int) by omega)]
  have e : (strB (l.map blkOf ++ List.replicate n Z32)).extract 0 (32 * l.length) = journalB l := by
    rw [strB, strOfNums_extract, List.drop_zero, List.flatten_append, List.take_append, List.take_of_length_le (l := (l.map blkOf).flatten) (by rw [hg.length, List.length_map]; omega), hg.length, List.length_map, Nat.sub_self, List.take_zero, List.append_nil, journal_strB, strB]
  rw [e]
  simp only [beq_self_eq_true]
  exact Ev.now _
theorem sv3 (l : List S57) (hok : ∀ x ∈ l, entE x = 0) (bs : List (List Int)) (hg : Good bs) (hb : bs.length ≤ 48) (hl : l.length ≤ bs.length) (hp : ∀ i (h : i < bs.length) (h2 : i < l.length), bs[i] = blkOf l[i]) :
    Ev (fun k => examinerlaw43_CampaignSurvives.j3 k l (strB bs) (recFrom l.length (bs.map strOfNums) 0) false) true := by
  refine ev_succ ?_
  obtain ⟨d, hd⟩ : ∃ d, recFrom l.length (bs.map strOfNums) 0 = d := ⟨_, rfl⟩
  have hdl : d.length ≤ 48 := by
    have := recFrom_length l.length (bs.map strOfNums) 0
    rw [hd, List.length_map] at this
    omega
  have hmem : ∀ x ∈ d, ∃ i : Nat, x = ⟨(i : Int), zeroB⟩ ∧ i < bs.length ∧ l.length ≤ i := fun x hx => by
    rw [← hd] at hx
    obtain ⟨j, _, h2, h3, h4⟩ := recFrom_mem _ _ _ _ hx
    rw [List.length_map] at h3
    exact ⟨j, h4, by omega, h2⟩
  rw [hd]
  obtain ⟨ks, hks, hkl, hk⟩ := kept_eq [] (by simp) d.length hdl
  simp only [examinerlaw43_CampaignSurvives.j3, Bool.false_eq_true, if_false, writes_eq d (by omega), Option.bind_some]
  refine Ev.bind hks ?_
  obtain ⟨cs, e, hc, hcl, hci⟩ := wr_zeros d ks bs hg hkl (fun x hx => by obtain ⟨i, h1, h2, _⟩ := hmem x hx; exact ⟨i, h1, h2⟩) (fun k hk' => ⟨(hk k hk').1, (hk k hk').2.1⟩)
  have hw := written_ok bs cs hg hb d ks (by omega) (fun x hx => by obtain ⟨i, rfl, h2, _⟩ := hmem x hx; exact ⟨by simp, by simp; omega, zeroB_size⟩) hkl (fun k hk' => ⟨(hk k hk').1, (hk k hk').2.1⟩) e
  have hcs : cs = l.map blkOf ++ List.replicate (bs.length - l.length) Z32 := by
    apply List.ext_getElem
    · rw [hcl, List.length_append, List.length_map, List.length_replicate]; omega
    · intro i h1 h2
      obtain ⟨k, hk32, e1, e2, e3⟩ := hci i (by omega) h1
      by_cases c : i < l.length
      · have k0 := e2 (fun x hx hxi => by
          obtain ⟨j, rfl, _, h4⟩ := hmem x hx
          have : j = i := Int.ofNat.inj hxi
          omega)
        rw [e1, k0, zb_zero, List.getElem_append_left (by rw [List.length_map]; exact c), List.getElem_map, hp i (by omega) c]
      · rw [List.getElem_append_right (by rw [List.length_map]; omega), List.getElem_replicate, e1]
        have hbi := hg.get i (by omega)
        by_cases cz : bs[i] = Z32
        · rw [cz]
          unfold zb Z32
          rw [List.drop_replicate, List.replicate_append_replicate, show k + (32 - k) = 32 by omega]
        · have := e3 (fun q hq => (hk q hq).2.2 rfl) ⟨⟨(i : Int), zeroB⟩, by
            rw [← hd]
            have := recFrom_has l.length (bs.map strOfNums) 0 i (by rw [List.length_map]; omega) (by omega) (by
              rw [List.getElem_map]
              intro hz
              apply cz
              rw [← bytesOf_strOfNums _ hbi.2, hz, zeroB_bytes])
            rwa [Nat.zero_add] at this, rfl⟩
          rw [this, zb_all _ hbi.1]
  have hs := strB_size cs hc
  have hwr : wrap64 ((l.length : Int) * 32) = ((32 * l.length : Nat) : Int) := by unfold wrap64; omega
  have hwr2 : wrap64 (((strB cs).size : Int) - ((32 * l.length : Nat) : Int)) = ((32 * (bs.length - l.length) : Nat) : Int) := by unfold wrap64; omega
  simp only [hw, Option.bind_some, if_true, hwr, hwr2, Int.toNat_natCast, if_neg (show ¬ ((strB cs).size : Int) < ((32 * l.length : Nat) : Int) by omega), if_pos (show 0 ≤ ((32 * l.length : Nat) : Int) by omega), if_pos (show ((32 * l.length : Nat) : Int) ≤ ((strB cs).size : Int) by omega),
    zeros_eq ((32 * (bs.length - l.length) : Nat) : Int) (by omega) (by omega)]
  have ez : (strB cs).extract (32 * l.length) (strB cs).size = strOfNums (List.replicate (32 * (bs.length - l.length)) 0) := by
    have hgl := (good_blks l hok).length
    rw [List.length_map] at hgl
    rw [strB, strOfNums_extract, strOfNums_size, List.take_length, hcs, List.flatten_append, List.drop_append, hgl, Nat.sub_self, List.drop_zero, List.drop_eq_nil_of_le (by omega), List.nil_append, flat_zeros]
  rw [ez]
  have hbne : ((strOfNums (List.replicate (32 * (bs.length - l.length)) 0)).toList != (strOfNums (List.replicate (32 * (bs.length - l.length)) 0)).toList) = false := by simp
  rw [hbne, hcs]
  exact sv4 l hok (by omega) _
theorem sv2 (l : List S57) (hok : ∀ x ∈ l, entE x = 0) (l1 : List Int) (z : List Int) (hz : ∀ x ∈ z, 0 ≤ x ∧ x ≤ 255) (bs : List (List Int)) (hg : Good bs) (hb : bs.length ≤ 48) (hl : l.length ≤ bs.length) (hp : ∀ i (h : i < bs.length) (h2 : i < l.length), bs[i] = blkOf l[i]) (hn : ∀ h : l.length < bs.length, okB bs[l.length] = false) :
    Ev (fun k => examinerlaw43_CampaignSurvives.j2 k (strB bs) l (recFrom l.length (bs.map strOfNums) 0) false l1 z) true := by
  refine ev_succ ?_
  obtain ⟨d, hd⟩ : ∃ d, recFrom l.length (bs.map strOfNums) 0 = d := ⟨_, rfl⟩
  have hdl : d.length ≤ 48 := by
    have := recFrom_length l.length (bs.map strOfNums) 0
    rw [hd, List.length_map] at this
    omega
  have hmem : ∀ x ∈ d, ∃ i : Nat, x = ⟨(i : Int), zeroB⟩ ∧ i < bs.length ∧ l.length ≤ i := fun x hx => by
    rw [← hd] at hx
    obtain ⟨j, _, h2, h3, h4⟩ := recFrom_mem _ _ _ _ hx
    rw [List.length_map] at h3
    exact ⟨j, h4, by omega, h2⟩
  rw [hd]
  obtain ⟨ks, hks, hkl, hk⟩ := kept_eq z hz d.length hdl
  simp only [examinerlaw43_CampaignSurvives.j2, Bool.false_eq_true, if_false, writes_eq d (by omega), Option.bind_some]
  refine Ev.bind hks ?_
  obtain ⟨cs, e, hc, hcl, hci⟩ := wr_zeros d ks bs hg hkl (fun x hx => by obtain ⟨i, h1, h2, _⟩ := hmem x hx; exact ⟨i, h1, h2⟩) (fun k hk' => ⟨(hk k hk').1, (hk k hk').2.1⟩)
  have hw := written_ok bs cs hg hb d ks (by omega) (fun x hx => by obtain ⟨i, rfl, h2, _⟩ := hmem x hx; exact ⟨by simp, by simp; omega, zeroB_size⟩) hkl (fun k hk' => ⟨(hk k hk').1, (hk k hk').2.1⟩) e
  have hp2 : ∀ i (h : i < cs.length) (h2 : i < l.length), cs[i] = blkOf l[i] := fun i h h2 => by
    obtain ⟨k, hk32, e1, e2, e3⟩ := hci i (by omega) h
    have k0 := e2 (fun x hx hxi => by
      obtain ⟨j, rfl, _, h4⟩ := hmem x hx
      have : j = i := Int.ofNat.inj hxi
      omega)
    rw [e1, k0, zb_zero, hp i (by omega) h2]
  have hn2 : ∀ h : l.length < cs.length, okB cs[l.length] = false := fun h => by
    obtain ⟨k, hk32, e1, e2, e3⟩ := hci l.length (by omega) h
    rw [e1]
    by_cases c : k = 0
    · rw [c, zb_zero]; exact hn (by omega)
    · have hgz := zb_good (hg.get l.length (by omega)) k hk32
      cases ho : okB (zb bs[l.length] k) with
      | false => rfl
      | true =>
        have h0 := (okB_says _ hgz.1 hgz.2 ho).1
        obtain ⟨k, rfl⟩ : ∃ m, k = m + 1 := ⟨k - 1, by omega⟩
        unfold zb at h0
        rw [List.replicate_succ] at h0
        simp [rd] at h0
  have hE := ents_pre l.length l cs hok (by omega) (Nat.le_refl _) (fun i h h2 _ => hp2 i h h2) hn2
  rw [List.take_length] at hE
  have hr := recovered_ok cs hc (by omega) l hE
  have hcl2 : ¬ ((recFrom l.length (cs.map strOfNums) 0).length : Int) > 48 := by
    have := recFrom_length l.length (cs.map strOfNums) 0
    rw [List.length_map] at this
    omega
  simp only [hw, hr, Option.bind_some, if_true]
  refine Ev.bind (same_entries l (by omega)) ?_
  simp only [if_true, decide_eq_false hcl2]
  exact sv3 l hok cs hc (by omega) (by omega) hp2
theorem sv1 (x y : List S57) (hx : ∀ e ∈ x, entE e = 0) (hy : ∀ e ∈ y, entE e = 0) (hl : x.length + y.length ≤ 40) (z1 z2 : List Int) (hz1 : ∀ x ∈ z1, 0 ≤ x ∧ x ≤ 255) (hz2 : ∀ x ∈ z2, 0 ≤ x ∧ x ≤ 255) :
    Ev (fun k => examinerlaw43_CampaignSurvives.j1 k (journalB x) (wrFrom x.length y 0) false x y z1 z2) true := by
  refine ev_succ ?_
  have hok : ∀ e ∈ x ++ y, entE e = 0 := fun e he => by
    rcases List.mem_append.1 he with he | he
    · exact hx e he
    · exact hy e he
  have hwl := wrFrom_length x.length y 0
  have hgx := good_blks x hx
  obtain ⟨ks, hks, hkl, hk⟩ := kept_eq z1 hz1 y.length (by omega)
  rw [← hwl] at hks
  simp only [examinerlaw43_CampaignSurvives.j1, Bool.false_eq_true, if_false, writes_eq (wrFrom x.length y 0) (by omega), Option.bind_some]
  refine Ev.bind hks ?_
  obtain ⟨bs, e, hg, hlo, hhi, ht, hs⟩ := wr_torn x.length y ks 0 (x ++ y) (x.map blkOf) hgx hkl (by simp) hok (by simp) (by simp) (fun j h h2 => by
    rw [List.length_map] at h
    refine ⟨32, by omega, ?_⟩
    rw [List.getElem_map, List.getElem_append_left h, tornB_all _ (hx _ (List.getElem_mem h))]) (fun k hk' => ⟨(hk k hk').1, (hk k hk').2.1⟩)
  rw [List.length_map] at hlo
  rw [List.length_append] at hhi
  have hxm : ∀ (l : List S57) (i : Nat), (∀ e ∈ l, entE e = 0) → ∀ w ∈ wrFrom x.length l i, 0 ≤ w.f0 ∧ w.f0 < ((x.length + i + l.length : Nat) : Int) ∧ w.f1.size = 32 := by
    intro l
    induction l with
    | nil => intro i _ w hw; simp [wrFrom] at hw
    | cons a r ih =>
      intro i h w hw
      rw [wrFrom] at hw
      rcases List.mem_cons.1 hw with rfl | hw
      · refine ⟨Int.natCast_nonneg _, by simp; omega, ?_⟩
        exact blockB_size _ _ _ _ (ent_ok (h a (by simp))).2.1
      · have := ih (i + 1) (fun e he => h e (by simp [he])) w hw
        refine ⟨this.1, ?_, this.2.2⟩
        have h2 := this.2.1
        simp only [List.length_cons]
        omega
  have hw := written_ok (x.map blkOf) bs hgx (by rw [List.length_map]; omega) (wrFrom x.length y 0) ks (by omega) (fun w hw => by
    obtain ⟨h1, h2, h3⟩ := hxm y 0 hy w hw
    exact ⟨h1, by omega, h3⟩) (by omega) (fun k hk' => ⟨(hk k hk').1, (hk k hk').2.1⟩) e
  rw [← journal_strB] at hw
  obtain ⟨m, hm, hp, hn⟩ := torn_ents (x ++ y) bs hok (by rw [List.length_append]; exact hhi) ht
  have hxl : x.length ≤ m := by
    rcases Nat.lt_or_ge m x.length with c | c
    · exfalso
      have h1 := hn (by omega)
      have h2 := hs m (by rw [List.length_map]; exact c) (by omega)
      rw [List.getElem_map] at h2
      rw [h2, okB_blk _ (hx _ (List.getElem_mem c))] at h1
      cases h1
    · exact c
  have hE := ents_pre m (x ++ y) bs hok hm (by rw [List.length_append]; omega) hp hn
  have hr := recovered_ok bs hg (by omega) _ hE
  obtain ⟨l, hll⟩ : ∃ l, (x ++ y).take m = l := ⟨_, rfl⟩
  have hlm : l.length = m := by rw [← hll, List.length_take, List.length_append]; omega
  rw [hll] at hr
  have hlok : ∀ e ∈ l, entE e = 0 := fun e he => hok e (by rw [← hll] at he; exact List.mem_of_mem_take he)
  have hlp : ∀ i (h : i < bs.length) (h2 : i < l.length), bs[i] = blkOf l[i] := fun i h h2 => by
    rw [hp i h (by rw [List.length_append]; omega) (by omega)]
    congr 1
    simp only [← hll, List.getElem_take]
  have hln : ∀ h : l.length < bs.length, okB bs[l.length] = false := fun h => by
    have := hn (by omega)
    simp only [hlm]
    exact this
  have hcl2 : ¬ ((recFrom l.length (bs.map strOfNums) 0).length : Int) > 48 := by
    have := recFrom_length l.length (bs.map strOfNums) 0
    rw [List.length_map] at this
    omega
  simp only [hw, hr, Option.bind_some, if_true, own_eq x (by omega), if_pos (show x.length + y.length < 3518437208883 by omega), List.length_append, if_neg (show ¬ (l.length : Int) < (x.length : Int) by omega), if_neg (show ¬ (l.length : Int) > ((x.length + y.length : Nat) : Int) by omega), if_pos (show 0 ≤ (l.length : Int) by omega), if_pos (show (l.length : Int) ≤ ((x.length + y.length : Nat) : Int) by omega), Int.toNat_natCast]
  rw [hlm, hll]
  refine Ev.bind (same_entries l (by omega)) ?_
  simp only [if_true]
  rw [← hlm]
  simp only [decide_eq_false hcl2]
  exact sv2 l hlok z1 z2 hz2 bs hg (by omega) (by omega) hlp hln
theorem journal_wr (x y : List S57) (hx : ∀ e ∈ x, entE e = 0) (hx0 : (checkB y).2 = 0) (hl : x.length + y.length ≤ 40) : wrOf (journalB x) y = (wrFrom x.length y 0, 0) := by
  have hg := good_blks x hx
  have hs : (journalB x).size = 32 * x.length := by rw [journal_strB, strB_size _ hg, List.length_map]
  have hE : entsB (journalB x) = x := by
    have := ents_pre x.length x (x.map blkOf) hx (by simp) (Nat.le_refl _) (fun i h h2 _ => by rw [List.getElem_map]) (fun h => by simp at h)
    rw [List.take_length] at this
    rw [journal_strB, entsB, blocks_strB _ hg, this]
  unfold wrOf
  rw [hE, hs, if_pos (by omega), if_pos (by omega), if_pos (by omega), if_pos hx0, if_neg (by omega), show 32 * x.length / 32 = x.length by omega]
theorem sv0 (x y : List S57) (hx : (checkB x).2 = 0) (hy : (checkB y).2 = 0) (hl : x.length + y.length ≤ 40) (z1 z2 : List Int) (hz1 : ∀ x ∈ z1, 0 ≤ x ∧ x ≤ 255) (hz2 : ∀ x ∈ z2, 0 ≤ x ∧ x ≤ 255) :
    Ev (fun k => examinerlaw43_CampaignSurvives.j0 k false x y z1 z2) true := by
  refine ev_succ ?_
  have hxo := (check_ok hx).2
  have hyo := (check_ok hy).2
  simp only [examinerlaw43_CampaignSurvives.j0, Bool.false_eq_true, if_false, own_eq x (by omega), own_eq y (by omega), Option.bind_some, campaign_JournalOf.f, jOf, if_pos hx, if_pos (show x.length ≤ 48 by omega)]
  refine Ev.bind (ev_some 200 fun k hk => writesFor_eq (journalB x) y (by omega) k hk) ?_
  have hwl := wrFrom_length x.length y 0
  simp only [journal_wr x y hxo hy hl, if_true, decide_eq_false (show ¬ ((wrFrom x.length y 0).length : Int) > 48 by omega)]
  exact sv1 x y hxo hyo hl z1 z2 hz1 hz2
theorem sv_out (x y : List S57) (z1 z2 : List Int) : Ev (fun k => examinerlaw43_CampaignSurvives.j0 k true x y z1 z2) true := by
  refine ev_succ ?_
  simp only [examinerlaw43_CampaignSurvives.j0, if_true]
  exact Ev.now _
theorem u8_wf {l : List Int} (h : ∀ x ∈ l, (Lit.int .u8 x).wf = true) : ∀ x ∈ l, 0 ≤ x ∧ x ≤ 255 := fun x hx => by
  have := h x hx
  simp only [Lit.wf, Bool.and_eq_true, decide_eq_true_eq, show IntKind.u8.min = 0 from rfl, show IntKind.u8.max = 255 from rfl] at this
  exact this
theorem pure_campaignSurvives : PureCampaignSurvives := by
  rintro x y z1 z2 ⟨hx, _⟩ ⟨hy, _⟩ ⟨_, hz1⟩ ⟨_, hz2⟩
  refine Ev.rounds ?_
  unfold examinerlaw43_CampaignSurvives.f
  refine Ev.bind (ev_some 0 fun _ _ => awake_eq) ?_
  simp only [if_true]
  obtain ⟨b, hb, hb70⟩ := few_eq x hx 200 (Nat.le_refl _)
  refine Ev.bind (Ev.of (fun k => examinerlaw43_few.mono x k) hb) ?_
  cases b
  · simp only [Bool.false_eq_true, if_false]
    exact sv_out x y z1 z2
  simp only [if_true]
  obtain ⟨c, hc, hc70⟩ := few_eq y hy 200 (Nat.le_refl _)
  refine Ev.bind (Ev.of (fun k => examinerlaw43_few.mono y k) hc) ?_
  cases c
  · simp only [Bool.false_eq_true, if_false]
    exact sv_out x y z1 z2
  simp only [if_true]
  refine Ev.bind (ev_some 200 fun k hk => ref_err_eq k (by omega) x) ?_
  by_cases ex : (checkB x).2 = 0
  · simp only [if_pos ex]
    refine Ev.bind (ev_some 200 fun k hk => ref_err_eq k (by omega) y) ?_
    by_cases ey : (checkB y).2 = 0
    · simp only [if_pos ey]
      have h1 := hb70 rfl
      have h2 := hc70 rfl
      rw [show wrap64 ((x.length : Int) + (y.length : Int)) = ((x.length + y.length : Nat) : Int) by unfold wrap64; omega]
      by_cases c40 : x.length + y.length ≤ 40
      · rw [decide_eq_false (show ¬ ((x.length + y.length : Nat) : Int) > 40 by omega)]
        exact sv0 x y ex ey c40 z1 z2 (u8_wf hz1) (u8_wf hz2)
      · rw [decide_eq_true (show ((x.length + y.length : Nat) : Int) > 40 by omega)]
        exact sv_out x y z1 z2
    · simp only [if_neg ey]
      exact sv_out x y z1 z2
  · simp only [if_neg ex]
    exact sv_out x y z1 z2
end Go.Proofs.YtgflelipamofoaaDoor.PA
