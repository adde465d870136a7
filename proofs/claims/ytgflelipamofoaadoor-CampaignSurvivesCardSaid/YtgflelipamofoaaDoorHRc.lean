/- campaign.Recovered: the entries of a journal, and the blocks that make it clean: by hand, in the printer's form. -/
import Derived.Test.YtgflelipamofoaaDoorPAx6
import Derived.Test.YtgflelipamofoaaDoorPAx5
namespace Go.Proofs.YtgflelipamofoaaDoor.PA
open Go Go.RowKit Go.Proofs.YtgflelipamofoaaDoorW.PrintWords Go.Proofs.YtgflelipamofoaaDoorW.PrintLast Go.Proofs.YtgflelipamofoaaDoorW.PrintMore
set_option linter.unusedVariables false
set_option linter.unusedSimpArgs false
/-- 32 zeros. -/
def zeroB : ByteArray := strOfNums (List.replicate 32 0)
/-- The blocks behind the entries that are not clean, as writes of zeros. -/
def recFrom (n : Nat) : List ByteArray → Nat → List S66
  | [], _ => []
  | b :: r, i => (if n ≤ i ∧ b ≠ zeroB then [(⟨(i : Int), zeroB⟩ : S66)] else []) ++ recFrom n r (i + 1)
theorem recFrom_append (n : Nat) : ∀ (a b : List ByteArray) (i : Nat), recFrom n (a ++ b) i = recFrom n a i ++ recFrom n b (i + a.length)
  | [], b, i => by simp [recFrom]
  | x :: a, b, i => by
    rw [List.cons_append, recFrom, recFrom, recFrom_append n a b (i + 1), List.append_assoc, List.length_cons, show i + 1 + a.length = i + (a.length + 1) by omega]
theorem recFrom_take (n : Nat) (bs : List ByteArray) (j : Nat) (h : j < bs.length) : recFrom n (bs.take (j + 1)) 0 = recFrom n (bs.take j) 0 ++ (if n ≤ j ∧ bs[j] ≠ zeroB then [(⟨(j : Int), zeroB⟩ : S66)] else []) := by
  rw [List.take_succ_eq_append_getElem h, recFrom_append, List.length_take, Nat.min_eq_left (by omega), Nat.zero_add, recFrom, recFrom, List.append_nil]
theorem recFrom_length (n : Nat) : ∀ (a : List ByteArray) (i : Nat), (recFrom n a i).length ≤ a.length
  | [], _ => by simp [recFrom]
  | x :: a, i => by
    have := recFrom_length n a (i + 1)
    rw [recFrom, List.length_append]
    split <;> simp <;> omega
theorem own_shape {w : World} {base : Nat} {e : TypeId} {size : Nat} {v : Value} {k : Nat} {xs : List Value} (h : w.ownsRow base e size v k xs) : ∃ A c, v = .slice A k c ∧ k ≤ c := by
  rcases h.2 with ⟨rfl, rfl⟩ | ⟨g, cap, cur, rfl, _, _, h3, h4, _⟩
  · exact ⟨_, _, rfl, Nat.le_refl _⟩
  · exact ⟨_, _, rfl, by omega⟩
theorem heap_ltR {w : World} {g : Nat} {o : Obj} (h : w.heap[g]? = some o) : g < w.heap.size := (Array.getElem?_eq_some_iff.1 h).1
theorem str_at {w : World} {base : Nat} {A : Option Addr} {c : Nat} {bs : List ByteArray} (h : w.ownsRow base 9 1 (.slice A bs.length c) bs.length (encs Value.string bs)) (j : Nat) (hj : j < bs.length) :
    ∃ g, A = some ⟨g, 0, none⟩ ∧ w.cell? ⟨g, j, none⟩ = some (.string bs[j]) := by
  rcases h.2 with ⟨e, h0⟩ | ⟨g, cap, cur, e, _⟩
  · omega
  · injection e with e1 _ _
    subst e1
    have hh := h.cells (g := g) rfl j (.string bs[j]) (by simp [encs, hj])
    rw [Addr.add_lit, Nat.zero_add] at hh
    exact ⟨g, rfl, hh⟩
theorem zero_str {W : World} {z : Nat} {fr : Nat × Nat} (h : W.heap[z]? = some (.cells (Array.replicate 32 (.int .u8 0)) 72 fr)) :
    (convert 45 9 (.slice (some ⟨z, 0, none⟩) 32 32)).run Tryd.prog W = .ok (.string zeroB) W := by
  refine run_convert_bytes_arg (P := Tryd.prog) (w := W) 45 5 Tryd.underlying45 Tryd.underlying5 z 0 32 32 (List.replicate 32 0) (by simp) (fun i hi => ?_) 9 Tryd.underlying9
  have e : (List.replicate 32 (0 : Int)).getD i 0 = 0 := by
    rw [List.getD_eq_getElem?_getD, List.getElem?_replicate]
    split <;> rfl
  rw [e]
  simp only [World.cell?, h, Nat.zero_add]
  simp [hi, Array.getElem?_replicate]
set_option maxHeartbeats 4000000 in
set_option maxRecDepth 100000 in
theorem recovered_yes (s : ByteArray) (k : Nat) (l : List S57) (bs : List ByteArray) (h0 : campaign_bytesErr.f s = some 0) (h1 : campaign_entries.f k s = some l) (h2 : campaign_blocks.f s = some bs) (hl : bs.length ≤ 100000) (w : World) :
    Calls Tryd.prog 16 #[.string s] w fun e w' => ∃ v0_ v1_ : Value, e = .returned (.tuple #[v0_, v1_, .int .i64 0]) ∧ Kd.R k57 57 w' w.heap.size (fun _ => True) v0_ l ∧ Kd.R k66 66 w' w.heap.size (fun _ => True) v1_ (recFrom l.length bs 0) ∧ Below w.heap.size w w' := by
  go_enter Tryd.func16, Tryd.ntmps16
  go_wp2_with (first
    | (go_at_call 26; refine (campaign_bytesErr.calls s 0 _ h0).mono ?_; rintro e w1 ⟨rfl, hd1⟩)
    | (go_at_call 27; refine (campaign_entries.calls k s l _ h1).mono ?_; rintro e w2 ⟨v6, rfl, hl6, hb2⟩; obtain ⟨A6, c6, rfl, hc6⟩ := (Kd.R_own hl6).elim (fun _ h => own_shape h))
    | (go_at_call 28; refine (campaign_blocks.calls s bs _ h2).mono ?_; rintro e w4 ⟨v19, rfl, hbs, hb4⟩; obtain ⟨A19, c19, rfl, hc19⟩ := own_shape (Kd.own_of_R hbs)))
  have hw1 : Below w.heap.size w w1 := hd1.below
  have hz2 : w4.heap[w2.heap.size]? = some (.cells (Array.replicate 32 (.int .u8 0)) 72 (0, 0)) := (hb4.block w2.heap.size (by simp)).trans (heap_alloc_new w2 _)
  have hbs2 := Kd.own_of_R hbs
  have ha2 : Below w2.heap.size w2 w4 := ((Below.refl _ w2).alloc (Nat.le_refl _) (.cells (Array.replicate 32 (.int .u8 0)) 72)).trans (hb4.mono (by simp))
  have hl4 : Kd.R k57 57 w4 w.heap.size (fun _ => True) (.slice A6 l.length c6) l := Kd.R_lower (Kd.R_below hl6 ha2) hw1.size
  have hw4 : Below w.heap.size w w4 := (hw1.trans (hb2.mono hw1.size)).trans (ha2.mono (Nat.le_trans hw1.size hb2.size))
  clear hl6 hbs hb4 hb2 hd1 hw1 ha2
  have HBS := Aside0.mk hbs2
  have HL4 := Aside0.mk hl4
  have HW4 := Aside0.mk hw4
  have HZ := Aside0.mk hz2
  obtain ⟨z, hze⟩ : ∃ z, w2.heap.size = z := ⟨_, rfl⟩
  rw [hze] at HZ ⊢
  clear hbs2 hl4 hw4 hz2 hze
  go_loopw [21, 8, 9, 10] (fun i o _ _ wr => ∃ j : Nat, j ≤ bs.length ∧ i = .int .i64 j ∧ Aside0 (Kd.R k66 66 wr w4.heap.size (fun _ => True) o (recFrom l.length (bs.take j) 0)) ∧ Aside0 (Below w4.heap.size w4 wr)) (fun i _ _ _ _ => bs.length - (intOf i).toNat)
  case atStart => exact ⟨0, Nat.zero_le _, rfl, ⟨by rw [List.take_zero]; exact Kd.R_nil _ _ _ _ _⟩, ⟨Below.refl _ _⟩⟩
  case round =>
    obtain ⟨j, hj, rfl, HO, HL⟩ := hrel
    by_cases hlt : j < bs.length
    · obtain ⟨g, rfl, hx⟩ := str_at HBS.out j hlt
      replace hx := (HL.out.cell (World.block_lt_of_cell? w4 _ hx)).trans hx
      have hzs := zero_str ((HL.out.block z (heap_ltR HZ.out)).trans HZ.out)
      have hnew := recFrom_take l.length bs j hlt
      obtain ⟨b, hb⟩ : ∃ b, bs[j] = b := ⟨_, rfl⟩
      rw [hb] at hx hnew
      obtain ⟨o, ho⟩ : ∃ o, recFrom l.length (bs.take j) 0 = o := ⟨_, rfl⟩
      rw [ho] at HO hnew
      have hol : o.length ≤ 100000 := by rw [← ho]; have := recFrom_length l.length (bs.take j) 0; rw [List.length_take] at this; omega
      clear hb ho
      by_cases hge : l.length ≤ j
      · have c1 : decide ((l.length : Int) ≤ (j : Int)) = true := decide_eq_true (by omega)
        by_cases hne : b = zeroB
        · subst hne
          rw [if_neg (by rintro ⟨_, h⟩; exact h rfl), List.append_nil] at hnew
          go_wp2
          go_roundw
          case rel => exact ⟨j + 1, by omega, by go_num, ⟨by rw [hnew]; exact HO.out⟩, HL⟩
          case measure => simp [intOf]; omega
        · rw [if_pos ⟨hge, hne⟩] at hnew
          have c2 : (b.toList == zeroB.toList) = false := by
            rw [beq_eq_false_iff_ne]
            intro e
            rw [ByteArray.toList_eq, ByteArray.toList_eq] at e
            exact hne (ByteArray.ext (Array.toList_inj.1 e))
          go_wp2_with ((with_reducible refine gate_builtin (b := .append) (xs := #[.tmp 36, .tmp 41]) rfl ?_); at_builtin; refine Kd.R_append k66 (w0 := w4) w4.heap.size rfl (.tmp 36) (.tmp 41) 27 66 (.agg #[(.int .i64 0), (.string ⟨#[]⟩)]) 24 rfl Tryd.underlying27 info66 rfl (by decide) (by omega) u8 o (⟨(j : Int), zeroB⟩ : S66) [.int .i64 (j : Int), .string zeroB] (fun _ => True) (fun _ => False) rfl rfl (k66_mkM _ _ _ _) (fun _ hk => hk.elim) (fun _ _ => trivial) HO.out HL.out HL.out.size (by omega) ?_; intro v5 w5 ho hb hg hat; rw [← hnew] at ho; have HO2 := Aside0.mk ho; have HL2 := Aside0.mk hb; clear hb hg hat ho HO HL hnew hol)
          go_roundw
          case rel => exact ⟨j + 1, by omega, by go_num, HO2, HL2⟩
          case measure => simp [intOf]; omega
      · have c1 : decide ((l.length : Int) ≤ (j : Int)) = false := decide_eq_false (by omega)
        rw [if_neg (by rintro ⟨h, _⟩; exact hge h), List.append_nil] at hnew
        go_wp2
        go_roundw
        case rel => exact ⟨j + 1, by omega, by go_num, ⟨by rw [hnew]; exact HO.out⟩, HL⟩
        case measure => simp [intOf]; omega
    · obtain rfl : j = bs.length := by omega
      have HO2 := HO
      rw [List.take_length] at HO2
      clear HO
      go_wp2
      go_ret3
      exact ⟨_, _, rfl, Kd.R_below HL4.out HL.out, Kd.R_lower HO2.out HW4.out.size, HW4.out.trans (HL.out.mono HW4.out.size)⟩
/-- The error: nothing. -/
theorem recovered_no (s : ByteArray) (e : Int) (he : e ≠ 0) (h0 : campaign_bytesErr.f s = some e) (w : World) :
    Calls Tryd.prog 16 #[.string s] w fun x w' => x = .returned (.tuple #[.slice none 0 0, .slice none 0 0, .int .i64 e]) ∧ Below w.heap.size w w' := by
  have c1 : (e != 0) = true := bne_iff_ne.mpr he
  go_enter Tryd.func16, Tryd.ntmps16
  go_wp2_with (go_at_call 26; refine (campaign_bytesErr.calls s e _ h0).mono ?_; rintro e w1 ⟨rfl, hd1⟩)
  go_ret3
  exact ⟨rfl, hd1.below⟩
/-- The entries of blocks, up to the first one that has none. -/
def entsL : List ByteArray → List S57
  | [] => []
  | b :: r => if (entOf b).2.2.2.2 = true then ⟨(entOf b).1, (entOf b).2.1, (entOf b).2.2.1, (entOf b).2.2.2.1⟩ :: entsL r else []
def entsB (s : ByteArray) : List S57 := entsL (blocksB s)
theorem chunkB_size (s : ByteArray) (h : s.size % 32 = 0) (k : Nat) (hk : k < (s.size + 31) / 32) : (chunkB s k).size = 32 := by
  rw [chunkB, ByteArray.size_extract]; omega
theorem blocks_size (s : ByteArray) (h : s.size % 32 = 0) : ∀ b ∈ blocksB s, b.size = 32 := by
  intro b hb
  simp only [blocksB, List.mem_map, List.mem_range] at hb
  obtain ⟨k, hk, rfl⟩ := hb
  exact chunkB_size s h k hk
theorem blocks_length (s : ByteArray) : (blocksB s).length = (s.size + 31) / 32 := by simp [blocksB]
theorem entries_l0 (bs : List ByteArray) (hb : ∀ b ∈ bs, b.size = 32) (hl : bs.length ≤ 100000) : ∀ (k j : Nat) (acc : List S57), j ≤ bs.length → bs.length - j < k → acc.length ≤ 100000 + j → campaign_entries.l0 k acc bs (bs.length : Int) (j : Int) = some (acc ++ entsL (bs.drop j))
  | 0, j, acc, _, h, _ => absurd h (by omega)
  | k + 1, j, acc, hj, h, ha => by
    rw [campaign_entries.l0]
    by_cases c : j < bs.length
    · have hx : rdOf ByteArray.empty bs (j : Int) = bs[j] := by simp [rdOf, List.getD_eq_getElem?_getD, c]
      rw [if_pos (show (j : Int) < (bs.length : Int) by omega), if_pos (show (0 : Int) ≤ (j : Int) by omega), if_pos (show (j : Int) < (bs.length : Int) by omega), hx, campaign_entryOf.f, if_pos (hb _ (List.getElem_mem c)), Option.bind_some, List.drop_eq_getElem_cons c, entsL]
      by_cases c2 : (entOf bs[j]).2.2.2.2 = true
      · rw [if_pos c2, if_pos (show acc.length < 3518437208883 by omega), if_pos c2, show wrap64 ((j : Int) + 1) = ((j + 1 : Nat) : Int) by unfold wrap64; omega,
          entries_l0 bs hb hl k (j + 1) _ (by omega) (by omega) (by simp; omega), List.append_assoc]
        rfl
      · rw [if_neg c2, if_neg c2, List.append_nil]
    · obtain rfl : j = bs.length := by omega
      rw [if_neg (by omega), List.drop_length, entsL, List.append_nil]
theorem entries_eq (s : ByteArray) (h : s.size % 32 = 0) (hs : s.size ≤ 100000) (k : Nat) (hk : (s.size + 31) / 32 < k) : campaign_entries.f k s = some (entsB s) := by
  unfold campaign_entries.f campaign_blocks.f
  rw [if_pos hs, Option.bind_some]
  have := entries_l0 (blocksB s) (blocks_size s h) (by rw [blocks_length]; omega) k 0 [] (by omega) (by rw [blocks_length]; omega) (by simp)
  simpa [entsB] using this
def recOf (s : ByteArray) : List S57 × List S66 × Int :=
  if s.size % 32 = 0 then (if s.size ≤ 1536 then (entsB s, recFrom (entsB s).length (blocksB s) 0, 0) else ([], [], 2)) else ([], [], 19)
def campaign_Recovered.f (s : ByteArray) : Option (List S57 × List S66 × Int) := some (recOf s)
theorem bytesErr_eq (s : ByteArray) : campaign_bytesErr.f s = some (if s.size % 32 = 0 then (if s.size ≤ 1536 then 0 else 2) else 19) := by
  unfold campaign_bytesErr.f
  by_cases h : s.size % 32 = 0
  · rw [if_pos (show (s.size : Int) % 32 = 0 by omega), if_pos h]
    by_cases h2 : s.size ≤ 1536
    · rw [if_neg (show ¬ (s.size : Int) > 1536 by omega), if_pos h2]
    · rw [if_pos (show (s.size : Int) > 1536 by omega), if_neg h2]
  · rw [if_neg (show ¬ (s.size : Int) % 32 = 0 by omega), if_neg h]
theorem campaign_Recovered.calls (a0 : ByteArray) (r1 : List S57) (r2 : List S66) (r3 : Int) (w : World) (h : campaign_Recovered.f a0 = some (r1, r2, r3)) :
    Calls Tryd.prog 16 #[.string a0] w fun e w' => ∃ v0_ v1_ : Value, e = .returned (.tuple #[v0_, v1_, .int .i64 r3]) ∧ Kd.R k57 57 w' w.heap.size (fun _ => True) v0_ r1 ∧ Kd.R k66 66 w' w.heap.size (fun _ => True) v1_ r2 ∧ Below w.heap.size w w' := by
  have hE := bytesErr_eq a0
  have h' := Option.some.inj h
  unfold recOf at h'
  by_cases c1 : a0.size % 32 = 0
  · rw [if_pos c1] at h' hE
    by_cases c2 : a0.size ≤ 1536
    · rw [if_pos c2] at h' hE
      simp only [Prod.mk.injEq] at h'
      obtain ⟨rfl, rfl, rfl⟩ := h'
      exact recovered_yes a0 100 (entsB a0) (blocksB a0) hE (entries_eq a0 c1 (by omega) 100 (by omega)) (by unfold campaign_blocks.f; rw [if_pos (by omega)]) (by rw [blocks_length]; omega) w
    · rw [if_neg c2] at h' hE
      simp only [Prod.mk.injEq] at h'
      obtain ⟨rfl, rfl, rfl⟩ := h'
      refine (recovered_no a0 2 (by decide) hE w).mono ?_
      rintro e w' ⟨rfl, hb⟩
      exact ⟨_, _, rfl, Kd.R_nil _ _ _ _ _, Kd.R_nil _ _ _ _ _, hb⟩
  · rw [if_neg c1] at h' hE
    simp only [Prod.mk.injEq] at h'
    obtain ⟨rfl, rfl, rfl⟩ := h'
    refine (recovered_no a0 19 (by decide) hE w).mono ?_
    rintro e w' ⟨rfl, hb⟩
    exact ⟨_, _, rfl, Kd.R_nil _ _ _ _ _, Kd.R_nil _ _ _ _ _, hb⟩
end Go.Proofs.YtgflelipamofoaaDoor.PA
