/- campaign.JournalOf: by hand, in the printer's form. -/
import Derived.Test.YtgflelipamofoaaDoorHBk
import Derived.Test.YtgflelipamofoaaDoorHBu
import Derived.Test.YtgflelipamofoaaDoorHP1
namespace Go.Proofs.YtgflelipamofoaaDoor.PA
open Go.RowKit Go.Proofs.YtgflelipamofoaaDoorW.PrintWords Go.Proofs.YtgflelipamofoaaDoorW.PrintLast Go.Proofs.YtgflelipamofoaaDoorW.PrintMore Go.Proofs.YtgflelipamofoaaDoor.Own
set_option linter.unusedVariables false
set_option linter.unusedSimpArgs false
/-- The bytes of the entries' blocks. -/
def jNums (l : List S57) : List Int := l.flatMap fun x => blkNums x.f0 x.f1 x.f2 x.f3
def jBytes (l : List S57) : List UInt8 := (jNums l).map fun n => UInt8.ofNat n.toNat
def journalB (l : List S57) : ByteArray := strOfNums (jNums l)
def jOf (l : List S57) : ByteArray × Int := if (checkB l).2 = 0 then (if l.length ≤ 48 then (journalB l, 0) else (⟨#[]⟩, 32)) else (⟨#[]⟩, (checkB l).2)
def campaign_JournalOf.f (l : List S57) : Option (ByteArray × Int) := some (jOf l)
theorem chk_all : ∀ (l : List S57) (i : Int), (chkFrom l i).2 = 0 → ∀ x ∈ l, entE x = 0
  | [], _, _ => by simp
  | y :: r, i, h => by
    simp only [chkFrom] at h
    by_cases e : entE y = 0
    · rw [if_pos e] at h
      intro x hx
      rcases List.mem_cons.1 hx with rfl | hx
      · exact e
      · exact chk_all r _ h x hx
    · rw [if_neg e] at h
      exact absurd h e
theorem check_ok {l : List S57} (h : (checkB l).2 = 0) : l.length ≤ 60 ∧ ∀ x ∈ l, entE x = 0 := by
  unfold checkB at h
  by_cases c : (l.length : Int) > 60
  · rw [if_pos c] at h; simp at h
  · rw [if_neg c] at h
    exact ⟨by omega, chk_all l 0 h⟩
theorem ent_ok {x : S57} (h : entE x = 0) : 1 ≤ x.f0.size ∧ x.f0.size ≤ 20 ∧ 0 ≤ x.f1 ∧ x.f1 ≤ 1099511627775 ∧ 0 ≤ x.f2 ∧ x.f2 ≤ 4 ∧ 0 ≤ x.f3 ∧ x.f3 ≤ 200 ∧ nameB x.f0 = true := by
  unfold entE at h
  by_cases c : nameB x.f0 = true
  · rw [if_pos c] at h
    have hn := c
    unfold nameB at hn
    simp only [Bool.and_eq_true, decide_eq_true_eq] at hn
    by_cases c2 : 0 ≤ x.f1 ∧ x.f1 ≤ 1099511627775 ∧ 0 ≤ x.f2 ∧ x.f2 ≤ 4 ∧ 0 ≤ x.f3 ∧ x.f3 ≤ 200
    · exact ⟨by omega, by omega, by omega, by omega, by omega, by omega, by omega, by omega, c⟩
    · rw [if_neg c2] at h; simp at h
  · rw [if_neg c] at h; simp at h
theorem jNums_snoc (l : List S57) (k : Nat) (h : k < l.length) : jNums (l.take (k + 1)) = jNums (l.take k) ++ blkNums l[k].f0 l[k].f1 l[k].f2 l[k].f3 := by
  unfold jNums
  rw [List.take_succ_eq_append_getElem h, List.flatMap_append]
  simp
theorem jBytes_snoc (l : List S57) (k : Nat) (h : k < l.length) : Lib.byteCells (jBytes (l.take k)) ++ Lib.strCells (blockB l[k].f0 l[k].f1 l[k].f2 l[k].f3) = Lib.byteCells (jBytes (l.take (k + 1))) := by
  unfold jBytes
  rw [jNums_snoc l k h]
  simp [Lib.byteCells, Lib.strCells, blockB, strOfNums]
theorem jBytes_length (l : List S57) (hl : ∀ x ∈ l, entE x = 0) : ∀ k, k ≤ l.length → (jBytes (l.take k)).length = 32 * k := by
  intro k
  induction k with
  | zero => intro _; simp [jBytes, jNums]
  | succ k ih =>
    intro h
    have e := ent_ok (hl _ (List.getElem_mem (show k < l.length by omega)))
    have := ih (by omega)
    unfold jBytes at this ⊢
    rw [jNums_snoc l k (by omega), List.map_append, List.length_append, this, List.length_map, blkNums_length _ _ _ _ e.2.1]
    omega
theorem isBuilder_lower {T e : TypeId} {B B' b : Nat} {bs : List Value} {w : World} (h : Lib.IsBuilder T e B b bs w) (hB : B' ≤ B) : Lib.IsBuilder T e B' b bs w := by
  rcases h with ⟨h1, v, h2, h3, h4⟩ | ⟨h1, v, h2, h3, h4⟩
  · exact .inl ⟨Nat.le_trans hB h1, v, h2, own_weaken h3 hB, h4⟩
  · exact .inr ⟨Nat.le_trans hB h1, v, h2, own_weaken h3 hB, h4⟩
theorem isBuilder_below {T e : TypeId} {B b : Nat} {bs : List Value} {w w' : World} (h : Lib.IsBuilder T e B b bs w) (hb : Below w.heap.size w w') : Lib.IsBuilder T e B b bs w' := by
  have go : ∀ p, Lib.BuilderAt T e B b p bs w → Lib.BuilderAt T e B b p bs w' := by
    rintro p ⟨h1, v, h2, h3, h4⟩
    exact ⟨h1, v, (hb.block b (heap_lt h2)).trans h2, own_move h3 (fun k hk => hb.block k (h3.lt k hk).2), h4⟩
  exact h.imp (go _) (go _)
theorem blockB_size (s : ByteArray) (d v t : Int) (hs : s.size ≤ 20) : (blockB s d v t).size = 32 := by
  have := blkNums_length s d v t hs
  simp [blockB, strOfNums, ByteArray.size, this]
set_option maxHeartbeats 1000000 in
set_option maxRecDepth 100000 in
theorem campaign_JournalOf.calls (A0 : Option Addr) (c0 : Nat) (l0 : List S57) (r1 : ByteArray) (r2 : Int) (w : World) (hr0 : Kd.C k57 w A0 l0.length l0) (hc0 : l0.length ≤ c0) (h : campaign_JournalOf.f l0 = some (r1, r2)) :
    Calls Tryd.prog 20 #[.slice A0 l0.length c0] w fun e w' => e = .returned (.tuple #[.string r1, .int .i64 r2]) ∧ Below w.heap.size w w' := by
  obtain ⟨C1, hC⟩ : ∃ C, checkB l0 = C := ⟨_, rfl⟩
  obtain ⟨i1, e1⟩ := C1
  have hj : jOf l0 = (r1, r2) := Option.some.inj h
  clear h
  have hcheck := campaign_CheckEntries.calls 100 A0 c0 l0 i1 e1 w hr0 hc0 (by rw [check_eq 100 (by omega), hC])
  unfold jOf at hj
  rw [hC] at hj
  simp only at hj
  by_cases he : e1 = 0
  · subst he
    rw [if_pos rfl] at hj
    have hok := check_ok (l := l0) (by rw [hC])
    by_cases h48 : l0.length ≤ 48
    · rw [if_pos h48] at hj
      obtain ⟨rfl, rfl⟩ := Prod.mk.inj hj
      have HR := Aside0.mk hr0
      have HOK := Lib.hid hok.2
      have h60 := hok.1
      clear hok hC hj hr0
      go_enter Tryd.func20, Tryd.ntmps20
      go_wp2_with (first | (go_at_call 29; refine hcheck.mono ?_; rintro e w1 ⟨rfl, hb1⟩))
      have HB0 := Aside0.mk (hb1.alloc hb1.size (.cells #[.pointer none, .slice none 0 0] 77))
      have hbw := hb1.size
      have HBu := Aside0.mk (Lib.fresh_isBuilder 77 5 w1)
      obtain ⟨b, hb⟩ : ∃ b, w1.heap.size = b := ⟨_, rfl⟩
      have HBu2 : Aside0 (Lib.IsBuilder 77 5 w.heap.size b (Lib.byteCells (jBytes (l0.take 0))) (w1.alloc (.cells #[.pointer none, .slice none 0 0] 77))) := by
        refine ⟨?_⟩
        have := isBuilder_lower (B' := w.heap.size) HBu.out hbw
        rw [hb] at this
        simpa [jBytes, jNums, Lib.byteCells] using this
      clear HBu hb1
      rw [hb] at hbw ⊢
      go_loopw [22, 8] (fun i p wr => ∃ k : Nat, k ≤ l0.length ∧ i = .int .i64 k ∧ Aside0 (Lib.IsBuilder 77 5 w.heap.size b (Lib.byteCells (jBytes (l0.take k))) wr) ∧ Aside0 (Below w.heap.size w wr)) (fun i _ _ => l0.length - (intOf i).toNat)
      case atStart => exact ⟨0, Nat.zero_le _, rfl, HBu2, HB0⟩
      case round =>
        obtain ⟨k, hk, rfl, HBu, HL⟩ := hrel
        by_cases hlt : k < l0.length
        · obtain ⟨ad, e216, hx0, hx1, hx2, hx3⟩ := at_T57 HR.out (k : Int) (by omega) (by omega)
          cases e216
          replace hx0 := (HL.out.cell (World.block_lt_of_cell? w _ hx0)).trans hx0
          replace hx1 := (HL.out.cell (World.block_lt_of_cell? w _ hx1)).trans hx1
          replace hx2 := (HL.out.cell (World.block_lt_of_cell? w _ hx2)).trans hx2
          replace hx3 := (HL.out.cell (World.block_lt_of_cell? w _ hx3)).trans hx3
          have hw := HL.out.size
          obtain ⟨x, hxe⟩ : ∃ x, rd_T57 l0 (k : Int) = x := ⟨_, rfl⟩
          rw [Int.toNat_natCast] at hx0 hx1 hx2 hx3
          rw [hxe] at hx0 hx1 hx2 hx3
          have hxm : x = l0[k] := by rw [← hxe]; simp [rd_T57, hlt]
          have hxo := ent_ok (HOK.out x (by rw [hxm]; exact List.getElem_mem _))
          obtain ⟨o1, o2, o3, o4, o5, o6, o7, o8, _⟩ := hxo
          have hnew := jBytes_snoc l0 k hlt
          rw [← hxm] at hnew
          have HNEW := Lib.hid hnew
          clear hxe hxm hnew
          go_wp2_with (first | (go_at_call 30; refine (blockOf_calls x.f0 x.f1 x.f2 x.f3 o2 o3 o4 o5 o6 o7 o8 _).mono ?_; rintro e w2 ⟨rfl, hb2⟩; have HBu2 := Aside0.mk (isBuilder_below (isBuilder_below HBu.out ((Below.refl _ wr).alloc (Nat.le_refl _) _)) hb2); have HL2 := Aside0.mk (below_step (HL.out.alloc hw _) hb2); clear HBu HL hb2) | (go_at_call 35; refine (Tryd.Builder_WriteString w.heap.size b _ _ _ HBu2.out (by rw [Lib.byteCells_length, jBytes_length l0 HOK.out k (by omega), blockB_size _ _ _ _ o2]; omega) HL2.out.size).mono ?_; rintro e w3 ⟨rfl, h3, hb3⟩; rw [HNEW.out] at h3; have HBu3 := Aside0.mk h3; have HL3 := Aside0.mk (HL2.out.trans hb3); clear HBu2 HL2 h3 hb3))
          go_roundw
          case rel => exact ⟨k + 1, by omega, by go_num, ⟨.inr HBu3.out⟩, HL3⟩
          case measure => simp [intOf]; omega
        · obtain rfl : k = l0.length := by omega
          have HBu2 := HBu
          rw [List.take_length] at HBu2
          clear HBu
          go_wp2_with (go_at_call 36; refine (Tryd.Builder_String w.heap.size b (jBytes l0) _ HBu2.out HL.out.size).mono ?_; rintro e w3 ⟨rfl, hb3⟩; have HL3 := Aside0.mk (HL.out.trans hb3); clear hb3 HL HBu2)
          go_ret2
          exact ⟨rfl, HL3.out⟩
    · rw [if_neg h48] at hj
      obtain ⟨rfl, rfl⟩ := Prod.mk.inj hj
      have hlt : 48 < l0.length := by omega
      clear hC hj hr0
      go_enter Tryd.func20, Tryd.ntmps20
      go_wp2_with (first | (go_at_call 29; refine hcheck.mono ?_; rintro e w1 ⟨rfl, hb1⟩))
      go_ret2
      exact ⟨rfl, hb1⟩
  · rw [if_neg he] at hj
    obtain ⟨rfl, rfl⟩ := Prod.mk.inj hj
    have he1 : (e1 == 0) = false := beq_eq_false_iff_ne.mpr he
    have he2 : (e1 != 0) = true := bne_iff_ne.mpr he
    clear hC hj hr0 he
    go_enter Tryd.func20, Tryd.ntmps20
    go_wp2_with (first | (go_at_call 29; refine hcheck.mono ?_; rintro e w1 ⟨rfl, hb1⟩))
    go_ret2
    exact ⟨rfl, hb1⟩
end Go.Proofs.YtgflelipamofoaaDoor.PA
