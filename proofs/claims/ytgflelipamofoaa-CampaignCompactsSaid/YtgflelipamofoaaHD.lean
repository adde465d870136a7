/- campaign.Compacted: by hand, in the printer's form. -/
import Derived.Test.YtgflelipamofoaaHB
namespace Go.Proofs.Ytgflelipamofoaa.PA
open Go.RowKit Go.Proofs.YtgflelipamofoaaW.PrintWords Go.Proofs.YtgflelipamofoaaW.PrintLast Go.Proofs.YtgflelipamofoaaW.PrintMore Go.Proofs.Ytgflelipamofoaa.Own
set_option linter.unusedVariables false
set_option linter.unusedSimpArgs false
def sameTest (s : ByteArray) (y : S61) : Bool := decide (y.f0 = s)
/-- Of each test the last entry. -/
def compF : List S61 → List S61
  | [] => []
  | x :: r => if r.any (sameTest x.f0) = true then compF r else x :: compF r
def compB (l : List S61) : List S61 × Int := if (checkB l).2 = 0 then (compF l, 0) else ([], (checkB l).2)
def campaign_Compacted.f (l : List S61) : Option (List S61 × Int) := some (compB l)
theorem beq_toList (a b : ByteArray) : (a.toList == b.toList) = decide (a = b) := by
  rw [Bool.eq_iff_iff]
  simp only [beq_iff_eq, decide_eq_true_eq]
  rw [ByteArray.toList_eq, ByteArray.toList_eq]
  exact ⟨fun h => ByteArray.ext (Array.ext' h), fun h => by rw [h]⟩
set_option maxHeartbeats 1000000 in
theorem closure44 (y : S61) (s : ByteArray) (b : Nat) (w : World) (hc : w.cell? ⟨b, 0, none⟩ = some (.string s)) :
    Calls Try.prog 44 #[.agg #[.string y.f0, .int .i64 y.f1, .int .i64 y.f2, .int .i64 y.f3], .pointer (some ⟨b, 0, none⟩)] w fun e w' => e = .returned (.bool (sameTest s y)) ∧ Below w.heap.size w w' := by
  have hlt := World.block_lt_of_cell? w _ hc
  go_enter Try.func44, Try.ntmps44
  go_wp2
  go_ret
  exact ⟨by rw [sameTest, ← beq_toList]; rfl, (Below.refl _ w).alloc (Nat.le_refl _) _⟩
set_option maxHeartbeats 1000000 in
set_option maxRecDepth 100000 in
theorem index_calls (A0 : Option Addr) (c0 : Nat) (l : List S61) (s : ByteArray) (b : Nat) (w : World) (hr0 : Kd.C k61 w A0 l.length l) (hc0 : l.length ≤ c0) (hc : w.cell? ⟨b, 0, none⟩ = some (.string s)) :
    Calls Try.prog 53 #[.slice A0 l.length c0, .func (.func 44) #[] #[.pointer (some ⟨b, 0, none⟩)]] w fun e w' => (∃ r : Int, e = .returned (.int .i64 r) ∧ -1 ≤ r ∧ decide (0 ≤ r) = l.any (sameTest s)) ∧ Below w.heap.size w w' := by
  have HR := Aside0.mk hr0
  have HC := Aside0.mk hc
  have hn := hr0.2.1
  obtain ⟨B, hB⟩ : ∃ B, l.any (sameTest s) = B := ⟨_, rfl⟩
  rw [hB]
  have HB := Lib.hid hB
  clear hr0 hc hB
  go_enter Try.func53, Try.ntmps53
  go_wp2
  go_loopw [8, 5] (fun i p wr => ∃ k : Nat, k ≤ l.length ∧ i = .int .i64 k ∧ Hid ((l.drop k).any (sameTest s) = B) ∧ Aside0 (Below w.heap.size w wr)) (fun i _ _ => l.length - (intOf i).toNat)
  case atStart => exact ⟨0, Nat.zero_le _, rfl, HB, ⟨Below.refl _ _⟩⟩
  case round =>
    obtain ⟨k, hk, rfl, HE, HL⟩ := hrel
    by_cases hlt : k < l.length
    · obtain ⟨ad, e216, hx0, hx1, hx2, hx3⟩ := at_T61 HR.out (k : Int) (by omega) (by omega)
      cases e216
      replace hx0 := (HL.out.cell (World.block_lt_of_cell? w _ hx0)).trans hx0
      replace hx1 := (HL.out.cell (World.block_lt_of_cell? w _ hx1)).trans hx1
      replace hx2 := (HL.out.cell (World.block_lt_of_cell? w _ hx2)).trans hx2
      replace hx3 := (HL.out.cell (World.block_lt_of_cell? w _ hx3)).trans hx3
      have hcb := (HL.out.cell (World.block_lt_of_cell? w _ HC.out)).trans HC.out
      obtain ⟨x, hxe⟩ : ∃ x, rd_T61 l (k : Int) = x := ⟨_, rfl⟩
      rw [Int.toNat_natCast] at hx0 hx1 hx2 hx3
      rw [hxe] at hx0 hx1 hx2 hx3
      have hxm : l[k] = x := by rw [← hxe]; simp [rd_T61, hlt]
      have he := HE.out
      rw [List.drop_eq_getElem_cons hlt, List.any_cons, hxm] at he
      clear hxe hxm HE
      cases hs : sameTest s x with
      | true =>
        rw [hs, Bool.true_or] at he
        subst he
        have HS := Lib.hid hs
        clear hs
        go_wp2_with (go_at_call 44; refine (closure44 x s b _ hcb).mono ?_; rintro e w2 ⟨rfl, hb2⟩; rw [HS.out]; have HL2 := Aside0.mk (below_step HL.out hb2); clear hb2 HL)
        go_ret
        exact ⟨⟨_, rfl, by omega, by simp⟩, HL2.out⟩
      | false =>
        rw [hs, Bool.false_or] at he
        have HS := Lib.hid hs
        have HE := Lib.hid he
        clear hs he
        go_wp2_with (go_at_call 44; refine (closure44 x s b _ hcb).mono ?_; rintro e w2 ⟨rfl, hb2⟩; rw [HS.out]; have HL2 := Aside0.mk (below_step HL.out hb2); clear hb2 HL)
        go_roundw
        case rel => exact ⟨k + 1, by omega, by go_num, HE, HL2⟩
        case measure => simp [intOf]; omega
    · obtain rfl : k = l.length := by omega
      have hb : false = B := by have := HE.out; rwa [List.drop_length] at this
      subst hb
      go_wp2
      go_ret
      exact ⟨⟨-1, rfl, by omega, by decide⟩, HL.out⟩
set_option maxHeartbeats 1000000 in
set_option maxRecDepth 100000 in
theorem contains_calls (A0 : Option Addr) (c0 : Nat) (l : List S61) (s : ByteArray) (b : Nat) (w : World) (hr0 : Kd.C k61 w A0 l.length l) (hc0 : l.length ≤ c0) (hc : w.cell? ⟨b, 0, none⟩ = some (.string s)) :
    Calls Try.prog 43 #[.slice A0 l.length c0, .func (.func 44) #[] #[.pointer (some ⟨b, 0, none⟩)]] w fun e w' => e = .returned (.bool (l.any (sameTest s))) ∧ Below w.heap.size w w' := by
  have hi := index_calls A0 c0 l s b w hr0 hc0 hc
  obtain ⟨B, hB⟩ : ∃ B, l.any (sameTest s) = B := ⟨_, rfl⟩
  rw [hB] at hi ⊢
  clear hr0 hc hB
  go_enter Try.func43, Try.ntmps43
  go_wp2_with (go_at_call 53; refine hi.mono ?_; rintro e w2 ⟨⟨r, rfl, hr1, hr2⟩, hb2⟩)
  go_ret
  exact ⟨by rw [← hr2]; rfl, hb2⟩
theorem contains_calls' (A0 : Option Addr) (n c0 : Nat) (l : List S61) (hn : l.length = n) (s : ByteArray) (b : Nat) (w : World) (hr0 : Kd.C k61 w A0 l.length l) (hc0 : n ≤ c0) (hc : w.cell? ⟨b, 0, none⟩ = some (.string s)) :
    Calls Try.prog 43 #[.slice A0 n c0, .func (.func 44) #[] #[.pointer (some ⟨b, 0, none⟩)]] w fun e w' => e = .returned (.bool (l.any (sameTest s))) ∧ Below w.heap.size w w' := by
  subst hn
  exact contains_calls A0 c0 l s b w hr0 hc0 hc
theorem box4 {w w2 : World} {a b c d : Value} {T : TypeId} (hb : Below (w.alloc (.cells #[a, b, c, d] T)).heap.size (w.alloc (.cells #[a, b, c, d] T)) w2) : w2.cell? ⟨w.heap.size, 0, none⟩ = some a ∧ w2.cell? ⟨w.heap.size, 1, none⟩ = some b ∧ w2.cell? ⟨w.heap.size, 2, none⟩ = some c ∧ w2.cell? ⟨w.heap.size, 3, none⟩ = some d := by
  have h := (hb.block w.heap.size (by simp)).trans (heap_alloc_new w (.cells #[a, b, c, d] T))
  simp [World.cell?, h]
theorem compF_length : ∀ l : List S61, (compF l).length ≤ l.length
  | [] => Nat.le_refl _
  | x :: r => by
    simp only [compF]
    have := compF_length r
    split <;> simp <;> omega
set_option maxHeartbeats 2000000 in
set_option maxRecDepth 100000 in
theorem campaign_Compacted.calls (A0 : Option Addr) (c0 : Nat) (l0 : List S61) (r1 : List S61) (r2 : Int) (w : World) (hr0 : Kd.C k61 w A0 l0.length l0) (hc0 : l0.length ≤ c0) (h : campaign_Compacted.f l0 = some (r1, r2)) :
    Calls Try.prog 20 #[.slice A0 l0.length c0] w fun e w' => ∃ v0_ : Value, e = .returned (.tuple #[v0_, .int .i64 r2]) ∧ Kd.R k61 61 w' w.heap.size (fun _ => True) v0_ r1 ∧ Below w.heap.size w w' := by
  obtain ⟨C1, hC⟩ : ∃ C, checkB l0 = C := ⟨_, rfl⟩
  obtain ⟨i1, e1⟩ := C1
  have hj : compB l0 = (r1, r2) := Option.some.inj h
  clear h
  have hcheck := campaign_CheckEntries.calls 100 A0 c0 l0 i1 e1 w hr0 hc0 (by rw [check_eq 100 (by omega), hC])
  unfold compB at hj
  rw [hC] at hj
  simp only at hj
  by_cases he : e1 = 0
  · subst he
    rw [if_pos rfl] at hj
    have hok := check_ok (l := l0) (by rw [hC])
    obtain ⟨rfl, rfl⟩ := Prod.mk.inj hj
    have HR := Aside0.mk hr0
    have hl60 := hok.1
    have hmf : ∀ (fn : Fn) (first cap : Array Value) (w : World), (Instr.makeFunc fn first cap).run Try.prog w = .ok (.func fn first cap) w := fun _ _ _ _ => rfl
    obtain ⟨i0, hi, hz0, hz1, hz2⟩ := info_parts info61
    clear hok hC hj hr0
    go_enter Try.func20, Try.ntmps20
    go_wp2_with (first | (go_at_call 18; refine hcheck.mono ?_; rintro e w1 ⟨rfl, hb1⟩))
    have HB0 := Aside0.mk hb1
    have HV0 := Aside0.mk (Kd.R_nil k61 61 w1 w.heap.size (fun _ => True))
    clear hb1
    go_loopw [19, 6] (fun i v wr => ∃ (k : Nat) (acc : List S61), k ≤ l0.length ∧ i = .int .i64 k ∧ Hid (acc ++ compF (l0.drop k) = compF l0) ∧ Aside0 (Kd.R k61 61 wr w.heap.size (fun _ => True) v acc) ∧ Aside0 (Below w.heap.size w wr)) (fun i _ _ => l0.length - (intOf i).toNat)
    case atStart => exact ⟨0, [], Nat.zero_le _, rfl, Lib.hid rfl, HV0, HB0⟩
    case round =>
      obtain ⟨k, acc, hk, rfl, HE, HV, HL⟩ := hrel
      by_cases hlt : k < l0.length
      · obtain ⟨ad, e216, hx0, hx1, hx2, hx3⟩ := at_T61 HR.out (k : Int) (by omega) (by omega)
        cases e216
        replace hx0 := (HL.out.cell (World.block_lt_of_cell? w _ hx0)).trans hx0
        replace hx1 := (HL.out.cell (World.block_lt_of_cell? w _ hx1)).trans hx1
        replace hx2 := (HL.out.cell (World.block_lt_of_cell? w _ hx2)).trans hx2
        replace hx3 := (HL.out.cell (World.block_lt_of_cell? w _ hx3)).trans hx3
        have hw := HL.out.size
        obtain ⟨x, hxe⟩ : ∃ x, rd_T61 l0 (k : Int) = x := ⟨_, rfl⟩
        rw [Int.toNat_natCast] at hx0 hx1 hx2 hx3
        rw [hxe] at hx0 hx1 hx2 hx3
        have hxm : l0[k] = x := by rw [← hxe]; simp [rd_T61, hlt]
        have he := HE.out
        rw [List.drop_eq_getElem_cons hlt, hxm] at he
        simp only [compF] at he
        clear hxe hxm HE
        have hcut := fun W : World => cut_from (P := Try.prog) 22 61 .i64 Try.underlying22 hi 4 hz1 (some ad) l0.length c0 ((k : Int) + 1) (by omega) (by omega) W
        obtain ⟨A', hA'⟩ : ∃ A', (if c0 = ((k : Int) + 1).toNat then some ad else (some ad).map (·.add (((k : Int) + 1).toNat * 4))) = A' := ⟨_, rfl⟩
        have hkt : ((k : Int) + 1).toNat = k + 1 := by omega
        have hdr : Kd.C k61 w A' (l0.drop (k + 1)).length (l0.drop (k + 1)) := by
          have := Kd.C_drop (m := k + 1) HR.out (by omega) hc0
          rw [← hA', hkt]
          exact this
        have hle : (l0.drop (k + 1)).length = l0.length - (k + 1) := List.length_drop
        rw [hA', hkt] at hcut
        have HLE := Lib.hid hle
        have HDR := Aside0.mk hdr
        clear hA' hdr hkt hle
        cases hs : (l0.drop (k + 1)).any (sameTest x.f0) with
        | true =>
          rw [if_pos hs] at he
          have HE := Lib.hid he
          have HS := Lib.hid hs
          clear he hs
          go_wp2_with (go_at_call 43; refine (contains_calls' A' _ _ (l0.drop (k + 1)) HLE.out x.f0 wr.heap.size _ (Kd.C_below (Kd.C_below HDR.out HL.out) ((Below.refl _ wr).alloc (Nat.le_refl _) _)) (by omega) (blk_cell (heap_alloc_new wr _) 0)).mono ?_; rintro e w2 ⟨rfl, hb2⟩; rw [HS.out])
          have HV2 := Aside0.mk (Kd.R_below (Kd.R_alloc HV.out (.cells #[.string x.f0, .int .i64 x.f1, .int .i64 x.f2, .int .i64 x.f3] 61)) hb2)
          have HL2 := Aside0.mk (below_step (HL.out.alloc hw _) hb2)
          go_roundw
          case rel => exact ⟨k + 1, acc, by omega, by go_num, HE, HV2, HL2⟩
          case measure => simp [intOf]; omega
        | false =>
          rw [if_neg (by rw [hs]; simp)] at he
          have HE : Hid ((acc ++ [x]) ++ compF (l0.drop (k + 1)) = compF l0) := Lib.hid (by rw [← he]; simp)
          have HS := Lib.hid hs
          have HLEN : Hid ((acc.length + 1) * 40 ≤ 140737488355328) := Lib.hid (by
            have h1 := congrArg List.length he
            simp at h1
            have h2 := compF_length l0
            omega)
          clear he hs
          go_wp2_with (first | (go_at_call 43; refine (contains_calls' A' _ _ (l0.drop (k + 1)) HLE.out x.f0 wr.heap.size _ (Kd.C_below (Kd.C_below HDR.out HL.out) ((Below.refl _ wr).alloc (Nat.le_refl _) _)) (by omega) (blk_cell (heap_alloc_new wr _) 0)).mono ?_; rintro e w2 ⟨rfl, hb2⟩; rw [HS.out]; have HV2 := Aside0.mk (Kd.R_below (Kd.R_alloc HV.out (.cells #[.string x.f0, .int .i64 x.f1, .int .i64 x.f2, .int .i64 x.f3] 61)) hb2); have HL2 := Aside0.mk (below_step (HL.out.alloc hw _) hb2); obtain ⟨hy0, hy1, hy2, hy3⟩ := box4 hb2; clear HV HL hb2) | (at_builtin; go_loud (refine Kd.R_append k61 (w0 := w) w.heap.size rfl (.tmp 31) (.tmp 33) 22 61 (.agg #[(.string ⟨#[]⟩), (.int .i64 0), (.int .i64 0), (.int .i64 0)]) 40 rfl Try.underlying22 info61 rfl (by decide) (by omega) u6 acc x [.string x.f0, .int .i64 x.f1, .int .i64 x.f2, .int .i64 x.f3] (fun _ => True) (fun _ => False) rfl rfl (k61_mkM _ _ _ x) (fun _ hk => hk.elim) (fun _ _ => trivial) HV2.out HL2.out HL2.out.size HLEN.out ?_); intro v1 w4 hv1 hl1 hg1 hat1; have HV1 := Aside0.mk hv1; have HL1 := Aside0.mk hl1; clear hv1 hl1 hg1 hat1))
          go_roundw
          case rel => exact ⟨k + 1, acc ++ [x], by omega, by go_num, HE, HV1, HL1⟩
          case measure => simp [intOf]; omega
      · obtain rfl : k = l0.length := by omega
        have he : acc = compF l0 := by have := HE.out; rw [List.drop_length] at this; simpa [compF] using this
        subst he
        go_wp2
        go_ret2
        exact ⟨_, rfl, HV.out, HL.out⟩
  · rw [if_neg he] at hj
    obtain ⟨rfl, rfl⟩ := Prod.mk.inj hj
    have he1 : (e1 == 0) = false := beq_eq_false_iff_ne.mpr he
    have he2 : (e1 != 0) = true := bne_iff_ne.mpr he
    clear hC hj hr0 he
    go_enter Try.func20, Try.ntmps20
    go_wp2_with (first | (go_at_call 18; refine hcheck.mono ?_; rintro e w1 ⟨rfl, hb1⟩))
    go_ret2
    exact ⟨_, rfl, Kd.R_nil _ _ _ _ _, hb1⟩
end Go.Proofs.Ytgflelipamofoaa.PA
