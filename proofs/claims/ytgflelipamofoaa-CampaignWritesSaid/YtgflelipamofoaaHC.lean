/- campaign.MustRun: by hand, in the printer's form. -/
import Derived.Test.YtgflelipamofoaaHMa
import Derived.Test.YtgflelipamofoaaHB
namespace Go.Proofs.Ytgflelipamofoaa.PA
open Go.RowKit Go.Proofs.YtgflelipamofoaaW.PrintWords Go.Proofs.YtgflelipamofoaaW.PrintLast Go.Proofs.YtgflelipamofoaaW.PrintMore Go.Proofs.Ytgflelipamofoaa.Own
set_option linter.unusedVariables false
set_option linter.unusedSimpArgs false
def s61V (x : S61) : Value := .agg #[.string x.f0, .int .i64 x.f1, .int .i64 x.f2, .int .i64 x.f3]
/-- The last entry of a test. -/
def lastOf (l : List S61) (s : ByteArray) : Option S61 := (l.reverse).find? (fun x => decide (x.f0 = s))
theorem lastOf_snoc (l : List S61) (k : Nat) (h : k < l.length) (s : ByteArray) : lastOf (l.take (k + 1)) s = if s = l[k].f0 then some l[k] else lastOf (l.take k) s := by
  unfold lastOf
  rw [List.take_succ_eq_append_getElem h, List.reverse_append]
  simp only [List.reverse_cons, List.reverse_nil, List.nil_append, List.cons_append, List.find?_cons]
  by_cases e : s = l[k].f0
  · rw [if_pos e, decide_eq_true e.symm]
  · rw [if_neg e, decide_eq_false (fun h => e h.symm)]
set_option maxHeartbeats 1000000 in
set_option maxRecDepth 100000 in
theorem lasts_calls (A0 : Option Addr) (c0 : Nat) (l0 : List S61) (w : World) (hr0 : Kd.C k61 w A0 l0.length l0) (hc0 : l0.length ≤ c0) (h60 : l0.length ≤ 60) (hok : ∀ x ∈ l0, entE x = 0) :
    Calls Try.prog 39 #[.slice A0 l0.length c0] w fun e w' => ∃ b : Nat, e = .returned (.map (some b)) ∧ w.heap.size ≤ b ∧ MapIs w' Try.prog 9 b 60 (fun s => (lastOf l0 s).map s61V) ∧ Below w.heap.size w w' := by
  have HR := Aside0.mk hr0
  have HOK := Lib.hid hok
  have hmm := @run_makeMap Try.prog
  clear hr0 hok
  go_enter Try.func39, Try.ntmps39
  go_wp2
  have HM0 := Aside0.mk (MapIs.made w Try.prog 9)
  have HB0 := Aside0.mk ((Below.refl _ w).alloc (Nat.le_refl _) (.map #[] 0))
  go_loopw [9, 5] (fun i p wr => ∃ k : Nat, k ≤ l0.length ∧ i = .int .i64 k ∧ Aside0 (MapIs wr Try.prog 9 w.heap.size k (fun s => (lastOf (l0.take k) s).map s61V)) ∧ Aside0 (Below w.heap.size w wr)) (fun i _ _ => l0.length - (intOf i).toNat)
  case atStart => exact ⟨0, Nat.zero_le _, rfl, HM0, HB0⟩
  case round =>
    obtain ⟨k, hk, rfl, HM, HL⟩ := hrel
    by_cases hlt : k < l0.length
    · obtain ⟨ad, e216, hx0, hx1, hx2, hx3⟩ := at_T61 HR.out (k : Int) (by omega) (by omega)
      cases e216
      replace hx0 := (HL.out.cell (World.block_lt_of_cell? w _ hx0)).trans hx0
      replace hx1 := (HL.out.cell (World.block_lt_of_cell? w _ hx1)).trans hx1
      replace hx2 := (HL.out.cell (World.block_lt_of_cell? w _ hx2)).trans hx2
      replace hx3 := (HL.out.cell (World.block_lt_of_cell? w _ hx3)).trans hx3
      have hw := HL.out.size
      obtain ⟨x, hxe⟩ : ∃ x, rd_T61 l0 (k : Int) = x := ⟨_, rfl⟩
      rw [Int.toNat_natCast] at hx0 hx1 hx2 hx3
      rw [hxe] at hx0 hx1 hx2 hx3
      have hxm : x = l0[k] := by rw [← hxe]; simp [rd_T61, hlt]
      obtain ⟨o1, o2, _⟩ := ent_ok (HOK.out x (by rw [hxm]; exact List.getElem_mem _))
      have HNEW := Lib.hid (fun s => lastOf_snoc l0 k hlt s)
      rw [← hxm] at HNEW
      clear hxe hxm
      go_wp2_with (at_mapUpdate; refine wpList_map_put _ rfl (.tmp 13) (.tmp 15) (.tmp 16) 84 rfl 9 61 (Maps.string_keyed Try.underlying9) Try.underlying84 w.heap.size k (fun s => (lastOf (l0.take k) s).map s61V) rfl ?c1 ?c2 x.f0 (s61V x) rfl rfl ?c3 ?c4 ?_)
      case c1 => exact HM.out.block (heap_alloc_old _ _ HM.out.lt)
      case c2 => unfold maxLen; omega
      case c3 => exact WideMaps.keyOf_string_mk Try.underlying9 (by unfold maxLen; omega)
      case c4 => exact trivial
      intro w2 hm2 hg2
      have HM2 : Aside0 (MapIs w2 Try.prog 9 w.heap.size (k + 1) (fun s => (lastOf (l0.take (k + 1)) s).map s61V)) := ⟨hm2.congr (fun s => by rw [HNEW.out s]; split <;> rfl)⟩
      have HL2 := Aside0.mk ((HL.out.alloc hw _).grown hg2 (by simp; omega) (fun j e => by cases e; exact Nat.le_refl _))
      clear hm2 hg2 HM HL
      go_wp2
      go_roundw
      case rel => exact ⟨k + 1, by omega, by go_num, HM2, HL2⟩
      case measure => simp [intOf]; omega
    · obtain rfl : k = l0.length := by omega
      have HM2 := HM
      rw [List.take_length] at HM2
      clear HM
      go_wp2
      go_ret
      exact ⟨_, rfl, Nat.le_refl _, HM2.out.mono h60, HL.out⟩
def inB (s : ByteArray) (l : List ByteArray) : Bool := l.any (fun x => decide (x = s))
/-- The error of tests, the names before them being known. -/
def tErr : List ByteArray → List S38 → Int
  | _, [] => 0
  | pre, t :: r => if nameB t.f0 = true then (if inB t.f0 pre = true then 13 else if 0 ≤ t.f1 ∧ t.f1 ≤ 1099511627775 then tErr (pre ++ [t.f0]) r else 3) else 7
def names (l : List S38) : List ByteArray := l.map (·.f0)
def mustT (l : List S61) (t : S38) : Bool := match lastOf l t.f0 with
  | none => true
  | some x => decide (x.f1 ≠ t.f1) || decide (x.f2 ≠ 1)
def mustOf (l : List S61) (ts : List S38) : List ByteArray := names (ts.filter (mustT l))
def mustRun (l : List S61) (ts : List S38) : List ByteArray × Int := if (checkB l).2 = 0 then (if ts.length ≤ 60 then (if tErr [] ts = 0 then (mustOf l ts, 0) else ([], tErr [] ts)) else ([], 2)) else ([], (checkB l).2)
def campaign_MustRun.f (l : List S61) (ts : List S38) : Option (List ByteArray × Int) := some (mustRun l ts)
theorem tErr_step (l : List S38) (k : Nat) (h : k < l.length) : tErr (names (l.take k)) (l.drop k) = if nameB l[k].f0 = true then (if inB l[k].f0 (names (l.take k)) = true then 13 else if 0 ≤ l[k].f1 ∧ l[k].f1 ≤ 1099511627775 then tErr (names (l.take (k + 1))) (l.drop (k + 1)) else 3) else 7 := by
  rw [List.drop_eq_getElem_cons h]
  simp only [tErr]
  have : names (l.take (k + 1)) = names (l.take k) ++ [l[k].f0] := by
    unfold names
    rw [List.take_succ_eq_append_getElem h, List.map_append]
    rfl
  rw [this]
theorem box2 {w w2 : World} {a b : Value} {T : TypeId} (hb : Below (w.alloc (.cells #[a, b] T)).heap.size (w.alloc (.cells #[a, b] T)) w2) : w2.cell? ⟨w.heap.size, 0, none⟩ = some a ∧ w2.cell? ⟨w.heap.size, 1, none⟩ = some b := by
  have h := (hb.block w.heap.size (by simp)).trans (heap_alloc_new w (.cells #[a, b] T))
  simp [World.cell?, h]
def seenF (l : List ByteArray) (s : ByteArray) : Option Value := if inB s l = true then some (.bool true) else none
theorem mustOf_snoc (l : List S61) (ts : List S38) (k : Nat) (h : k < ts.length) : mustOf l (ts.take (k + 1)) = if mustT l ts[k] = true then mustOf l (ts.take k) ++ [ts[k].f0] else mustOf l (ts.take k) := by
  unfold mustOf
  rw [List.take_succ_eq_append_getElem h, List.filter_append]
  by_cases c : mustT l ts[k] = true
  · simp [c, names]
  · simp [c, names]
theorem must_err {E c : Int} {m r1 : List ByteArray} {r2 : Int} (h : (if E = 0 then (m, (0 : Int)) else ([], E)) = (r1, r2)) (hE : c = E) (hc : c ≠ 0) : r1 = [] ∧ r2 = c := by
  subst hE
  rw [if_neg hc] at h
  exact ⟨(Prod.mk.inj h).1.symm, (Prod.mk.inj h).2.symm⟩
theorem row_ne_map {α : Type} {d : Kd α} {e base : Nat} {ok : Nat → Prop} {w : World} {v : Value} {xs : List α} {P : Program} {k b n : Nat} {f : ByteArray → Option Value} (h : Kd.R d e w base ok v xs) (hm : MapIs w P k b n f) : some b ≠ v.ownBlock := by
  intro he
  obtain ⟨_, inner, ho, _⟩ := h
  obtain ⟨cells, hc⟩ := own_typed ho b he.symm
  obtain ⟨D, ⟨es, clock, hb, _⟩, _⟩ := hm
  rw [hb] at hc
  cases hc
theorem name_size {s : ByteArray} (h : nameB s = true) : 1 ≤ s.size ∧ s.size ≤ 20 := by
  unfold nameB at h
  simp only [Bool.and_eq_true, decide_eq_true_eq] at h
  exact h.1
theorem names_ok : ∀ (l : List S38) (pre : List ByteArray), tErr pre l = 0 → ∀ x ∈ l, x.f0.size ≤ 20
  | [], _, _ => by simp
  | t :: r, pre, h => by
    simp only [tErr] at h
    by_cases hn : nameB t.f0 = true
    · rw [if_pos hn] at h
      split at h
      · simp at h
      · split at h
        · intro x hx
          rcases List.mem_cons.1 hx with rfl | hx
          · exact (name_size hn).2
          · exact names_ok r _ h x hx
        · simp at h
    · rw [if_neg hn] at h; simp at h
theorem mustOf_length (l : List S61) (ts : List S38) : (mustOf l ts).length ≤ ts.length := by
  unfold mustOf names
  rw [List.length_map]
  exact List.length_filter_le _ _
theorem mustT_some {l : List S61} {t : S38} {y : S61} (h : lastOf l t.f0 = some y) : mustT l t = (decide (y.f1 ≠ t.f1) || decide (y.f2 ≠ 1)) := by simp [mustT, h]
theorem mustT_none {l : List S61} {t : S38} (h : lastOf l t.f0 = none) : mustT l t = true := by simp [mustT, h]
set_option maxHeartbeats 2000000 in
set_option maxRecDepth 100000 in
theorem campaign_MustRun.calls (A0 : Option Addr) (c0 : Nat) (l0 : List S61) (A1 : Option Addr) (c1 : Nat) (l1 : List S38) (r1 : List ByteArray) (r2 : Int) (w : World) (hr0 : Kd.C k61 w A0 l0.length l0) (hc0 : l0.length ≤ c0) (hr1 : Kd.C k38 w A1 l1.length l1) (hc1 : l1.length ≤ c1) (h : campaign_MustRun.f l0 l1 = some (r1, r2)) :
    Calls Try.prog 14 #[.slice A0 l0.length c0, .slice A1 l1.length c1] w fun e w' => ∃ v0_ : Value, e = .returned (.tuple #[v0_, .int .i64 r2]) ∧ Kd.R Kd.string 9 w' w.heap.size (fun _ => True) v0_ r1 ∧ Below w.heap.size w w' := by
  obtain ⟨C1, hC⟩ : ∃ C, checkB l0 = C := ⟨_, rfl⟩
  obtain ⟨i1, e1⟩ := C1
  have hj : mustRun l0 l1 = (r1, r2) := Option.some.inj h
  clear h
  have hcheck := campaign_CheckEntries.calls 100 A0 c0 l0 i1 e1 w hr0 hc0 (by rw [check_eq 100 (by omega), hC])
  unfold mustRun at hj
  rw [hC] at hj
  simp only at hj
  by_cases he : e1 = 0
  · subst he
    rw [if_pos rfl] at hj
    have hok := check_ok (l := l0) (by rw [hC])
    by_cases h60 : l1.length ≤ 60
    · rw [if_pos h60] at hj
      obtain ⟨E, hE⟩ : ∃ E, tErr [] l1 = E := ⟨_, rfl⟩
      rw [hE] at hj
      have HJ := Lib.hid hj
      have HE := Lib.hid hE
      have HR := Aside0.mk hr0
      have HR1 := Aside0.mk hr1
      have HOK := Lib.hid hok.2
      have hl60 := hok.1
      have hmm := @run_makeMap Try.prog
      clear hok hC hj hE hr0 hr1
      go_enter Try.func14, Try.ntmps14
      go_wp2_with (first | (go_at_call 18; refine hcheck.mono ?_; rintro e w1 ⟨rfl, hb1⟩))
      have HB0 := Aside0.mk (hb1.alloc hb1.size (.map #[] 0))
      have hbw := hb1.size
      have HM0 := Aside0.mk ((MapIs.made w1 Try.prog 9).congr (g := seenF (names (l1.take 0))) (fun s => rfl))
      obtain ⟨b, hb⟩ : ∃ b, w1.heap.size = b := ⟨_, rfl⟩
      have HE0 : Hid (tErr (names (l1.take 0)) (l1.drop 0) = E) := HE
      clear hb1 hmm HE
      rw [hb] at hbw HM0 ⊢
      go_loopw [31, 10] (fun i p wr => ∃ k : Nat, k ≤ l1.length ∧ i = .int .i64 k ∧ Hid (tErr (names (l1.take k)) (l1.drop k) = E) ∧ Aside0 (MapIs wr Try.prog 9 b k (seenF (names (l1.take k)))) ∧ Aside0 (Below w.heap.size w wr)) (fun i _ _ => l1.length - (intOf i).toNat)
      case atStart => exact ⟨0, Nat.zero_le _, rfl, HE0, HM0, HB0⟩
      case round =>
        obtain ⟨k, hk, rfl, HE, HM, HL⟩ := hrel
        by_cases hlt : k < l1.length
        · obtain ⟨ad, e216, hx0, hx1⟩ := at_T38 HR1.out (k : Int) (by omega) (by omega)
          cases e216
          replace hx0 := (HL.out.cell (World.block_lt_of_cell? w _ hx0)).trans hx0
          replace hx1 := (HL.out.cell (World.block_lt_of_cell? w _ hx1)).trans hx1
          have hw := HL.out.size
          obtain ⟨x, hxe⟩ : ∃ x, rd_T38 l1 (k : Int) = x := ⟨_, rfl⟩
          rw [Int.toNat_natCast] at hx0 hx1
          rw [hxe] at hx0 hx1
          have hxm : x = l1[k] := by rw [← hxe]; simp [rd_T38, hlt]
          have hstep := HE.out
          rw [tErr_step l1 k hlt, ← hxm] at hstep
          clear hxe HE
          by_cases hn : nameB x.f0 = true
          · have hs20 : x.f0.size ≤ 20 := by
              have hn2 := hn
              unfold nameB at hn2
              simp only [Bool.and_eq_true, decide_eq_true_eq] at hn2
              exact hn2.1.2
            rw [if_pos hn] at hstep
            have HKEY := Lib.hid (WideMaps.keyOf_string_mk (P := Try.prog) Try.underlying9 (show x.f0.size ≤ maxLen by unfold maxLen; omega))
            have HKM := Lib.hid (show k < maxLen by unfold maxLen; omega)
            have HN := Lib.hid hn
            by_cases hsn : inB x.f0 (names (l1.take k)) = true
            · have HLOOK := Lib.hid (show (seenF (names (l1.take k)) x.f0).getD (.bool false) = .bool true by unfold seenF; rw [if_pos hsn]; rfl)
              rw [if_pos hsn] at hstep
              obtain ⟨rfl, rfl⟩ := must_err HJ.out hstep (by decide)
              clear hstep hsn hn hxm
              go_wp2_with (first | (go_at_call 38; refine (campaign_isName.calls x.f0 true _ (by unfold campaign_isName.f; rw [HN.out])).mono ?_; rintro e w2 ⟨rfl, hb2⟩; have HM2 := Aside0.mk ((HM.out.block (heap_alloc_old _ _ HM.out.lt)).below hb2); have HL2 := Aside0.mk (below_step (HL.out.alloc hw _) hb2); obtain ⟨hy0, hy1⟩ := box2 hb2; have hw2 := hb2.size; simp only [World.size_alloc] at hw2; clear HM HL) | (at_lookup; refine wpList_map_at _ rfl (.tmp 41) (.tmp 43) 83 rfl 9 4 (Maps.string_keyed Try.underlying9) Try.underlying83 (Try.zeroValue4 _) b k (seenF (names (l1.take k))) rfl HM2.out x.f0 rfl HKEY.out ?_; rw [HLOOK.out]))
              go_ret2
              exact ⟨_, rfl, Kd.R_nil _ _ _ _ _, HL2.out⟩
            · have HLOOK := Lib.hid (show (seenF (names (l1.take k)) x.f0).getD (.bool false) = .bool false by unfold seenF; rw [if_neg hsn]; rfl)
              rw [if_neg hsn] at hstep
              by_cases hr : 0 ≤ x.f1 ∧ x.f1 ≤ 1099511627775
              · rw [if_pos hr] at hstep
                have HST := Lib.hid hstep
                obtain ⟨hr1, hr2⟩ := hr
                have HNEXT : Hid (∀ s, (if s = x.f0 then some (Value.bool true) else seenF (names (l1.take k)) s) = seenF (names (l1.take (k + 1))) s) := by
                  refine Lib.hid (fun s => ?_)
                  unfold seenF names
                  rw [List.take_succ_eq_append_getElem hlt, List.map_append, ← hxm]
                  unfold inB
                  rw [List.any_append]
                  by_cases e : s = x.f0
                  · subst e; simp
                  · have e2 : ¬ x.f0 = s := fun h => e h.symm
                    rw [show (List.map (fun y : S38 => y.f0) [x]).any (fun y => decide (y = s)) = false by simp [e2], Bool.or_false, if_neg e]
                clear hstep hsn hn hxm
                go_wp2_with (first | (go_at_call 38; refine (campaign_isName.calls x.f0 true _ (by unfold campaign_isName.f; rw [HN.out])).mono ?_; rintro e w2 ⟨rfl, hb2⟩; have HM2 := Aside0.mk ((HM.out.block (heap_alloc_old _ _ HM.out.lt)).below hb2); have HL2 := Aside0.mk (below_step (HL.out.alloc hw _) hb2); obtain ⟨hy0, hy1⟩ := box2 hb2; have hw2 := hb2.size; simp only [World.size_alloc] at hw2; clear HM HL) | (at_lookup; refine wpList_map_at _ rfl (.tmp 41) (.tmp 43) 83 rfl 9 4 (Maps.string_keyed Try.underlying9) Try.underlying83 (Try.zeroValue4 _) b k (seenF (names (l1.take k))) rfl HM2.out x.f0 rfl HKEY.out ?_; rw [HLOOK.out]) | (at_mapUpdate; refine wpList_map_put _ rfl (.tmp 54) (.tmp 56) (.const (.bool true)) 83 rfl 9 4 (Maps.string_keyed Try.underlying9) Try.underlying83 b k (seenF (names (l1.take k))) rfl HM2.out HKM.out x.f0 (.bool true) rfl rfl HKEY.out trivial ?_; intro w3 hm3 hg3; have HM3 : Aside0 (MapIs w3 Try.prog 9 b (k + 1) (seenF (names (l1.take (k + 1))))) := ⟨hm3.congr HNEXT.out⟩; have HL3 := Aside0.mk (HL2.out.grown hg3 (by have := HL2.out.size; omega) (fun j e => by cases e; exact hbw)); clear hm3 hg3 HM2 HL2))
                go_roundw
                case rel => exact ⟨k + 1, by omega, by go_num, HST, HM3, HL3⟩
                case measure => simp [intOf]; omega
              · rw [if_neg hr] at hstep
                obtain ⟨rfl, rfl⟩ := must_err HJ.out hstep (by decide)
                clear hstep hsn hn hxm
                rcases (show x.f1 < 0 ∨ (0 ≤ x.f1 ∧ 1099511627775 < x.f1) by omega) with h1 | ⟨h1, h2⟩
                all_goals
                  clear hr
                  go_wp2_with (first | (go_at_call 38; refine (campaign_isName.calls x.f0 true _ (by unfold campaign_isName.f; rw [HN.out])).mono ?_; rintro e w2 ⟨rfl, hb2⟩; have HM2 := Aside0.mk ((HM.out.block (heap_alloc_old _ _ HM.out.lt)).below hb2); have HL2 := Aside0.mk (below_step (HL.out.alloc hw _) hb2); obtain ⟨hy0, hy1⟩ := box2 hb2; have hw2 := hb2.size; simp only [World.size_alloc] at hw2; clear HM HL) | (at_lookup; refine wpList_map_at _ rfl (.tmp 41) (.tmp 43) 83 rfl 9 4 (Maps.string_keyed Try.underlying9) Try.underlying83 (Try.zeroValue4 _) b k (seenF (names (l1.take k))) rfl HM2.out x.f0 rfl HKEY.out ?_; rw [HLOOK.out]))
                  go_ret2
                  exact ⟨_, rfl, Kd.R_nil _ _ _ _ _, HL2.out⟩
          · rw [if_neg hn] at hstep
            obtain ⟨rfl, rfl⟩ := must_err HJ.out hstep (by decide)
            have HN := Lib.hid (Bool.not_eq_true _ |>.mp hn)
            clear hstep hn hxm
            go_wp2_with (first | (go_at_call 38; refine (campaign_isName.calls x.f0 false _ (by unfold campaign_isName.f; rw [HN.out])).mono ?_; rintro e w2 ⟨rfl, hb2⟩; have HL2 := Aside0.mk (below_step (HL.out.alloc hw _) hb2); clear HM HL))
            go_ret2
            exact ⟨_, rfl, Kd.R_nil _ _ _ _ _, HL2.out⟩
        · obtain rfl : k = l1.length := by omega
          have hE0 : E = 0 := by
            have := HE.out
            rw [List.drop_length] at this
            exact this.symm
          have hj := HJ.out
          rw [if_pos hE0] at hj
          obtain ⟨rfl, rfl⟩ := Prod.mk.inj hj
          have HNM := Lib.hid (names_ok l1 [] (HE0.out.trans hE0))
          clear hj hE0 HE HJ HM
          go_wp2_with (go_at_call 39; refine (lasts_calls _ c0 l0 _ (Kd.C_below HR.out HL.out) hc0 hl60 HOK.out).mono ?_; rintro e w2 ⟨b2, rfl, hb2, hm2, hbel2⟩)
          have HM2 := Aside0.mk hm2
          have HL2 := Aside0.mk (below_step HL.out hbel2)
          have HV2 := Aside0.mk (Kd.R_nil Kd.string 9 w2 w.heap.size (fun _ => True))
          have hb2' : w.heap.size ≤ b2 := Nat.le_trans HL.out.size hb2
          clear hm2 hbel2 HL hb2
          go_loopw [62, 12] (fun i v wr => ∃ k : Nat, k ≤ l1.length ∧ i = .int .i64 k ∧ Aside0 (Kd.R Kd.string 9 wr w.heap.size (fun _ => True) v (mustOf l0 (l1.take k))) ∧ Aside0 (MapIs wr Try.prog 9 b2 60 (fun s => (lastOf l0 s).map s61V)) ∧ Aside0 (Below w.heap.size w wr)) (fun i _ _ => l1.length - (intOf i).toNat)
          case atStart => exact ⟨0, Nat.zero_le _, rfl, HV2, HM2, HL2⟩
          case round =>
            obtain ⟨k2, hk2, rfl, HV, HM, HL⟩ := hrel
            by_cases hlt2 : k2 < l1.length
            · obtain ⟨ad, e216, hx0, hx1⟩ := at_T38 HR1.out (k2 : Int) (by omega) (by omega)
              cases e216
              replace hx0 := (HL.out.cell (World.block_lt_of_cell? w _ hx0)).trans hx0
              replace hx1 := (HL.out.cell (World.block_lt_of_cell? w _ hx1)).trans hx1
              have hw := HL.out.size
              obtain ⟨x, hxe⟩ : ∃ x, rd_T38 l1 (k2 : Int) = x := ⟨_, rfl⟩
              rw [Int.toNat_natCast] at hx0 hx1
              rw [hxe] at hx0 hx1
              have hxm : x = l1[k2] := by rw [← hxe]; simp [rd_T38, hlt2]
              have hsn := mustOf_snoc l0 l1 k2 hlt2
              rw [← hxm] at hsn
              have HSZ := Lib.hid (HNM.out x (by rw [hxm]; exact List.getElem_mem _))
              have HKEY := Lib.hid (WideMaps.keyOf_string_mk (P := Try.prog) Try.underlying9 (show x.f0.size ≤ maxLen by have := HSZ.out; unfold maxLen; omega))
              have HLEN := Lib.hid (show ((mustOf l0 (l1.take k2)).length + 1) * 16 ≤ 140737488355328 by have := mustOf_length l0 (l1.take k2); simp at this; omega)
              clear hxe hxm
              cases hlo : lastOf l0 x.f0 with
              | none =>
                rw [mustT_none hlo, if_pos rfl] at hsn
                have HSN := Lib.hid hsn
                have HLOOK := Lib.hid (show Value.tuple #[((fun s => (lastOf l0 s).map s61V) x.f0).getD (.agg #[.string ⟨#[]⟩, .int .i64 0, .int .i64 0, .int .i64 0]), .bool ((fun s => (lastOf l0 s).map s61V) x.f0).isSome] = .tuple #[.agg #[.string ⟨#[]⟩, .int .i64 0, .int .i64 0, .int .i64 0], .bool false] by simp only [hlo]; rfl)
                clear hsn hlo
                go_wp2_with (first | (at_lookup; refine wpList_map_ok _ rfl (.tmp 67) (.tmp 69) 84 rfl 9 61 (Maps.string_keyed Try.underlying9) Try.underlying84 (Try.zeroValue61 _) b2 60 (fun s => (lastOf l0 s).map s61V) rfl (HM.out.block (heap_alloc_old _ _ HM.out.lt)) x.f0 rfl HKEY.out ?_; rw [HLOOK.out]) | (at_builtin; refine Kd.R_append Kd.string (w0 := w) w.heap.size rfl (.tmp 87) (.tmp 90) 39 9 (.string ⟨#[]⟩) 16 rfl Try.underlying39 info9 rfl (by decide) (by omega) u12 (mustOf l0 (l1.take k2)) x.f0 [.string x.f0] (fun _ => True) (fun _ => False) rfl (by show Value.slice (some ⟨wr.heap.size + 1 + 1, 0, none⟩) 1 1 = _; simp) rfl (fun _ hk => hk.elim) (fun _ _ => trivial) (Kd.R_alloc (Kd.R_alloc HV.out _) _) ((HL.out.alloc hw _).alloc (by simp; omega) _) (by simp; omega) HLEN.out ?_; intro v1 w4 hv1 hl1 hg1 hat1; have HM1 := Aside0.mk (MapIs.kept ((HM.out.block (heap_alloc_old _ _ HM.out.lt)).block (heap_alloc_old _ _ (by simp; have := HM.out.lt; omega))) hg1 (row_ne_map HV.out HM.out)); rw [← HSN.out] at hv1; have HV1 := Aside0.mk hv1; have HL1 := Aside0.mk hl1; clear hv1 hl1 hg1 hat1))
                go_roundw
                case rel => exact ⟨k2 + 1, by omega, by go_num, HV1, HM1, HL1⟩
                case measure => simp [intOf]; omega
              | some y =>
                rw [mustT_some hlo] at hsn
                have HLOOK := Lib.hid (show Value.tuple #[((fun s => (lastOf l0 s).map s61V) x.f0).getD (.agg #[.string ⟨#[]⟩, .int .i64 0, .int .i64 0, .int .i64 0]), .bool ((fun s => (lastOf l0 s).map s61V) x.f0).isSome] = .tuple #[.agg #[.string y.f0, .int .i64 y.f1, .int .i64 y.f2, .int .i64 y.f3], .bool true] by simp only [hlo]; rfl)
                by_cases q1 : y.f1 = x.f1
                · have q1a : (y.f1 == x.f1) = true := beq_iff_eq.mpr q1
                  have q1b : (y.f1 != x.f1) = false := bne_eq_false_iff_eq.mpr q1
                  by_cases q2 : y.f2 = 1
                  · have q2a : (y.f2 == 1) = true := beq_iff_eq.mpr q2
                    have q2b : (y.f2 != 1) = false := bne_eq_false_iff_eq.mpr q2
                    rw [if_neg (by simp [q1, q2])] at hsn
                    have HSN := Lib.hid hsn
                    clear hsn hlo q1 q2
                    go_wp2_with (first | (at_lookup; refine wpList_map_ok _ rfl (.tmp 67) (.tmp 69) 84 rfl 9 61 (Maps.string_keyed Try.underlying9) Try.underlying84 (Try.zeroValue61 _) b2 60 (fun s => (lastOf l0 s).map s61V) rfl (HM.out.block (heap_alloc_old _ _ HM.out.lt)) x.f0 rfl HKEY.out ?_; rw [HLOOK.out]))
                    have HV1 := Aside0.mk (Kd.R_alloc (Kd.R_alloc HV.out (.cells #[.string x.f0, .int .i64 x.f1] 38)) (.cells #[.string y.f0, .int .i64 y.f1, .int .i64 y.f2, .int .i64 y.f3] 61))
                    rw [← HSN.out] at HV1
                    go_roundw
                    case rel => exact ⟨k2 + 1, by omega, by go_num, HV1, ⟨(HM.out.block (heap_alloc_old _ _ HM.out.lt)).block (heap_alloc_old _ _ (by simp; have := HM.out.lt; omega))⟩, ⟨(HL.out.alloc hw _).alloc (by simp; omega) _⟩⟩
                    case measure => simp [intOf]; omega
                  · have q2a : (y.f2 == 1) = false := beq_eq_false_iff_ne.mpr q2
                    have q2b : (y.f2 != 1) = true := bne_iff_ne.mpr q2
                    rw [if_pos (by simp [q2])] at hsn
                    have HSN := Lib.hid hsn
                    clear hsn hlo q1 q2
                    go_wp2_with (first | (at_lookup; refine wpList_map_ok _ rfl (.tmp 67) (.tmp 69) 84 rfl 9 61 (Maps.string_keyed Try.underlying9) Try.underlying84 (Try.zeroValue61 _) b2 60 (fun s => (lastOf l0 s).map s61V) rfl (HM.out.block (heap_alloc_old _ _ HM.out.lt)) x.f0 rfl HKEY.out ?_; rw [HLOOK.out]) | (at_builtin; refine Kd.R_append Kd.string (w0 := w) w.heap.size rfl (.tmp 87) (.tmp 90) 39 9 (.string ⟨#[]⟩) 16 rfl Try.underlying39 info9 rfl (by decide) (by omega) u12 (mustOf l0 (l1.take k2)) x.f0 [.string x.f0] (fun _ => True) (fun _ => False) rfl (by show Value.slice (some ⟨wr.heap.size + 1 + 1, 0, none⟩) 1 1 = _; simp) rfl (fun _ hk => hk.elim) (fun _ _ => trivial) (Kd.R_alloc (Kd.R_alloc HV.out _) _) ((HL.out.alloc hw _).alloc (by simp; omega) _) (by simp; omega) HLEN.out ?_; intro v1 w4 hv1 hl1 hg1 hat1; have HM1 := Aside0.mk (MapIs.kept ((HM.out.block (heap_alloc_old _ _ HM.out.lt)).block (heap_alloc_old _ _ (by simp; have := HM.out.lt; omega))) hg1 (row_ne_map HV.out HM.out)); rw [← HSN.out] at hv1; have HV1 := Aside0.mk hv1; have HL1 := Aside0.mk hl1; clear hv1 hl1 hg1 hat1))
                    go_roundw
                    case rel => exact ⟨k2 + 1, by omega, by go_num, HV1, HM1, HL1⟩
                    case measure => simp [intOf]; omega
                · have q1a : (y.f1 == x.f1) = false := beq_eq_false_iff_ne.mpr q1
                  have q1b : (y.f1 != x.f1) = true := bne_iff_ne.mpr q1
                  rw [if_pos (by simp [q1])] at hsn
                  have HSN := Lib.hid hsn
                  clear hsn hlo q1
                  go_wp2_with (first | (at_lookup; refine wpList_map_ok _ rfl (.tmp 67) (.tmp 69) 84 rfl 9 61 (Maps.string_keyed Try.underlying9) Try.underlying84 (Try.zeroValue61 _) b2 60 (fun s => (lastOf l0 s).map s61V) rfl (HM.out.block (heap_alloc_old _ _ HM.out.lt)) x.f0 rfl HKEY.out ?_; rw [HLOOK.out]) | (at_builtin; refine Kd.R_append Kd.string (w0 := w) w.heap.size rfl (.tmp 87) (.tmp 90) 39 9 (.string ⟨#[]⟩) 16 rfl Try.underlying39 info9 rfl (by decide) (by omega) u12 (mustOf l0 (l1.take k2)) x.f0 [.string x.f0] (fun _ => True) (fun _ => False) rfl (by show Value.slice (some ⟨wr.heap.size + 1 + 1, 0, none⟩) 1 1 = _; simp) rfl (fun _ hk => hk.elim) (fun _ _ => trivial) (Kd.R_alloc (Kd.R_alloc HV.out _) _) ((HL.out.alloc hw _).alloc (by simp; omega) _) (by simp; omega) HLEN.out ?_; intro v1 w4 hv1 hl1 hg1 hat1; have HM1 := Aside0.mk (MapIs.kept ((HM.out.block (heap_alloc_old _ _ HM.out.lt)).block (heap_alloc_old _ _ (by simp; have := HM.out.lt; omega))) hg1 (row_ne_map HV.out HM.out)); rw [← HSN.out] at hv1; have HV1 := Aside0.mk hv1; have HL1 := Aside0.mk hl1; clear hv1 hl1 hg1 hat1))
                  go_roundw
                  case rel => exact ⟨k2 + 1, by omega, by go_num, HV1, HM1, HL1⟩
                  case measure => simp [intOf]; omega
            · obtain rfl : k2 = l1.length := by omega
              have HV2 := HV
              rw [List.take_length] at HV2
              clear HV
              go_wp2
              go_ret2
              exact ⟨_, rfl, HV2.out, HL.out⟩
    · rw [if_neg h60] at hj
      obtain ⟨rfl, rfl⟩ := Prod.mk.inj hj
      have hlt : 60 < l1.length := by omega
      clear hC hj hr0
      go_enter Try.func14, Try.ntmps14
      go_wp2_with (first | (go_at_call 18; refine hcheck.mono ?_; rintro e w1 ⟨rfl, hb1⟩))
      go_ret2
      exact ⟨_, rfl, Kd.R_nil _ _ _ _ _, hb1⟩
  · rw [if_neg he] at hj
    obtain ⟨rfl, rfl⟩ := Prod.mk.inj hj
    have he1 : (e1 == 0) = false := beq_eq_false_iff_ne.mpr he
    have he2 : (e1 != 0) = true := bne_iff_ne.mpr he
    clear hC hj hr0 he
    go_enter Try.func14, Try.ntmps14
    go_wp2_with (first | (go_at_call 18; refine hcheck.mono ?_; rintro e w1 ⟨rfl, hb1⟩))
    go_ret2
    exact ⟨_, rfl, Kd.R_nil _ _ _ _ _, hb1⟩
end Go.Proofs.Ytgflelipamofoaa.PA
