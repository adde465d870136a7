/- campaign.entryOf: the entry whose record stands in a block: by hand, in the printer's form. -/
import Derived.Test.YtgflelipamofoaaDoorHA
import Derived.Test.YtgflelipamofoaaDoorHT
import Derived.Test.YtgflelipamofoaaDoorHP1
import Derived.Test.YtgflelipamofoaaDoorPAx5
import Derived.BigRegion
import Derived.Deep.RegionWith
namespace Go.Proofs.YtgflelipamofoaaDoor.PA
open Go Go.RowKit Go.Proofs.YtgflelipamofoaaDoorW.PrintWords Go.Proofs.YtgflelipamofoaaDoorW.PrintLast Go.Proofs.YtgflelipamofoaaDoorW.PrintMore
set_option linter.unusedVariables false
set_option linter.unusedSimpArgs false
/-- The first bytes as a number. -/
def digB (r : ByteArray) : Nat → Int
  | 0 => 0
  | k + 1 => digB r k * 256 + bt r k
theorem digB_range (r : ByteArray) : ∀ k, 0 ≤ digB r k ∧ digB r k < 256 ^ k
  | 0 => by simp [digB]
  | k + 1 => by
    have := digB_range r k
    have h := bt_range r k
    rw [digB, Int.pow_succ]
    omega
def okRest (r : ByteArray) (nm : ByteArray) : Bool := decide (bt r 7 = 90) && all0 (r.extract 8 r.size) && decide (entE ⟨nm, digB r 5, bt r 5, bt r 6⟩ = 0)
theorem digB_small (r : ByteArray) (k : Nat) (hk : k ≤ 4) : 0 ≤ digB r k ∧ digB r k ≤ 4294967295 := by
  have h := digB_range r k
  refine ⟨h.1, ?_⟩
  have : (256 : Int) ^ k ≤ 4294967296 := by
    rcases (show k = 0 ∨ k = 1 ∨ k = 2 ∨ k = 3 ∨ k = 4 by omega) with rfl | rfl | rfl | rfl | rfl <;> decide
  omega
theorem bt_getD5 (r : ByteArray) (j : Nat) (hj : j < 5) (h : 5 ≤ r.size) : some (Value.int .u8 (((r.extract 0 5).data.toList.getD j 0).toNat : Int)) = some (Value.int .u8 (bt r j)) := by
  have h1 : j < r.size := by omega
  have h2 : j < (r.extract 0 5).data.size := by show j < (r.extract 0 5).size; rw [ByteArray.size_extract]; omega
  rw [List.getD_eq_getElem?_getD, Array.getElem?_toList, Array.getElem?_eq_getElem h2, ← bt_at r (j : Int) (by simpa using h1)]
  simp only [Option.getD_some, ByteArray.data_extract, Array.getElem_extract, Nat.zero_add]
  rfl
theorem or_add (j : Nat) (hj : j ≤ 8) (x b : Int) (h0 : -9223372036854775808 ≤ x) (h1 : x + 256 ≤ 9223372036854775807) (hx : x % 2 ^ j = 0) (hb0 : 0 ≤ b) (hb1 : b < 2 ^ j) : Go.bits .or .i64 x b = x + b := by
  have hp : (2 : Nat) ^ j ≤ 256 := Nat.le_trans (Nat.pow_le_pow_right (by decide) hj) (by decide)
  obtain ⟨c, rfl⟩ := Int.eq_ofNat_of_zero_le hb0
  have hc : c < 2 ^ j := by exact_mod_cast hb1
  obtain ⟨a, ha⟩ : ∃ a : Nat, x % 18446744073709551616 = (a : Int) := Int.eq_ofNat_of_zero_le (Int.emod_nonneg _ (by decide))
  have e1 : (BitVec.ofInt IntKind.i64.bits x).toNat = a := by
    rw [BitVec.toNat_ofInt]
    show (x % (2 ^ 64 : Nat)).toNat = a
    rw [show ((2 ^ 64 : Nat) : Int) = 18446744073709551616 by decide, ha, Int.toNat_natCast]
  have e2 : (BitVec.ofInt IntKind.i64.bits (c : Int)).toNat = c := by
    rw [BitVec.toNat_ofInt]
    show ((c : Int) % (2 ^ 64 : Nat)).toNat = c
    rw [show ((2 ^ 64 : Nat) : Int) = 18446744073709551616 by decide]
    omega
  have hd : a % 2 ^ j = 0 := by
    have hdvd : ((2 ^ j : Nat) : Int) ∣ 18446744073709551616 := by
      have : (2 : Nat) ^ j ∣ 2 ^ 64 := Nat.pow_dvd_pow 2 (by omega)
      exact Int.natCast_dvd_natCast.2 (by simpa using this)
    have h := Int.emod_emod_of_dvd x hdvd
    rw [ha] at h
    have hx' : x % ((2 ^ j : Nat) : Int) = 0 := by simpa using hx
    rw [hx'] at h
    exact_mod_cast h
  have hq : a = 2 ^ j * (a / 2 ^ j) := by
    have := Nat.div_add_mod a (2 ^ j)
    omega
  have hor : a ||| c = a + c := by
    rw [hq, ← Nat.two_pow_add_eq_or_of_lt hc (a / 2 ^ j)]
  simp only [Go.bits, BitVec.toNat_or, e1, e2, hor]
  rw [Go.IntKind.wrap_i64]
  omega
/-- The result and x, in their blocks. -/
def EntS (h : Nat) (nm : ByteArray) (d a b : Int) (W : World) : Prop :=
  W.heap[h]? = some (.cells #[.string ⟨#[]⟩, .int .i64 0, .int .i64 0, .int .i64 0] 57 (0, 0)) ∧ W.heap[h + 1]? = some (.cells #[.string nm, .int .i64 d, .int .i64 a, .int .i64 b] 57 (0, 0))
theorem heap_cell {W : World} {g : Nat} {cells : Array Value} {t : TypeId} {fr : Nat × Nat} (h : W.heap[g]? = some (.cells cells t fr)) (j : Nat) : W.cell? ⟨g, j, none⟩ = cells[j]? := by simp [World.cell?, h]
theorem heap_free {W : World} {g : Nat} {cells : Array Value} {t : TypeId} (h : W.heap[g]? = some (.cells cells t (0, 0))) (j : Nat) : W.frozen? ⟨g, j, none⟩ = false := by simp [World.frozen?, h]
theorem heap_set {W : World} {g : Nat} {cells : Array Value} {t : TypeId} {fr : Nat × Nat} (h : W.heap[g]? = some (.cells cells t fr)) (o : Nat) (v : Value) : (W.setCell ⟨g, o, none⟩ v).heap[g]? = some (.cells (cells.setIfInBounds o v) t fr) := by
  simp [World.setCell, Array.getElem?_modify, h]
theorem EntS.setD {h : Nat} {nm : ByteArray} {d a b : Int} {W : World} (hE : EntS h nm d a b W) (x : Int) : EntS h nm x a b (W.setCell ⟨h + 1, 1, none⟩ (.int .i64 x)) := ⟨(Below.heap_setCell _ _ _ _ (by show h ≠ h + 1; omega)).trans hE.1, heap_set hE.2 1 _⟩
theorem EntS.setA {h : Nat} {nm : ByteArray} {d a b : Int} {W : World} (hE : EntS h nm d a b W) (x : Int) : EntS h nm d x b (W.setCell ⟨h + 1, 2, none⟩ (.int .i64 x)) := ⟨(Below.heap_setCell _ _ _ _ (by show h ≠ h + 1; omega)).trans hE.1, heap_set hE.2 2 _⟩
theorem EntS.setB {h : Nat} {nm : ByteArray} {d a b : Int} {W : World} (hE : EntS h nm d a b W) (x : Int) : EntS h nm d a x (W.setCell ⟨h + 1, 3, none⟩ (.int .i64 x)) := ⟨(Below.heap_setCell _ _ _ _ (by show h ≠ h + 1; omega)).trans hE.1, heap_set hE.2 3 _⟩
theorem below_of_bytes (w : World) (e : TypeId) (s : ByteArray) {m : Nat} (h : m ≤ w.heap.size) : Below m w (Lib.bytesWorld w e s) :=
  (Below.refl m w).grown (row := none) ⟨rfl, rfl, rfl, by rw [Lib.bytesWorld_size]; omega, fun j hj _ => Lib.bytesWorld_at_old w e s j hj⟩ h (fun k e => by cases e)
theorem EntS.drew {h : Nat} {nm : ByteArray} {d a b : Int} {W : World} (hE : EntS h nm d a b W) : EntS h nm d a b W.drew := hE
theorem heap_ltN {w : World} {g : Nat} {o : Obj} (h : w.heap[g]? = some o) : g < w.heap.size := (Array.getElem?_eq_some_iff.1 h).1
theorem entS_done {h : Nat} {nm : ByteArray} {d a b : Int} {W : World} (hE : EntS h nm d a b W) :
    ((((W.setCell ⟨h, 0, none⟩ (.string nm)).setCell ⟨h, 1, none⟩ (.int .i64 d)).setCell ⟨h, 2, none⟩ (.int .i64 a)).setCell ⟨h, 3, none⟩ (.int .i64 b)).drew.heap[h]? = some (.cells #[.string nm, .int .i64 d, .int .i64 a, .int .i64 b] 57 (0, 0)) :=
  heap_set (heap_set (heap_set (heap_set hE.1 0 _) 1 _) 2 _) 3 _
theorem entS_doneB {w W : World} {nm : ByteArray} {d a b : Int} (hE : EntS w.heap.size nm d a b W) (hB : Below w.heap.size w W) :
    Below w.heap.size w ((((W.setCell ⟨w.heap.size, 0, none⟩ (.string nm)).setCell ⟨w.heap.size, 1, none⟩ (.int .i64 d)).setCell ⟨w.heap.size, 2, none⟩ (.int .i64 a)).setCell ⟨w.heap.size, 3, none⟩ (.int .i64 b)).drew :=
  ((((hB.setCell (p := ⟨w.heap.size, 0, none⟩) (Nat.le_refl _) _).setCell (p := ⟨w.heap.size, 1, none⟩) (Nat.le_refl _) _).setCell (p := ⟨w.heap.size, 2, none⟩) (Nat.le_refl _) _).setCell (p := ⟨w.heap.size, 3, none⟩) (Nat.le_refl _) _).drew
theorem entS_doneB0 {w W : World} {nm : ByteArray} {d a b : Int} (hE : EntS w.heap.size nm d a b W) (hB : Below w.heap.size w W) :
    Below w.heap.size w ((((W.setCell ⟨w.heap.size, 0, none⟩ (.string nm)).setCell ⟨w.heap.size, 1, none⟩ (.int .i64 d)).setCell ⟨w.heap.size, 2, none⟩ (.int .i64 a)).setCell ⟨w.heap.size, 3, none⟩ (.int .i64 b)) :=
  ((((hB.setCell (p := ⟨w.heap.size, 0, none⟩) (Nat.le_refl _) _).setCell (p := ⟨w.heap.size, 1, none⟩) (Nat.le_refl _) _).setCell (p := ⟨w.heap.size, 2, none⟩) (Nat.le_refl _) _).setCell (p := ⟨w.heap.size, 3, none⟩) (Nat.le_refl _) _)
theorem entS_below {w W W' : World} {nm : ByteArray} {d a b : Int} (hE : EntS w.heap.size nm d a b W) (hB : Below w.heap.size w W) (h : Below W.heap.size W W') : EntS w.heap.size nm d a b W' ∧ Below w.heap.size w W' :=
  ⟨⟨(h.block _ (heap_ltN hE.1)).trans hE.1, (h.block _ (heap_ltN hE.2)).trans hE.2⟩, hB.trans (h.mono hB.size)⟩
theorem cell_far2 (W : World) (h o j : Nat) (v : Value) : (W.setCell ⟨h + 1, o, none⟩ v).cell? ⟨h + 2, j, none⟩ = W.cell? ⟨h + 2, j, none⟩ := by
  have := Below.heap_setCell W ⟨h + 1, o, none⟩ v (h + 2) (by show h + 2 ≠ h + 1; omega)
  simp only [World.cell?, this]
set_option maxHeartbeats 4000000 in
set_option maxRecDepth 100000 in
theorem entryOf_yes (s nm r : ByteArray) (hname : campaign_nameIn.f s = some (nm, r, true)) (hr8 : 8 ≤ r.size) (hrs : r.size ≤ 1000) (w : World) :
    Calls Tryd.prog 38 #[.string s] w fun e w' => e = .returned (.tuple #[.agg #[.string nm, .int .i64 (digB r 5), .int .i64 (bt r 5), .int .i64 (bt r 6)], .bool (okRest r nm)]) ∧ Below w.heap.size w w' := by
  have hlt : decide ((r.size : Int) < 8) = false := decide_eq_false (by omega)
  have hk := fun (w : World) => Lib.run_convert_string_bytes (P := Tryd.prog) w 9 45 5 (r.extract 0 5) Tryd.underlying9 Tryd.underlying45 Tryd.underlying5
  have h5 : (r.extract 0 5).size = 5 := by rw [ByteArray.size_extract]; omega
  rw [h5] at hk
  go_enter Tryd.func38, Tryd.ntmps38
  go_wp2_with (go_at_call 46; refine (campaign_nameIn.calls s _ _ _ _ hname).mono ?_; rintro e w1 ⟨rfl, hd1⟩)
  have hw1 : w1.heap.size = w.heap.size + 1 := by obtain ⟨n, rfl⟩ := hd1.out; simp
  have hb1 : Below w.heap.size w w1 := ((Below.refl _ w).alloc (Nat.le_refl _) _).trans (hd1.below.mono (by simp))
  have hR1 := (hd1.below.block w.heap.size (by simp)).trans (heap_alloc_new w _)
  clear hd1
  obtain ⟨W2, hW2⟩ : ∃ W2, w1.alloc (.cells #[.string nm, .int .i64 0, .int .i64 0, .int .i64 0] 57) = W2 := ⟨_, rfl⟩
  have hs2 : W2.heap.size = w.heap.size + 2 := by rw [← hW2]; simp [hw1]
  have hX2 : W2.heap[w.heap.size + 1]? = some (.cells #[.string nm, .int .i64 0, .int .i64 0, .int .i64 0] 57) := by rw [← hW2, ← hw1]; exact heap_alloc_new w1 _
  have hb12 : Below w1.heap.size w1 W2 := by rw [← hW2]; exact (Below.refl _ w1).alloc (Nat.le_refl _) _
  have hR2 := (hb12.block w.heap.size (by omega)).trans hR1
  have hb2 : Below w.heap.size w W2 := hb1.trans (hb12.mono (by omega))
  rw [hW2, hw1]
  clear hW2 hb12 hR1 hb1 hw1
  obtain ⟨cap, hcap⟩ : ∃ cap, grownCap W2 5 0 5 = cap := ⟨_, rfl⟩
  rw [hcap]
  obtain ⟨W3, hW3⟩ : ∃ W3, Lib.bytesWorld W2 5 (r.extract 0 5) = W3 := ⟨_, rfl⟩
  have hb23 : Below W2.heap.size W2 W3 := by rw [← hW3]; exact below_of_bytes _ _ _ (Nat.le_refl _)
  have hE3 : EntS w.heap.size nm (digB r 0) 0 0 W3 := ⟨(hb23.block _ (by omega)).trans hR2, (hb23.block _ (by omega)).trans hX2⟩
  have HC3 := Aside0.mk (fun (j : Nat) (hj : j < 5) => show W3.cell? ⟨w.heap.size + 2, j, none⟩ = some (.int .u8 (bt r j)) by
    have := Lib.bytesWorld_cell W2 5 (r.extract 0 5) j (by omega)
    rw [hs2, hW3] at this
    rw [this, bt_getD5 r j hj (by omega)])
  have HE3 := Aside0.mk hE3
  have HB3 := Aside0.mk (hb2.trans (hb23.mono (by omega)))
  rw [hW3, show w.heap.size + 1 + 1 = w.heap.size + 2 from rfl]
  clear hW3 hb23 hE3 hX2 hR2 hcap hk hb2 hs2 hname
  go_loopw [31, 9] (fun i c wr => ∃ k : Nat, k ≤ 5 ∧ i = .int .i64 k ∧ Aside0 (EntS w.heap.size nm (digB r k) 0 0 wr) ∧ Aside0 (∀ j, j < 5 → wr.cell? ⟨w.heap.size + 2, j, none⟩ = some (.int .u8 (bt r j))) ∧ Aside0 (Below w.heap.size w wr)) (fun i _ _ => 5 - (intOf i).toNat)
  case atStart => exact ⟨0, Nat.zero_le _, rfl, HE3, HC3, HB3⟩
  case round =>
    obtain ⟨k, hk1, rfl, HE, HC, HL⟩ := hrel
    by_cases hlt : k < 5
    · have hc := HC.out k hlt
      have hd := digB_small r k (by omega)
      have hx := heap_cell HE.out.2 1
      have hf := heap_free HE.out.2 1
      obtain ⟨d, hde⟩ : ∃ d, digB r k = d := ⟨_, rfl⟩
      obtain ⟨c, hce⟩ : ∃ c, bt r (k : Int) = c := ⟨_, rfl⟩
      have hcr := bt_range r (k : Int)
      have hE := HE.out
      rw [hde] at hE hx hd
      rw [hce] at hc hcr
      simp at hx
      go_wp2
      rw [show bits .or .i64 (d * 256) c = d * 256 + c from or_add 8 (by decide) _ _ (by omega) (by omega) (by rw [show ((2 : Int) ^ 8) = 256 by decide]; omega) hcr.1 (by rw [show ((2 : Int) ^ 8) = 256 by decide]; omega)]
      have hE2 := hE.setD (d * 256 + c)
      rw [show d * 256 + c = digB r (k + 1) by rw [digB, hde, hce]] at hE2 ⊢
      have hHC := HC.out
      have hHL := HL.out
      go_roundw
      case rel =>
        exact ⟨k + 1, by omega, by go_num, ⟨hE2⟩, ⟨fun j hj => by rw [cell_far2]; exact hHC j hj⟩, ⟨hHL.setCell (by show w.heap.size ≤ w.heap.size + 1; omega) _⟩⟩
      case measure => simp [intOf]; omega
    · obtain rfl : k = 5 := by omega
      have q5 : (5 : Int) < (r.size : Int) := by omega
      have q6 : (6 : Int) < (r.size : Int) := by omega
      have q7 : (7 : Int) < (r.size : Int) := by omega
      obtain ⟨D, hD⟩ : ∃ D, digB r 5 = D := ⟨_, rfl⟩
      have hE := HE.out
      rw [hD] at hE
      have hx2 := heap_cell HE.out.2 2
      have hf2 := heap_free HE.out.2 2
      have hx3 := heap_cell HE.out.2 3
      have hf3 := heap_free HE.out.2 3
      simp at hx2 hx3
      go_wp2
      clear hk1 hlt HC HE HC3 HE3 HB3
      go_region
      have e5 : ∀ h, ((r[5]'h).toNat : Int) = bt r 5 := fun h => bt_at r 5 h
      have e6 : ∀ h, ((r[6]'h).toNat : Int) = bt r 6 := fun h => bt_at r 6 h
      have b5 := bt_range r 5
      have b6 := bt_range r 6
      simp only [e5, e6]
      rw [show wrap64 (bt r 5) = bt r 5 by unfold wrap64; omega, show wrap64 (bt r 6) = bt r 6 by unfold wrap64; omega]
      clear e5 e6 b5 b6
      have hE5 := ((hE.setA (bt r 5)).setB (bt r 6)).drew
      have hB5 := ((HL.out.setCell (p := ⟨w.heap.size + 1, 2, none⟩) (by show w.heap.size ≤ w.heap.size + 1; omega) (.int .i64 (bt r 5))).setCell (p := ⟨w.heap.size + 1, 3, none⟩) (by show w.heap.size ≤ w.heap.size + 1; omega) (.int .i64 (bt r 6))).drew
      obtain ⟨W5, hW5⟩ : ∃ W5, ((wr.setCell ⟨w.heap.size + 1, 2, none⟩ (.int .i64 (bt r 5))).setCell ⟨w.heap.size + 1, 3, none⟩ (.int .i64 (bt r 6))).drew = W5 := ⟨_, rfl⟩
      rw [hW5] at hE5 hB5 ⊢
      obtain ⟨A5, hA5⟩ : ∃ A5, bt r 5 = A5 := ⟨_, rfl⟩
      obtain ⟨A6, hA6⟩ : ∃ A6, bt r 6 = A6 := ⟨_, rfl⟩
      rw [hA5, hA6] at hE5
      have HE5 := Aside0.mk hE5
      have HB5 := Aside0.mk hB5
      clear hW5 hE HL hf2 hf3 hx2 hx3 hE5 hB5
      go_wp2_with (go_at_call 47; refine (trim0_calls (r.extract 8 r.size) _ (by rw [ByteArray.size_extract]; omega)).mono ?_; rintro e w6 ⟨⟨u, rfl, hu⟩, hd6⟩)
      have hs6 : W5.heap.size ≤ w6.heap.size := hd6.below.size
      have HE6 : Aside0 (EntS w.heap.size nm D A5 A6 w6) := ⟨(hd6.below.block _ (heap_ltN HE5.out.1)).trans HE5.out.1, (hd6.below.block _ (heap_ltN HE5.out.2)).trans HE5.out.2⟩
      have HB6 : Aside0 (Below w.heap.size w w6) := ⟨HB5.out.trans (hd6.below.mono HB5.out.size)⟩
      have hz : u.toList.isEmpty = all0 (r.extract 8 r.size) := by
        rw [Bool.eq_iff_iff, ← hu, List.isEmpty_iff, ByteArray.toList_eq, ← List.length_eq_zero_iff, Array.length_toList]
        rfl
      have hok : okRest r nm = (decide (bt r 7 = 90) && all0 (r.extract 8 r.size) && decide (entE ⟨nm, D, A5, A6⟩ = 0)) := by unfold okRest; rw [hD, hA5, hA6]
      rw [hz]
      clear hz hu hd6 HE5 HB5 hs6
      have hx7 : ∀ h : 7 < r.size, ((r[7]'h).toNat : Int) = bt r 7 := bt_at r 7
      have q7n : 7 < r.size := by omega
      obtain ⟨A7, hA7⟩ : ∃ A7, bt r 7 = A7 := ⟨_, rfl⟩
      rw [hA7] at hx7 hok
      obtain ⟨Z, hZ⟩ : ∃ Z, all0 (r.extract 8 r.size) = Z := ⟨_, rfl⟩
      rw [hZ] at hok ⊢
      obtain ⟨E, hEe⟩ : ∃ E, entE ⟨nm, D, A5, A6⟩ = E := ⟨_, rfl⟩
      rw [hEe] at hok
      have hcall := fun w => campaign_entryErr.calls 100 nm D A5 A6 E w (by rw [← hEe]; exact entryErr_eq 100 (by omega) ⟨nm, D, A5, A6⟩)
      have l0 := heap_cell HE6.out.2 0
      have l1 := heap_cell HE6.out.2 1
      have l2 := heap_cell HE6.out.2 2
      have l3 := heap_cell HE6.out.2 3
      have r0 := heap_cell HE6.out.1 0
      have r1 := heap_cell HE6.out.1 1
      have r2 := heap_cell HE6.out.1 2
      have r3 := heap_cell HE6.out.1 3
      have f0 := heap_free HE6.out.1 0
      have f1 := heap_free HE6.out.1 1
      have f2 := heap_free HE6.out.1 2
      have f3 := heap_free HE6.out.1 3
      simp at l0 l1 l2 l3 r0 r1 r2 r3
      by_cases h90 : A7 = 90
      · have c90 : (A7 == 90) = true := beq_iff_eq.mpr h90
        cases Z
        · have hok2 : okRest r nm = false := by rw [hok]; simp
          clear hok hcall
          go_region
          have hR := entS_done HE6.out
          have hB := entS_doneB HE6.out HB6.out
          obtain ⟨W7, hW7⟩ : ∃ W7, ((((w6.setCell ⟨w.heap.size, 0, none⟩ (.string nm)).setCell ⟨w.heap.size, 1, none⟩ (.int .i64 D)).setCell ⟨w.heap.size, 2, none⟩ (.int .i64 A5)).setCell ⟨w.heap.size, 3, none⟩ (.int .i64 A6)).drew = W7 := ⟨_, rfl⟩
          rw [hW7] at hR hB ⊢
          have r0 := heap_cell hR 0
          have r1 := heap_cell hR 1
          have r2 := heap_cell hR 2
          have r3 := heap_cell hR 3
          simp at r0 r1 r2 r3
          go_wp2
          refine bodyPost_ret (results_ct rfl _ _ w.heap.size 57 #[.string nm, .int .i64 D, .int .i64 A5, .int .i64 A6] (0, 0) _ rfl hR Tryd.underlying57 rfl (by kernel_rfl)) rfl ?_
          rw [hok2, hD, hA5, hA6]
          exact ⟨rfl, hB⟩
        · have hok2 : okRest r nm = (E == 0) := by rw [hok, h90]; simp [Bool.beq_eq_decide_eq]
          clear hok
          go_region_with (first
            | (go_at_call 40; refine (hcall _).mono ?_; rintro e w7 ⟨rfl, hb7⟩; obtain ⟨hE7, hB7⟩ := entS_below (EntS.drew HE6.out) (Below.drew HB6.out) hb7; clear hb7; have HE7 := Aside0.mk hE7; have HB7 := Aside0.mk hB7; have l0 := heap_cell HE7.out.2 0; have l1 := heap_cell HE7.out.2 1; have l2 := heap_cell HE7.out.2 2; have l3 := heap_cell HE7.out.2 3; have r0 := heap_cell HE7.out.1 0; have r1 := heap_cell HE7.out.1 1; have r2 := heap_cell HE7.out.1 2; have r3 := heap_cell HE7.out.1 3; have f0 := heap_free HE7.out.1 0; have f1 := heap_free HE7.out.1 1; have f2 := heap_free HE7.out.1 2; have f3 := heap_free HE7.out.1 3; simp at l0 l1 l2 l3 r0 r1 r2 r3; clear hE7 hB7))
          all_goals
            have hR := entS_done HE7.out
            have hB := entS_doneB0 HE7.out HB7.out
            obtain ⟨W7, hW7⟩ : ∃ W7, (((w7.setCell ⟨w.heap.size, 0, none⟩ (.string nm)).setCell ⟨w.heap.size, 1, none⟩ (.int .i64 D)).setCell ⟨w.heap.size, 2, none⟩ (.int .i64 A5)).setCell ⟨w.heap.size, 3, none⟩ (.int .i64 A6) = W7 := ⟨_, rfl⟩
            rw [hW7] at hR hB ⊢
            have r0 := heap_cell hR 0
            have r1 := heap_cell hR 1
            have r2 := heap_cell hR 2
            have r3 := heap_cell hR 3
            simp at r0 r1 r2 r3
            go_wp2
            refine bodyPost_ret (results_ct rfl _ _ w.heap.size 57 #[.string nm, .int .i64 D, .int .i64 A5, .int .i64 A6] (0, 0) _ rfl hR Tryd.underlying57 rfl (by kernel_rfl)) rfl ?_
            rw [hok2, hD, hA5, hA6]
            exact ⟨rfl, hB⟩
      · have c90 : (A7 == 90) = false := by rw [beq_eq_false_iff_ne]; exact h90
        have hok2 : okRest r nm = false := by rw [hok, decide_eq_false h90]; rfl
        clear hok hcall
        go_region
        have hR := entS_done HE6.out
        have hB := entS_doneB HE6.out HB6.out
        obtain ⟨W7, hW7⟩ : ∃ W7, ((((w6.setCell ⟨w.heap.size, 0, none⟩ (.string nm)).setCell ⟨w.heap.size, 1, none⟩ (.int .i64 D)).setCell ⟨w.heap.size, 2, none⟩ (.int .i64 A5)).setCell ⟨w.heap.size, 3, none⟩ (.int .i64 A6)).drew = W7 := ⟨_, rfl⟩
        rw [hW7] at hR hB ⊢
        have r0 := heap_cell hR 0
        have r1 := heap_cell hR 1
        have r2 := heap_cell hR 2
        have r3 := heap_cell hR 3
        simp at r0 r1 r2 r3
        go_wp2
        refine bodyPost_ret (results_ct rfl _ _ w.heap.size 57 #[.string nm, .int .i64 D, .int .i64 A5, .int .i64 A6] (0, 0) _ rfl hR Tryd.underlying57 rfl (by kernel_rfl)) rfl ?_
        rw [hok2, hD, hA5, hA6]
        exact ⟨rfl, hB⟩
set_option maxHeartbeats 4000000 in
set_option maxRecDepth 100000 in
theorem entryOf_no (s nm r : ByteArray) (ok : Bool) (hname : campaign_nameIn.f s = some (nm, r, ok)) (hno : ok = false ∨ r.size < 8) (w : World) :
    Calls Tryd.prog 38 #[.string s] w fun e w' => e = .returned (.tuple #[.agg #[.string ⟨#[]⟩, .int .i64 0, .int .i64 0, .int .i64 0], .bool false]) ∧ Below w.heap.size w w' := by
  go_enter Tryd.func38, Tryd.ntmps38
  cases ok
  · go_wp2_with (go_at_call 46; refine (campaign_nameIn.calls s _ _ _ _ hname).mono ?_; rintro e w1 ⟨rfl, hd1⟩; have hR1 := (hd1.below.block w.heap.size (by simp)).trans (heap_alloc_new w _); have hb1 : Below w.heap.size w w1 := ((Below.refl _ w).alloc (Nat.le_refl _) _).trans (hd1.below.mono (by simp)); have r0 := heap_cell hR1 0; have r1 := heap_cell hR1 1; have r2 := heap_cell hR1 2; have r3 := heap_cell hR1 3; have f0 := heap_free hR1 0; have f1 := heap_free hR1 1; have f2 := heap_free hR1 2; have f3 := heap_free hR1 3; simp at r0 r1 r2 r3; clear hd1)
    have hR := heap_set (heap_set (heap_set (heap_set hR1 0 (.string ⟨#[]⟩)) 1 (.int .i64 0)) 2 (.int .i64 0)) 3 (.int .i64 0)
    refine bodyPost_ret (results_ct rfl _ _ w.heap.size 57 #[.string ⟨#[]⟩, .int .i64 0, .int .i64 0, .int .i64 0] (0, 0) _ rfl hR Tryd.underlying57 rfl (by kernel_rfl)) rfl ?_
    exact ⟨rfl, ((((hb1.setCell (p := ⟨w.heap.size, 0, none⟩) (Nat.le_refl _) _).setCell (p := ⟨w.heap.size, 1, none⟩) (Nat.le_refl _) _).setCell (p := ⟨w.heap.size, 2, none⟩) (Nat.le_refl _) _).setCell (p := ⟨w.heap.size, 3, none⟩) (Nat.le_refl _) _)⟩
  · have hlt : decide ((r.size : Int) < 8) = true := decide_eq_true (by have := hno.resolve_left (by decide); omega)
    go_wp2_with (go_at_call 46; refine (campaign_nameIn.calls s _ _ _ _ hname).mono ?_; rintro e w1 ⟨rfl, hd1⟩; have hR1 := (hd1.below.block w.heap.size (by simp)).trans (heap_alloc_new w _); have hb1 : Below w.heap.size w w1 := ((Below.refl _ w).alloc (Nat.le_refl _) _).trans (hd1.below.mono (by simp)); have r0 := heap_cell hR1 0; have r1 := heap_cell hR1 1; have r2 := heap_cell hR1 2; have r3 := heap_cell hR1 3; have f0 := heap_free hR1 0; have f1 := heap_free hR1 1; have f2 := heap_free hR1 2; have f3 := heap_free hR1 3; simp at r0 r1 r2 r3; clear hd1)
    have hR := heap_set (heap_set (heap_set (heap_set hR1 0 (.string ⟨#[]⟩)) 1 (.int .i64 0)) 2 (.int .i64 0)) 3 (.int .i64 0)
    refine bodyPost_ret (results_ct rfl _ _ w.heap.size 57 #[.string ⟨#[]⟩, .int .i64 0, .int .i64 0, .int .i64 0] (0, 0) _ rfl hR Tryd.underlying57 rfl (by kernel_rfl)) rfl ?_
    exact ⟨rfl, ((((hb1.setCell (p := ⟨w.heap.size, 0, none⟩) (Nat.le_refl _) _).setCell (p := ⟨w.heap.size, 1, none⟩) (Nat.le_refl _) _).setCell (p := ⟨w.heap.size, 2, none⟩) (Nat.le_refl _) _).setCell (p := ⟨w.heap.size, 3, none⟩) (Nat.le_refl _) _)⟩
/-- The name in a block of 32 bytes, and what is behind it. -/
def nmOf (s : ByteArray) : ByteArray × ByteArray × Bool := if bt s 0 = 165 ∧ bt s 1 ≤ 30 then (s.extract 2 (2 + (bt s 1).toNat), s.extract (2 + (bt s 1).toNat) s.size, true) else (⟨#[]⟩, ⟨#[]⟩, false)
theorem nameIn_eq (s : ByteArray) (hs : s.size = 32) : campaign_nameIn.f s = some (nmOf s) := by
  have h1 := bt_range s 1
  have e1 : wrap64 (bt s 1) = bt s 1 := by unfold wrap64; omega
  have e2 : wrap64 ((s.size : Int) - 2) = 30 := by rw [hs]; unfold wrap64; omega
  have e3 : wrap64 (2 + bt s 1) = 2 + bt s 1 := by unfold wrap64; omega
  unfold campaign_nameIn.f nmOf
  simp only [e1, e2, e3]
  rw [if_pos (show 0 < (s.size : Int) by omega), if_pos (show 1 < (s.size : Int) by omega)]
  by_cases h0 : bt s 0 = 165
  · rw [if_pos h0]
    by_cases h2 : bt s 1 ≤ 30
    · rw [if_neg (show ¬ bt s 1 > 30 by omega), if_pos (show 2 ≤ 2 + bt s 1 by omega), if_pos (show 2 + bt s 1 ≤ (s.size : Int) by omega), if_pos (show 0 ≤ 2 + bt s 1 by omega), if_pos (show bt s 0 = 165 ∧ bt s 1 ≤ 30 from ⟨h0, h2⟩)]
      have e4 : (2 + bt s 1).toNat = 2 + (bt s 1).toNat := by omega
      simp [e4]
    · rw [if_pos (show bt s 1 > 30 by omega), if_neg (by rintro ⟨_, h⟩; exact h2 h)]
  · rw [if_neg h0, if_neg (by rintro ⟨h, _⟩; exact h0 h)]
/-- What entryOf makes of a block of 32 bytes. -/
def entOf (s : ByteArray) : ByteArray × Int × Int × Int × Bool :=
  if (nmOf s).2.2 = true ∧ 8 ≤ (nmOf s).2.1.size then ((nmOf s).1, digB (nmOf s).2.1 5, bt (nmOf s).2.1 5, bt (nmOf s).2.1 6, okRest (nmOf s).2.1 (nmOf s).1) else (⟨#[]⟩, 0, 0, 0, false)
def campaign_entryOf.f (s : ByteArray) : Option (ByteArray × Int × Int × Int × Bool) := if s.size = 32 then some (entOf s) else none
theorem nmOf_size (s : ByteArray) (hs : s.size = 32) : (nmOf s).2.1.size ≤ 1000 := by
  unfold nmOf
  split
  · simp [ByteArray.size_extract, hs]; omega
  · simp [ByteArray.size]
theorem campaign_entryOf.calls (a0 : ByteArray) (r1 : ByteArray) (r2 r3 r4 : Int) (r5 : Bool) (w : World) (h : campaign_entryOf.f a0 = some (r1, r2, r3, r4, r5)) :
    Calls Tryd.prog 38 #[.string a0] w fun e w' => e = .returned (.tuple #[.agg #[.string r1, .int .i64 r2, .int .i64 r3, .int .i64 r4], .bool r5]) ∧ Below w.heap.size w w' := by
  unfold campaign_entryOf.f at h
  by_cases hs : a0.size = 32
  · rw [if_pos hs] at h
    have hn := nameIn_eq a0 hs
    have hz := nmOf_size a0 hs
    have h' := Option.some.inj h
    unfold entOf at h'
    obtain ⟨x, hx⟩ : ∃ x, nmOf a0 = x := ⟨_, rfl⟩
    rw [hx] at hn hz h'
    obtain ⟨nm, r, ok⟩ := x
    simp only at h' hz
    by_cases c : ok = true ∧ 8 ≤ r.size
    · rw [if_pos c] at h'
      simp only [Prod.mk.injEq] at h'
      obtain ⟨rfl, rfl, rfl, rfl, rfl⟩ := h'
      obtain ⟨rfl, c⟩ := c
      exact entryOf_yes a0 nm r hn c hz w
    · rw [if_neg c] at h'
      simp only [Prod.mk.injEq] at h'
      obtain ⟨rfl, rfl, rfl, rfl, rfl⟩ := h'
      refine entryOf_no a0 nm r ok hn ?_ w
      cases ok
      · exact .inl rfl
      · exact .inr (by have : ¬ 8 ≤ r.size := fun h => c ⟨rfl, h⟩; omega)
  · rw [if_neg hs] at h
    cases h
end Go.Proofs.YtgflelipamofoaaDoor.PA
