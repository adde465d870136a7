/- slices.Chunk over the call's own bytes; campaign.blocks: the blocks of a journal, in the printer's form. -/
import Derived.Test.YtgflelipamofoaaDoorHCh
namespace Go.Proofs.YtgflelipamofoaaDoor.PA
open Go Go.RowKit Go.Shelf Go.Proofs.YtgflelipamofoaaDoorW.PrintWords Go.Proofs.YtgflelipamofoaaDoorW.PrintLast Go.Proofs.YtgflelipamofoaaDoorW.PrintMore
attribute [local go_sem] Oper.semAt_some
set_option linter.unusedVariables false
set_option linter.unusedSimpArgs false
def chunkB (s : ByteArray) (k : Nat) : ByteArray := s.extract (32 * k) (32 * k + 32)
def blocksB (s : ByteArray) : List ByteArray := (List.range ((s.size + 31) / 32)).map (chunkB s)
def campaign_blocks.f (s : ByteArray) : Option (List ByteArray) := if s.size ≤ 100000 then some (blocksB s) else none
set_option maxHeartbeats 1000000 in
theorem chunk_in (F : Fence) (n : Nat) (h39 : F.fn 39) (hro : F.round = none) (A : Option Addr) (L c : Nat) (w : World) :
    CallsIn F n Tryd.prog 39 #[.slice A L c, .int .i64 32] w fun e w' => e = .returned (.func (.func 48) #[] #[.pointer (some ⟨w.heap.size, 0, none⟩), .pointer (some ⟨w.heap.size + 1, 0, none⟩)]) ∧ w' = (w.alloc (.cells #[.slice A L c] 45)).alloc (.cells #[.int .i64 32] 3) := by
  refine callsIn_of_wp Tryd.func39 rfl h39 ?_ hro
  simp only [Tryd.ntmps39, List.size_toArray, List.length_cons, List.length_nil, Nat.reduceAdd, Nat.reduceSub, Array.replicate_succ, Array.replicate_zero, List.push_toArray, List.append_toArray, List.nil_append, List.cons_append]
  gi_wp2
  go_ret
  exact ⟨rfl, rfl⟩
theorem drew_grown (w : World) (row : Option Nat) : w.grownBy w.drew row := ⟨rfl, rfl, rfl, Nat.le_refl _, fun _ _ _ => rfl⟩
abbrev Ck (L : Nat) := { x : Nat // 32 * x < L }
theorem chunk_stops (F : Fence) (n : Nat) (h48 : F.fn 48) (hro : F.round = none) (hn : 1 ≤ n) (b Bs Bn L cap : Nat) (hL : L ≤ 100000) (hcap : L ≤ cap) (hcm : cap ≤ 9223372036854775807) (w : World)
    (hb : Bs < w.heap.size) (hb2 : Bn < w.heap.size) (hBs : w.cell? ⟨Bs, 0, none⟩ = some (.slice (some ⟨b, 0, none⟩) L cap)) (hBn : w.cell? ⟨Bn, 0, none⟩ = some (.int .i64 32)) :
    SeqStopsK F n Tryd.prog 48 #[.pointer (some ⟨Bs, 0, none⟩), .pointer (some ⟨Bn, 0, none⟩)] (fun x : Ck L => #[.slice (some ⟨b, 32 * x.1, none⟩) (min 32 (L - 32 * x.1)) (min 32 (L - 32 * x.1))]) (KpC b Bs Bn)
      (fun ys => ys.map Subtype.val = List.range ((L + 31) / 32)) (fun _ => True) ((L + 31) / 32) w := by
  intro l J Jx W hW hJ hJx hY h0
  refine (chunk1_in F n h48 hro hn l b Bs Bn L cap ((L + 31) / 32) hL hcap hcm rfl (fun pre W => ∃ ys : List (Ck L), ys.map Subtype.val = pre ∧ J ys W) (fun pre W => ∃ ys : List (Ck L), ys.map Subtype.val = pre ∧ Jx ys W) ?_ W
    ((hW.cell (p := ⟨Bs, 0, none⟩) hb).trans hBs) ((hW.cell (p := ⟨Bn, 0, none⟩) hb2).trans hBn) ⟨[], rfl, h0⟩ ?_).mono ?_
  · rintro pre x W1 ⟨ys, rfl, hj⟩ hlen hx
    rw [List.length_map] at hlen
    refine (hY ys ⟨x, by omega⟩ W1 hj hlen).mono ?_
    rintro e W' (⟨rfl, hj', hk⟩ | ⟨rfl, hj'⟩)
    · exact .inl ⟨rfl, ⟨_, by simp, hj'⟩, hk⟩
    · exact .inr ⟨rfl, ⟨_, by simp, hj'⟩⟩
  · rintro ys' W1 ⟨ys, rfl, hj⟩
    exact ⟨ys, rfl, hJ _ _ _ none hj (drew_grown _ _) (fun r e => by cases e)⟩
  · rintro e W' ⟨hv, h⟩
    refine ⟨hv, ?_⟩
    rcases h with ⟨ys', rfl, ys, hys, hj⟩ | ⟨pre, _, ys, _, hj⟩
    · exact .inl ⟨ys, hys, hj⟩
    · exact .inr ⟨ys, trivial, hj⟩
theorem str_bytes (s : ByteArray) : strOfNums (s.data.toList.map fun b => (b.toNat : Int)) = s := by
  unfold strOfNums
  rw [List.map_map, show ((fun n : Int => UInt8.ofNat n.toNat) ∘ fun b : UInt8 => (b.toNat : Int)) = id by funext b; simp]
  simp
theorem chunk_str {P : Program} {W : World} {h e : Nat} {s : ByteArray} {cells : Array Value} {fr : Nat × Nat} (hW : W.heap[h]? = some (.cells cells e fr)) (hc : ∀ j, j < s.size → cells[j]? = some (.int .u8 (s.data.toList.getD j 0).toNat))
    (src dst el : TypeId) (hs : P.underlying src = some (.slice el)) (he : P.underlying el = some (.int .u8)) (hd : P.underlying dst = some .string) (x m c : Nat) (hm : m = min 32 (s.size - 32 * x)) :
    (convert src dst (.slice (some ⟨h, 32 * x, none⟩) m c)).run P W = .ok (.string (chunkB s x)) W := by
  have hlen : (chunkB s x).data.size = m := by show (chunkB s x).size = m; rw [chunkB, ByteArray.size_extract]; omega
  have := run_convert_bytes_arg (P := P) (w := W) src el hs he h (32 * x) m c ((chunkB s x).data.toList.map fun u => (u.toNat : Int)) (by rw [List.length_map, Array.length_toList]; exact hlen) (fun i hi => ?_) dst hd
  · rw [this, str_bytes]
  · have hi' : 32 * x + i < s.size := by omega
    have hi2 : i < (chunkB s x).data.size := by omega
    have hi3 : 32 * x + i < s.data.size := hi'
    simp only [World.cell?, hW]
    have h1 := hc (32 * x + i) hi'
    have h2 : ((chunkB s x).data.toList.map fun u => (u.toNat : Int)).getD i 0 = (s.data.toList.getD (32 * x + i) 0).toNat := by
      rw [List.getD_eq_getElem?_getD, List.getElem?_map, List.getD_eq_getElem?_getD, Array.getElem?_toList, Array.getElem?_toList, Array.getElem?_eq_getElem hi2, Array.getElem?_eq_getElem hi3]
      simp [chunkB]
    rw [h2]
    simpa using h1
theorem kpC_below {b Bs Bn m : Nat} {W W' : World} (h : Below m W W') (h1 : b < m) (h2 : Bs < m) (h3 : Bn < m) : KpC b Bs Bn W W' := ⟨h.block b h1, h.block Bs h2, h.block Bn h3⟩
theorem kpC_grown {b Bs Bn : Nat} {W W' : World} {row : Option Nat} (h : W.grownBy W' row) (l3 : Bn < W.heap.size) (l1 : b ≤ Bn) (l2 : Bs ≤ Bn) (h1 : row ≠ some b) (h2 : row ≠ some Bs) (h3 : row ≠ some Bn) : KpC b Bs Bn W W' := ⟨h.block b (by omega) (Ne.symm h1), h.block Bs (by omega) (Ne.symm h2), h.block Bn l3 (Ne.symm h3)⟩
theorem kpC_set {b Bs Bn B : Nat} (W : World) (o : Nat) (v : Value) (h1 : b ≠ B) (h2 : Bs ≠ B) (h3 : Bn ≠ B) : KpC b Bs Bn W (W.setCell ⟨B, o, none⟩ v) := ⟨Below.heap_setCell _ _ _ _ h1, Below.heap_setCell _ _ _ _ h2, Below.heap_setCell _ _ _ _ h3⟩
theorem below_of_bytes (w : World) (e : TypeId) (s : ByteArray) {m : Nat} (h : m ≤ w.heap.size) : Below m w (Lib.bytesWorld w e s) :=
  (Below.refl m w).grown (row := none) ⟨rfl, rfl, rfl, by rw [Lib.bytesWorld_size]; omega, fun j hj _ => Lib.bytesWorld_at_old w e s j hj⟩ h (fun k e => by cases e)
theorem heap_lt' {w : World} {g : Nat} {o : Obj} (h : w.heap[g]? = some o) : g < w.heap.size := (Array.getElem?_eq_some_iff.1 h).1
theorem bytes_cell_at (w : World) (e : TypeId) (s : ByteArray) (j : Nat) (hj : j < s.size) : (Lib.bytesCells w e s)[j]? = some (.int .u8 (s.data.toList.getD j 0).toNat) := by
  have h := Lib.bytesWorld_cell w e s j hj
  simpa [World.cell?, Lib.bytesWorld_at_new] using h
theorem infoString : (Tryd.prog.info? 9).map (fun i => (i.zero, i.size, i.bytes)) = some (some (.string ⟨#[]⟩), 1, 16) := by kernel_rfl
set_option maxRecDepth 100000 in
set_option maxHeartbeats 2000000 in
theorem blocks_in (F : Fence) (n : Nat) (h28 : F.fn 28) (h39 : F.fn 39) (h48 : F.fn 48) (hro : F.round = none) (hn : 3 ≤ n) (s : ByteArray) (hs : s.size ≤ 100000) (w : World) :
    CallsIn F n Tryd.prog 28 #[.string s] w fun e W' => ∃ v, e = .returned v ∧ W'.ownsRow w.heap.size 9 1 v (blocksB s).length ((blocksB s).map Value.string) ∧ Below w.heap.size w W' := by
  have h1 : 1 ≤ n := by omega
  have hcv := fun (w : World) => Lib.run_convert_string_bytes (P := Tryd.prog) w 9 45 5 s Tryd.underlying9 Tryd.underlying45 Tryd.underlying5
  refine callsIn_of_wp_marks Tryd.func28 rfl h28 ?_ hro
  simp only [Tryd.ntmps28, List.size_toArray, List.length_cons, List.length_nil, Nat.reduceAdd, Nat.reduceSub, Array.replicate_succ, Array.replicate_zero, List.push_toArray, List.append_toArray, List.nil_append, List.cons_append]
  gi_wp2_with (gi_at_call 39; refine (chunk_in F (n - 1) h39 hro _ _ _ _).mono ?_; rintro e w' ⟨rfl, rfl⟩)
  obtain ⟨i0, hi, hz0, hz1, hz2⟩ := info_parts infoString
  obtain ⟨W1, hW1⟩ : ∃ W1, w.alloc (.cells #[.slice none 0 0] 60) = W1 := ⟨_, rfl⟩
  have hs1 : W1.heap.size = w.heap.size + 1 := by rw [← hW1]; simp
  have bO : Boxed W1 w.heap.size 60 (.slice none 0 0) := by rw [← hW1]; exact Boxed.new w _ _
  have hB1 : Below w.heap.size w W1 := by rw [← hW1]; exact (Below.refl _ w).alloc (Nat.le_refl _) _
  rw [hW1]
  clear hcv hW1
  obtain ⟨cap, hcap⟩ : ∃ cap, grownCap W1 s.size 0 5 = cap := ⟨_, rfl⟩
  have hc1 : s.size ≤ cap := by
    rcases Nat.eq_zero_or_pos s.size with h | h
    · omega
    · rw [← hcap]; exact grownCap_ge W1 s.size 0 5
  have hc2 : cap ≤ 9223372036854775807 := by
    have hm : maxLen ≤ 9223372036854775807 := by decide
    have := grownCap_le_maxLen W1 s.size 0 5 (by unfold maxLen; omega)
    omega
  rw [hcap]
  obtain ⟨W2, hW2⟩ : ∃ W2, Lib.bytesWorld W1 5 s = W2 := ⟨_, rfl⟩
  have hs2 : W2.heap.size = w.heap.size + 2 := by rw [← hW2, Lib.bytesWorld_size, hs1]
  have hcells : W2.heap[w.heap.size + 1]? = some (.cells (Lib.bytesCells W1 5 s) 5 ((Lib.bytesCells W1 5 s).size, (Lib.bytesCells W1 5 s).size + 1)) := by
    have := Lib.bytesWorld_at_new W1 5 s
    rwa [hW2, hs1] at this
  have bO2 : Boxed W2 w.heap.size 60 (.slice none 0 0) := by
    rw [← hW2]; exact (Lib.bytesWorld_at_old W1 5 s _ (by omega)).trans bO
  have hB2 : Below w.heap.size w W2 := by
    rw [← hW2]; exact hB1.trans (below_of_bytes _ _ _ (by omega))
  rw [hW2, hs2, show w.heap.size + 2 + 1 = w.heap.size + 3 from rfl]
  clear hW2 bO hB1
  obtain ⟨W4, hW4⟩ : ∃ W4, (W2.alloc (.cells #[.slice (some ⟨w.heap.size + 1, 0, none⟩) s.size cap] 45)).alloc (.cells #[.int .i64 32] 3) = W4 := ⟨_, rfl⟩
  have hs4 : W4.heap.size = w.heap.size + 4 := by rw [← hW4]; simp [hs2]
  have bS : Boxed W4 (w.heap.size + 2) 45 (.slice (some ⟨w.heap.size + 1, 0, none⟩) s.size cap) := by
    rw [← hW4, ← hs2]; exact (Boxed.new W2 _ _).alloc _
  have bN : Boxed W4 (w.heap.size + 3) 3 (.int .i64 32) := by
    have := Boxed.new (W2.alloc (.cells #[.slice (some ⟨w.heap.size + 1, 0, none⟩) s.size cap] 45)) 3 (.int .i64 32)
    rw [World.size_alloc, hs2] at this
    rw [← hW4]; exact this
  have bO4 : Boxed W4 w.heap.size 60 (.slice none 0 0) := by rw [← hW4]; exact (bO2.alloc _).alloc _
  have hB24 : Below W2.heap.size W2 W4 := by rw [← hW4]; exact ((Below.refl _ W2).alloc (Nat.le_refl _) _).alloc (by simp) _
  have hB4 : Below w.heap.size w W4 := hB2.trans (hB24.mono (by omega))
  have hcells4 := (hB24.block (w.heap.size + 1) (by omega)).trans hcells
  rw [hW4]
  clear hW4 hB24 hB2 hcells bO2 hcap
  refine wpIn_rangeFunc_ownG hro h1 (gf := 48) (lb := #[.pointer (some ⟨w.heap.size + 2, 0, none⟩), .pointer (some ⟨w.heap.size + 3, 0, none⟩)]) rfl h48 (enters_of Tryd.func48 (by kernel_rfl) rfl)
    (chunk_stops F (n - 1) h48 hro (by omega) (w.heap.size + 1) (w.heap.size + 2) (w.heap.size + 3) s.size cap hs hc1 hc2 W4 (by omega) (by omega) bS.cell bN.cell) KpC.trans
    (fun W l o o' hl ho hc hw => kpC_below (belowK_b (Nat.le_refl W4.heap.size) W l o o' hl ho hc hw) (by omega) (by omega) (by omega)) (Below.refl _ _) (fun _ => rfl)
    (fun pre W => ((∃ v, Boxed W w.heap.size 60 v ∧ W.ownsRow (w.heap.size + 4) 9 1 v pre.length (pre.map fun x : Ck s.size => Value.string (chunkB s x.1)) ∧ True) ∧ KpC (w.heap.size + 1) (w.heap.size + 2) (w.heap.size + 3) W4 W) ∧ Below w.heap.size w W)
    (fun _ _ _ => False)
    (OwnFrom.and (OwnFrom.and (Own.from (holdsRow_own (w.heap.size + 4) w.heap.size 60 9 1 (fun pre : List (Ck s.size) => pre.length) (fun pre => pre.map fun x : Ck s.size => Value.string (chunkB s x.1)) (fun _ _ => True)) _)
      (fun _ A B row h hg hr => h.trans (kpC_grown hg (heap_lt' (h.2.2.trans bN)) (by omega) (by omega) (fun e => by have := (hr _ e).1; omega) (fun e => by have := (hr _ e).1; omega) (fun e => by have := (hr _ e).1; omega)))) (ownFrom_below (Nat.le_refl _) (by omega)))
    (fun _ _ _ _ _ hs _ _ => hs)
    ⟨⟨⟨_, bO4, World.ownsRow_nil _ _ _ _, trivial⟩, KpC.refl _ _ _ _⟩, hB4⟩
    (fun x => { tmps := #[.string s, undef, .slice none 0 0, .pointer (some ⟨w.heap.size, 0, none⟩), .slice (some ⟨w.heap.size + 1, 32 * x.1, none⟩) (min 32 (s.size - 32 * x.1)) (min 32 (s.size - 32 * x.1)), .string s, .slice (some ⟨w.heap.size + 1, 0, none⟩) s.size cap, .func (.func 48) #[] #[.pointer (some ⟨w.heap.size + 2, 0, none⟩), .pointer (some ⟨w.heap.size + 3, 0, none⟩)], .slice (some ⟨w.heap.size + 1, 32 * x.1, none⟩) (min 32 (s.size - 32 * x.1)) (min 32 (s.size - 32 * x.1)), undef, undef, undef, undef, undef, undef], defers := [] }) ?assign ?body ?done ?stop
  case assign =>
    intro l x W K hK
    gi_wp2
    exact hK
  case body =>
    rintro l pre x W ⟨⟨⟨v, hv, hrow, _⟩, hKp⟩, hB⟩ hlt
    have hc := hv.cell
    have hx := x.2
    have hsz : w.heap.size + 4 ≤ W.heap.size := by have := heap_lt' (hKp.2.2.trans bN); omega
    have hcs := chunk_str (P := Tryd.prog) (hKp.1.trans hcells4) (bytes_cell_at W1 5 s) 45 9 5 Tryd.underlying45 Tryd.underlying5 Tryd.underlying9 x.1 (min 32 (s.size - 32 * x.1)) (min 32 (s.size - 32 * x.1)) rfl
    gi_wp2_with (gi_at_builtin; refine wpListIn_append_own _ rfl _ _ 60 rfl (w.heap.size + 4) 9 i0 (.string ⟨#[]⟩) 1 16 Tryd.underlying60 hi hz0 hz1 hz2 rfl (by decide) _ _ _ rfl (hrow.alloc _) ⟨W.heap.size, 0, none⟩ 1 1 [.string (chunkB s x.1)] rfl rfl (cell_one_new _ _ _) (by simp [Value.oneCell']) (by unfold maxLen; omega) (by omega) (by have := hB.size; simp; omega) ?_; intro v' w1 hown' hgrow _; obtain ⟨g', cap', rfl⟩ := ownsRow_succ hown'; obtain ⟨hv1, hv2, hr2, hk2, hb2⟩ := hv.appended (by decide) (own_weaken hrow (by omega)) hB.size (Nat.le_refl _) (own_weaken hown' (by omega)) hgrow; have hc1 := hv1.cell; have hf1 := hv1.frozen)
    have hKW : KpC (w.heap.size + 1) (w.heap.size + 2) (w.heap.size + 3) W (w1.setCell ⟨w.heap.size, 0, none⟩ (.slice (some ⟨g', 0, none⟩) (pre.length + 1) cap')) := by
      refine ((kpC_below ((Below.refl W.heap.size W).alloc (Nat.le_refl _) _) (by omega) (by omega) (by omega)).trans (kpC_grown hgrow (by simp; omega) (by omega) (by omega) (fun e => ?_) (fun e => ?_) (fun e => ?_))).trans (kpC_set _ _ _ (by omega) (by omega) (by omega))
      · have := own_base hrow _ e; omega
      · have := own_base hrow _ e; omega
      · have := own_base hrow _ e; omega
    refine ⟨hk2.from _, hKW, ⟨⟨_, hv2, ?_, trivial⟩, hKp.trans hKW⟩, hB.trans hb2⟩
    have := hown'.kept (grownBy_setCell' w1 w.heap.size (.slice (some ⟨g', 0, none⟩) (pre.length + 1) cap')) (.inr (hv1.not_row (by decide) hown').symm)
    simpa using this
  case done =>
    rintro D ys W hD hys ⟨⟨⟨v, hv, hrow, _⟩, hKp⟩, hB⟩ hK
    have hc := hv.cell
    gi_wp2
    refine ⟨by simp, .inl ⟨_, _, rfl, run_takeDeferred hK, ?_⟩⟩
    have hl : ys.length = (blocksB s).length := by rw [← List.length_map (f := Subtype.val), hys]; simp [blocksB]
    have hm : (ys.map fun x : Ck s.size => Value.string (chunkB s x.1)) = (blocksB s).map Value.string := by
      rw [blocksB, List.map_map, ← hys, List.map_map]; rfl
    rw [hl, hm] at hrow
    exact ⟨_, results_tmp rfl _ _ _, v, rfl, ownsRow_putObj (own_weaken hrow (by omega)) _ hK rfl, hB.trans (belowK_b (w := w) (Nat.le_refl _) W D _ _ (by omega) hK rfl rfl)⟩
  case stop =>
    rintro D c pre W _ _ h _
    exact h.elim
theorem campaign_blocks.calls (a0 : ByteArray) (r : List ByteArray) (w : World) (h : campaign_blocks.f a0 = some r) :
    Calls Tryd.prog 28 #[.string a0] w fun e w' => ∃ v0_, e = .returned v0_ ∧ Kd.R Kd.string 9 w' w.heap.size (fun _ => True) v0_ r ∧ Below w.heap.size w w' := by
  unfold campaign_blocks.f at h
  split at h
  · rename_i g
    obtain rfl := Option.some.inj h
    refine (callsIn_wide (n := 3)).1 ((blocks_in _ 3 trivial trivial trivial rfl (Nat.le_refl _) a0 g w).mono ?_)
    rintro e W' ⟨v, rfl, ho, hb⟩
    exact ⟨v, rfl, Kd.R_of_own ho (fun _ _ => trivial), hb⟩
  · cases h
end Go.Proofs.YtgflelipamofoaaDoor.PA
