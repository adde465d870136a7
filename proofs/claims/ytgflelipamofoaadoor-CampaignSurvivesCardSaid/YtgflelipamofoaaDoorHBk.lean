/- campaign.blockOf: by hand. -/
import Derived.Test.YtgflelipamofoaaDoorHRo
import Derived.Test.YtgflelipamofoaaDoorPAx0
import Derived.Outline
namespace Go.Proofs.YtgflelipamofoaaDoor.PA
open Go.RowKit Go.Proofs.YtgflelipamofoaaDoorW.PrintWords Go.Proofs.YtgflelipamofoaaDoorW.PrintLast Go.Proofs.YtgflelipamofoaaDoorW.PrintMore Go.Proofs.YtgflelipamofoaaDoor.Own
set_option linter.unusedVariables false
set_option linter.unusedSimpArgs false
def zs (n : Nat) : List Value := List.replicate n (.int .u8 0)
def rowA (A : List Value) : List Value := A ++ zs (32 - A.length)
theorem rowA_length (A : List Value) (h : A.length ≤ 32) : (rowA A).length = 32 := by simp [rowA, zs]; omega
theorem splice_rowA (A news : List Value) (n : Nat) (hn : A.length = n) (h : A.length + news.length ≤ 32) : splice (rowA A) n news = rowA (A ++ news) := by
  subst hn
  unfold splice rowA zs
  rw [List.take_left, List.drop_append, List.drop_eq_nil_of_le (by omega), List.nil_append, List.drop_replicate, List.append_assoc, List.length_append]
  congr 3
  omega
def entryObj (s : ByteArray) (d v t : Int) : Obj := .cells #[.string s, .int .i64 d, .int .i64 v, .int .i64 t] 57
theorem bk_heaps (w : World) (o1 o3 : Obj) (L : Array Value) (T : TypeId) : ((((w.alloc o1).alloc (.cells L T)).alloc o3).drew).heap[w.heap.size + 1]? = some (.cells L T (0, 0)) ∧ ((((w.alloc o1).alloc (.cells L T)).alloc o3).drew).heap[w.heap.size]? = some o1 := by
  have h : w.heap.size + 1 < ((w.alloc o1).alloc (.cells L T)).heap.size := by simp
  refine ⟨?_, ?_⟩
  · show ((((w.alloc o1).alloc (.cells L T)).alloc o3)).heap[w.heap.size + 1]? = _
    rw [heap_alloc_old _ _ h]
    have := heap_alloc_new (w.alloc o1) (.cells L T)
    rwa [show (w.alloc o1).heap.size = w.heap.size + 1 by simp] at this
  · show ((((w.alloc o1).alloc (.cells L T)).alloc o3)).heap[w.heap.size]? = _
    rw [heap_alloc_old _ _ (by simp; omega), heap_alloc_old _ _ (by simp), heap_alloc_new]
theorem bk_cells {W : World} {b : Nat} {s : ByteArray} {d v t : Int} (h : W.heap[b]? = some (entryObj s d v t)) : W.cell? ⟨b, 0, none⟩ = some (.string s) ∧ W.cell? ⟨b, 1, none⟩ = some (.int .i64 d) ∧ W.cell? ⟨b, 2, none⟩ = some (.int .i64 v) ∧ W.cell? ⟨b, 3, none⟩ = some (.int .i64 t) := by
  simp [World.cell?, h, entryObj]
def bkHead (s : ByteArray) : List Value := [.int .u8 165, .int .u8 s.size] ++ Lib.strCells s
def bkDig (d : Int) (j : Nat) : Value := .int .u8 (d / 2 ^ (8 * (4 - j)) % 256)
def bkDigs (d : Int) : List Value := [bkDig d 0, bkDig d 1, bkDig d 2, bkDig d 3, bkDig d 4]
theorem heap_lt {w : World} {g : Nat} {o : Obj} (h : w.heap[g]? = some o) : g < w.heap.size := by
  rcases Nat.lt_or_ge g w.heap.size with h' | h'
  · exact h'
  · rw [Array.getElem?_eq_none h'] at h; cases h
theorem bkDigs_take (d : Int) (j : Nat) (h : j < 5) : (bkDigs d).take j ++ [bkDig d j] = (bkDigs d).take (j + 1) := by
  match j, h with
  | 0, _ => rfl
  | 1, _ => rfl
  | 2, _ => rfl
  | 3, _ => rfl
  | 4, _ => rfl
def bkAll (s : ByteArray) (d v t : Int) : List Value := bkHead s ++ bkDigs d ++ [.int .u8 v, .int .u8 t, .int .u8 90]
def bkNum (d : Int) (j : Nat) : Int := d / 2 ^ (8 * (4 - j)) % 256
/-- The bytes of an entry's block. -/
def blkNums (s : ByteArray) (d v t : Int) : List Int := [165, (s.size : Int)] ++ bytesOf s ++ [bkNum d 0, bkNum d 1, bkNum d 2, bkNum d 3, bkNum d 4, v, t, 90] ++ List.replicate (22 - s.size) 0
def blockB (s : ByteArray) (d v t : Int) : ByteArray := strOfNums (blkNums s d v t)
theorem bkAll_one (s : ByteArray) (d v t : Int) : ∀ u ∈ bkAll s d v t, u.oneCell' = true := by
  intro u hu
  simp only [bkAll, bkHead, bkDigs, bkDig, List.mem_append, List.mem_cons, List.not_mem_nil, or_false] at hu
  rcases hu with ((((rfl | rfl) | hu) | (rfl | rfl | rfl | rfl | rfl)) | (rfl | rfl | rfl))
  all_goals first | rfl | exact Lib.strCells_oneCell s u hu
theorem rowA_nums (s : ByteArray) (d v t : Int) : rowA (bkAll s d v t) = (blkNums s d v t).map (Value.int .u8) := by
  have hl : (bkAll s d v t).length = 10 + s.size := by simp [bkAll, bkHead, Lib.strCells_length, bkDigs]; omega
  unfold rowA
  rw [hl, show 32 - (10 + s.size) = 22 - s.size by omega]
  simp [bkAll, bkHead, bkDigs, bkDig, blkNums, bkNum, Lib.strCells, bytesOf, zs]
theorem blkNums_length (s : ByteArray) (d v t : Int) (hs : s.size ≤ 20) : (blkNums s d v t).length = 32 := by
  simp [blkNums, bytesOf]
  omega
theorem reads_row {w : World} {g : Nat} {ns : List Int} {T : TypeId} {fr : Nat × Nat} (hg : w.heap[g]? = some (.cells ((ns.map (Value.int .u8)).toArray) T fr)) (hn : ns.length ≤ 9223372036854775807) : ReadsInt w .u8 (some ⟨g, 0, none⟩) ns.length ns :=
  ⟨rfl, hn, fun _ => ⟨_, rfl, fun j hj => by
    rw [Addr.add_lit]
    simp only [World.cell?, hg]
    simp [List.getElem?_eq_getElem hj]⟩⟩
theorem row_cell {w : World} {g : Nat} {A : List Value} {T : TypeId} {fr : Nat × Nat} (hg : w.heap[g]? = some (.cells (rowA A).toArray T fr)) (j : Nat) (u : Value) (hu : A[j]? = some u) : w.cell? ⟨g, j, none⟩ = some u := by
  have hjl := (List.getElem?_eq_some_iff.1 hu).1
  simp only [World.cell?, hg]
  rw [← hu]
  simp [rowA, List.getElem?_append, hjl]
set_option maxHeartbeats 1000000 in
set_option maxRecDepth 100000 in
theorem blockOf_calls (s : ByteArray) (d v t : Int) (hs : s.size ≤ 20) (hd0 : 0 ≤ d) (hd : d ≤ 1099511627775) (hv0 : 0 ≤ v) (hv : v ≤ 4) (ht0 : 0 ≤ t) (ht : t ≤ 200) (w : World) :
    Calls Tryd.prog 30 #[.agg #[.string s, .int .i64 d, .int .i64 v, .int .i64 t]] w fun e w' => e = .returned (.string (blockB s d v t)) ∧ Below w.heap.size w w' := by
  obtain ⟨i0, hi, hz0, hz1, hz2⟩ := info_parts info5
  go_enter Tryd.func30, Tryd.ntmps30
  go_wp2
  go_region
  have hH := bk_heaps w (entryObj s d v t) (.cells #[.int .u8 165, .int .u8 s.size] 5) (rowA [.int .u8 165, .int .u8 s.size]).toArray 72
  have HG0 := Lib.hid hH.1
  have HX0 := Lib.hid hH.2
  clear hH
  go_wp2_with (at_builtin; go_loud (refine wpList_append_row_string rfl (.tmp 13) (.tmp 15) 45 9 rfl 5 i0 Tryd.underlying45 Tryd.underlying9 hi hz1 (w.heap.size + 1) 2 32 (rowA [.int .u8 165, .int .u8 s.size]) 72 HG0.out rfl s rfl ?c1 ?c2 w.heap.size w ?c3 ?c4 ?_))
  case c1 => omega
  case c2 => rw [rowA_length _ (by simp)]; omega
  case c3 => exact ((((Below.refl _ w).alloc (Nat.le_refl _) _).alloc (by simp) _).alloc (by simp; omega) _).drew
  case c4 => omega
  intro w1 HG1 HO1 HB1
  have HG2 : Hid (w1.heap[w.heap.size + 1]? = some (.cells (rowA (bkHead s ++ (bkDigs d).take 0)).toArray 72 (0, 0))) := by
    have := HG1.out
    rw [splice_rowA _ _ 2 rfl (by simp [Lib.strCells_length]; omega)] at this
    exact Lib.hid (by simpa [bkHead] using this)
  have HX1 : Hid (w1.heap[w.heap.size]? = some (entryObj s d v t)) := Lib.hid ((HO1.out _ (by omega)).trans HX0.out)
  have HB := Aside0.mk HB1
  clear HG0 HG1 HO1 HX0 HB1
  go_wp2
  go_loopw [5, 4] (fun i o wr => ∃ j : Nat, j ≤ 5 ∧ i = .int .i64 (4 - j) ∧ o = .slice (some ⟨w.heap.size + 1, 0, none⟩) (2 + s.size + j) 32 ∧ Hid (wr.heap[w.heap.size + 1]? = some (.cells (rowA (bkHead s ++ (bkDigs d).take j)).toArray 72 (0, 0))) ∧ Hid (wr.heap[w.heap.size]? = some (entryObj s d v t)) ∧ Aside0 (Below w.heap.size w wr)) (fun i _ _ => (intOf i + 1).toNat)
  case atStart => exact ⟨0, by omega, rfl, rfl, HG2, HX1, HB⟩
  case round =>
    obtain ⟨j, hj, rfl, rfl, HG, HX, HL⟩ := hrel
    obtain ⟨c0, c1, c2, c3⟩ := bk_cells HX.out
    by_cases h5 : j < 5
    · have hi1 : (0 : Int) ≤ 4 - j := by omega
      have hi2 : (4 : Int) - j ≤ 4 := by omega
      go_wp2_with (at_builtin; (refine wpList_append_row rfl (.tmp 21) (.tmp 28) 45 rfl 5 i0 Tryd.underlying45 hi hz1 (w.heap.size + 1) (2 + s.size + j) 32 (rowA (bkHead s ++ (bkDigs d).take j)) 72 ?c1 rfl ⟨wr.heap.size, 0, none⟩ 1 1 rfl [bkDig d j] rfl ?c2 ?c3 ?c4 ?c5 w.heap.size w ?c6 ?c7 ?_))
      case c1 => exact (heap_alloc_old _ _ (by have := HL.out.size; have := heap_lt HG.out; omega)).trans HG.out
      case c2 => exact World.news_of_block (heap_alloc_new _ _)
      case c3 => intro u hu; rw [List.mem_singleton.1 hu]; rfl
      case c4 => omega
      case c5 => rw [rowA_length _ (by simp [bkHead, Lib.strCells_length, bkDigs]; omega)]; omega
      case c6 => exact HL.out.alloc HL.out.size _
      case c7 => omega
      intro w2 HG2 HO2 HB2
      have HG3 : Hid (w2.heap[w.heap.size + 1]? = some (.cells (rowA (bkHead s ++ (bkDigs d).take (j + 1))).toArray 72 (0, 0))) := by
        have := HG2.out
        rw [splice_rowA _ _ _ (by simp [bkHead, Lib.strCells_length, bkDigs]; omega) (by simp [bkHead, Lib.strCells_length, bkDigs]; omega), List.append_assoc, bkDigs_take d j h5] at this
        exact Lib.hid this
      have HX3 : Hid (w2.heap[w.heap.size]? = some (entryObj s d v t)) := Lib.hid ((HO2.out _ (by omega)).trans ((heap_alloc_old _ _ (heap_lt HX.out)).trans HX.out))
      have HB3 := Aside0.mk HB2
      clear HG2 HO2 HB2 HG HX HL c0 c1 c2 c3
      go_wp2
      go_roundw
      case rel => exact ⟨j + 1, by omega, by congr 1; omega, by congr 1, HG3, HX3, HB3⟩
      case measure => simp [intOf]; omega
    · obtain rfl : j = 5 := by omega
      have hneg : (4 : Int) - ((5 : Nat) : Int) < 0 := by decide
      go_wp2_with (at_builtin; refine wpList_append_row rfl (.tmp 30) (.tmp 37) 45 rfl 5 i0 Tryd.underlying45 hi hz1 (w.heap.size + 1) (2 + s.size + 5) 32 (rowA (bkHead s ++ (bkDigs d).take 5)) 72 ?c1 rfl ⟨wr.heap.size, 0, none⟩ 3 3 rfl [.int .u8 v, .int .u8 t, .int .u8 90] rfl ?c2 ?c3 ?c4 ?c5 w.heap.size w ?c6 ?c7 ?_)
      case c1 => exact (heap_alloc_old _ _ (by have := HL.out.size; have := heap_lt HG.out; omega)).trans HG.out
      case c2 => exact World.news_of_block (heap_alloc_new _ _)
      case c3 => intro u hu; simp at hu; rcases hu with rfl | rfl | rfl <;> rfl
      case c4 => omega
      case c5 => rw [rowA_length _ (by simp [bkHead, Lib.strCells_length, bkDigs]; omega)]; omega
      case c6 => exact HL.out.alloc HL.out.size _
      case c7 => omega
      intro w2 HG2 HO2 HB2
      have HG3 : Hid (w2.heap[w.heap.size + 1]? = some (.cells (rowA (bkAll s d v t)).toArray 72 (0, 0))) := by
        have := HG2.out
        rw [splice_rowA _ _ _ (by simp [bkHead, Lib.strCells_length, bkDigs]; omega) (by simp [bkHead, Lib.strCells_length, bkDigs]; omega)] at this
        exact Lib.hid this
      have HB3 := Aside0.mk HB2
      clear HG2 HO2 HB2 HG HX HL c0 c1 c2 c3
      have hlen : (bkAll s d v t).length = 10 + s.size := by simp [bkAll, bkHead, Lib.strCells_length, bkDigs]; omega
      have HLen := Lib.hid hlen
      clear hlen
      go_wp2_with (with_reducible refine wpList_copy_splice rfl (.tmp 39) (.tmp 40) 45 45 rfl 5 Tryd.underlying45 ?c1 (some ⟨w.heap.size + 1, 0, none⟩) (some ⟨w.heap.size + 1, 0, none⟩) 32 32 (2 + s.size + 5 + 3) 32 rfl rfl (w.heap.size + 1) 0 (rowA (bkAll s d v t)) 72 HG3.out (bkAll s d v t) ?c2 ?c3 ?c4 ?c5 w.heap.size w HB3.out ?c7 ?_)
      case c1 => rw [hi]; simp [hz1]
      case c2 => rw [HLen.out]; show _ = min _ _; omega
      case c3 => exact fun _ => row_cell HG3.out
      case c4 => rw [rowA_length _ (by rw [HLen.out]; omega), HLen.out]; omega
      case c5 => exact bkAll_one s d v t
      case c7 => omega
      intro w3 HG4 HB4
      have HR : ReadsInt w3 .u8 (some ⟨w.heap.size + 1, 0, none⟩) 32 (blkNums s d v t) := by
        have h := HG4.out
        rw [show splice (rowA (bkAll s d v t)) 0 (bkAll s d v t) = rowA (bkAll s d v t) by simp [splice, rowA], rowA_nums] at h
        have := reads_row h (by rw [blkNums_length s d v t hs]; omega)
        rwa [blkNums_length s d v t hs] at this
      have HB5 := Aside0.mk HB4
      have hstr := string_of_reads (P := Tryd.prog) (src := 45) (dst := 9) (e := 5) (c := 32) Tryd.underlying45 Tryd.underlying5 Tryd.underlying9 HR
      clear HG3 HG4 HB3 HB4 HR
      go_wp2
      go_ret
      exact ⟨rfl, HB5.out⟩
end Go.Proofs.YtgflelipamofoaaDoor.PA
