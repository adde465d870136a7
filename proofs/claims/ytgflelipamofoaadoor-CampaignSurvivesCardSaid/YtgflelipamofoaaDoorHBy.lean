/- Rows of bytes that the call itself holds, those that []byte(s) makes too (their block bears the conversion's mark): append, copy, string(..): laws over any program. -/
import Derived.Lib.AppendZerosOnto
import Derived.Lib.AppendZeros
import Derived.Lib.AppendStr
import Derived.Lib.ConvBytes
import Derived.Laws.CopyOwn
import Derived.Lib.Hide
import Derived.Test.YtgflelipamofoaaDoorWWords
namespace Go.Proofs.YtgflelipamofoaaDoor.Own
open Go Go.RowKit Go.Proofs.YtgflelipamofoaaDoorW.PrintWords
/-- v is a row of bytes of the call's own (from block base on), not nil: its bytes are xs. -/
def BRow (w : World) (e : TypeId) (base : Nat) (v : Value) (xs : List Int) : Prop :=
  ∃ (g cap : Nat) (cur : List Value) (fr : Nat × Nat), v = .slice (some ⟨g, 0, none⟩) xs.length cap ∧ base ≤ g ∧ w.heap[g]? = some (.cells cur.toArray e fr) ∧ cur.length = cap ∧ cap ≤ maxLen ∧ xs.length ≤ cap ∧ cur.take xs.length = nums .u8 xs ∧ (fr = (0, 0) ∨ cap ≤ fr.1)
theorem heap_setCells (g : Nat) (T : TypeId) (fr : Nat × Nat) : ∀ (vs : List Value) (o : Nat) (cur : List Value) (w : World), w.heap[g]? = some (.cells cur.toArray T fr) → o + vs.length ≤ cur.length → (w.setCells g o vs).heap[g]? = some (.cells (splice cur o vs).toArray T fr)
  | [], o, cur, w, h, _ => by simpa [World.setCells, splice] using h
  | v :: r, o, cur, w, h, hl => by
    simp at hl
    have h1 : (w.setCell ⟨g, o, none⟩ v).heap[g]? = some (.cells (cur.set o v).toArray T fr) := by
      simp [World.setCell, Array.getElem?_modify, h]
    rw [World.setCells, heap_setCells g T fr r (o + 1) (cur.set o v) _ h1 (by simp; omega)]
    congr 3
    simp only [splice, List.length_cons]
    rw [List.take_set, List.drop_set_of_lt (by omega)]
    have ht : (cur.take (o + 1)).set o v = cur.take o ++ [v] := by
      rw [List.take_succ_eq_append_getElem (by omega), List.set_append_right _ _ (by simp; omega)]
      simp [show min o cur.length = o by omega]
    rw [ht, show o + 1 + r.length = o + (r.length + 1) by omega]
    simp
theorem heap_setCells_other (g : Nat) : ∀ (vs : List Value) (o : Nat) (w : World) (k : Nat), k ≠ g → (w.setCells g o vs).heap[k]? = w.heap[k]?
  | [], _, _, _, _ => rfl
  | v :: r, o, w, k, hk => by
    rw [World.setCells, heap_setCells_other g r (o + 1) _ k hk]
    simp [World.setCell, Array.getElem?_modify, Ne.symm hk]
theorem size_setCells (g : Nat) : ∀ (vs : List Value) (o : Nat) (w : World), (w.setCells g o vs).heap.size = w.heap.size ∧ (w.setCells g o vs).os = w.os ∧ (w.setCells g o vs).tape = w.tape ∧ (w.setCells g o vs).output = w.output
  | [], _, _ => ⟨rfl, rfl, rfl, rfl⟩
  | v :: r, o, w => by
    rw [World.setCells]
    obtain ⟨h1, h2, h3, h4⟩ := size_setCells g r (o + 1) (w.setCell ⟨g, o, none⟩ v)
    exact ⟨by rw [h1]; simp [World.setCell], h2, h3, h4⟩
theorem grown_setCells (w : World) (g o : Nat) (vs : List Value) : w.grownBy (w.setCells g o vs) (some g) := by
  obtain ⟨h1, h2, h3, h4⟩ := size_setCells g vs o w
  exact ⟨h2, h3, h4, by omega, fun k _ hk => heap_setCells_other g vs o w k (fun e => hk (by rw [e]))⟩
section
variable {P : Program} {w w' : World} {e base : Nat} {v : Value} {xs : List Int}
theorem BRow.cells {g : Nat} {cur : List Value} {fr : Nat × Nat} (hg : w.heap[g]? = some (.cells cur.toArray e fr)) (i : Nat) (hi : i < cur.length) : (w.cell? ⟨g, i, none⟩).isSome = true := by
  simp [World.cell?, hg, hi]
theorem BRow.free {g : Nat} {cur : List Value} {fr : Nat × Nat} (hg : w.heap[g]? = some (.cells cur.toArray e fr)) (hfr : fr = (0, 0) ∨ cur.length ≤ fr.1) (i : Nat) (hi : i < cur.length) : w.frozen? ⟨g, i, none⟩ = false := by
  simp only [World.frozen?, hg]
  rcases hfr with rfl | h
  · simp
  · have : ¬ fr.1 ≤ i := by omega
    simp [this]
theorem BRow.lt (h : BRow w e base v xs) : ∃ g, v.ownBlock = some g ∧ base ≤ g ∧ g < w.heap.size := by
  obtain ⟨g, cap, cur, fr, rfl, hb, hg, _⟩ := h
  refine ⟨g, rfl, hb, ?_⟩
  rcases Nat.lt_or_ge g w.heap.size with h' | h'
  · exact h'
  · rw [Array.getElem?_eq_none h'] at hg; cases hg
theorem BRow.shape_ (h : BRow w e base v xs) : ∃ g cap, v = .slice (some ⟨g, 0, none⟩) xs.length cap ∧ xs.length ≤ cap ∧ cap ≤ maxLen := by
  obtain ⟨g, cap, cur, fr, rfl, hb, hg, h1, h2, h3, _⟩ := h
  exact ⟨g, cap, rfl, h3, h2⟩
theorem BRow.block (h : BRow w e base v xs) (hk : ∀ k, v.ownBlock = some k → w'.heap[k]? = w.heap[k]?) : BRow w' e base v xs := by
  obtain ⟨g, cap, cur, fr, rfl, hb, hg, r⟩ := h
  exact ⟨g, cap, cur, fr, rfl, hb, (hk g rfl).trans hg, r⟩
theorem BRow.below (h : BRow w e base v xs) (hb : Below w.heap.size w w') : BRow w' e base v xs := h.block fun k hk => by
  obtain ⟨g, hg, _, hlt⟩ := h.lt
  rw [hg] at hk
  have e1 : g = k := Option.some.inj hk
  rw [← e1]
  exact hb.block g hlt
theorem BRow.lower {base' : Nat} (h : BRow w e base v xs) (hb : base' ≤ base) : BRow w e base' v xs := by
  obtain ⟨g, cap, cur, fr, h1, h2, r⟩ := h
  exact ⟨g, cap, cur, fr, h1, Nat.le_trans hb h2, r⟩
theorem BRow.drewN (h : BRow w e base v xs) (n : Nat) : BRow (w.drewN n) e base v xs := h
theorem BRow.drew (h : BRow w e base v xs) : BRow w.drew e base v xs := h
theorem BRow.alloc (h : BRow w e base v xs) (o : Obj) : BRow (w.alloc o) e base v xs := h.below ((Below.refl _ w).alloc (Nat.le_refl _) o)
/-- What []byte(s) makes. -/
theorem BRow.conv (w : World) (e : TypeId) (s : ByteArray) (hs : s.size ≤ maxLen) : BRow (Lib.bytesWorld w e s) e w.heap.size (.slice (some ⟨w.heap.size, 0, none⟩) s.size (grownCap w s.size 0 e)) (bytesOf s) := by
  have hge : s.size ≤ grownCap w s.size 0 e := by
    rcases Nat.eq_zero_or_pos s.size with h | h
    · omega
    · exact grownCap_ge w s.size 0 e
  have hl : (bytesOf s).length = s.size := by simp [bytesOf]
  have hcl : (Lib.bytesCells w e s).toList.length = grownCap w s.size 0 e := by simp [Lib.bytesCells]; omega
  refine ⟨w.heap.size, grownCap w s.size 0 e, (Lib.bytesCells w e s).toList, ((Lib.bytesCells w e s).size, (Lib.bytesCells w e s).size + 1), by rw [hl], Nat.le_refl _, ?_, hcl, grownCap_le_maxLen w s.size 0 e hs, by rw [hl]; exact hge, ?_, .inr ?_⟩
  · rw [Array.toArray_toList]
    exact Lib.bytesWorld_at_new w e s
  · rw [hl]
    simp [Lib.bytesCells, nums, bytesOf]
  · rw [← hcl]
    simp
theorem BRow.reads (h : BRow w e base v xs) : ∃ A c, v = .slice A xs.length c ∧ xs.length ≤ c ∧ ReadsInt w .u8 A xs.length xs := by
  obtain ⟨g, cap, cur, fr, rfl, hb, hg, h1, h2, h3, h4, _⟩ := h
  have hm : maxLen ≤ 9223372036854775807 := by decide
  refine ⟨_, _, rfl, h3, rfl, by omega, fun _ => ⟨_, rfl, fun j hj => ?_⟩⟩
  rw [Addr.add_lit]
  simp only [World.cell?, hg]
  have : cur[j]? = (nums .u8 xs)[j]? := by rw [← h4, List.getElem?_take, if_pos hj]
  simp [this, nums, hj]
theorem BRow.str {src dst : TypeId} (hs : P.underlying src = some (.slice e)) (he : P.underlying e = some (.int .u8)) (hd : P.underlying dst = some .string) (h : BRow w e base v xs) : (convert src dst v).run P w = .ok (.string (strOfNums xs)) w := by
  obtain ⟨A, c, rfl, _, hr⟩ := h.reads
  exact string_of_reads hs he hd hr
theorem zeroCells_u8 (k : Nat) : Builtin.zeroCells (Value.int .u8 0).cells k = (nums .u8 (List.replicate k 0)).toArray := by
  apply Array.ext'
  apply List.ext_getElem
  · simp [Builtin.zeroCells, Value.cells, nums]
  · intro n h1 h2
    simp [Builtin.zeroCells, Value.cells, nums, Nat.mod_one]
/-- A new row. -/
theorem BRow.fresh (w : World) (e : TypeId) (base : Nat) (hbase : base ≤ w.heap.size) (xs : List Int) (cap : Nat) (rest : List Value) (hc : cap ≤ maxLen) (hl : xs.length + rest.length = cap) (o : Array Value) (ho : o.toList = nums .u8 xs ++ rest) :
    BRow (w.drew.alloc (.cells o e)) e base (.slice (some ⟨w.heap.size, 0, none⟩) xs.length cap) xs := by
  refine ⟨w.heap.size, cap, o.toList, (0, 0), rfl, hbase, ?_, by rw [ho]; simp [nums]; omega, hc, by omega, by rw [ho]; simp [nums], .inl rfl⟩
  rw [Array.toArray_toList]
  exact heap_alloc_new w.drew _
/-- append(v, make([]byte, k)...), k > 0. -/
theorem BRow.zeros {t tn ty : TypeId} {i : TypeInfo} {kn kx : IntKind} (ht : P.underlying t = some (.slice e)) (htn : P.underlying tn = some (.int kn)) (hi : P.info? e = some i) (hz : i.zero = some (.int .u8 0)) (hsz : i.size = 1) (hby : i.bytes = 1)
    (h : BRow w e base v xs) (hbase : base ≤ w.heap.size) (k : Nat) (hk : 0 < k) (hl : xs.length + k ≤ 140737488355328) :
    ∃ v' w', (Builtin.append_ #[t, tn] ty #[v, .int kx k]).run P w = .ok v' w' ∧ BRow w' e base v' (xs ++ List.replicate k 0) ∧ w.grownBy w' v.ownBlock := by
  obtain ⟨g, cap, cur, fr, rfl, hb, hg, h1, h2, h3, h4, h5⟩ := h
  have hm : maxLen = 9223372036854775807 := by decide
  by_cases hroom : xs.length + k ≤ cap
  · have hw : IntKind.i64.wrap (k : Int) = k := by rw [IntKind.wrap_i64]; omega
    have h48i : ¬ (281474976710656 < (k : Int)) := by omega
    have hneg : ¬ ((k : Int) < 0) := by omega
    have hns : ¬ k = 0 := by omega
    have hst := run_storeCells_cells (P := P) g xs.length (nums .u8 (List.replicate k 0)) 0 w (fun j hj => by simp [nums] at hj; exact BRow.cells hg _ (by omega)) (fun j hj => by simp [nums] at hj; exact BRow.free hg (by rw [h1]; exact h5) _ (by omega)) (fun u hu => by simp [nums] at hu; obtain ⟨_, rfl⟩ := hu; rfl)
    simp only [Nat.add_zero] at hst
    refine ⟨.slice (some ⟨g, 0, none⟩) (xs.length + k) cap, w.setCells g xs.length (nums .u8 (List.replicate k 0)), ?_, ⟨g, cap, splice cur xs.length (nums .u8 (List.replicate k 0)), fr, by simp, hb, heap_setCells g e fr _ _ cur w hg (by simp [nums]; omega), ?_, h2, by simp; omega, ?_, h5⟩, grown_setCells w g _ _⟩
    · simp [Builtin.append_, run_underlying ht, run_underlying htn, sizeOf, typeInfo, zeroValue, hi, hz, hsz, hby, asInt, asIntOf, hw, hneg, h48i, hns, hroom, Addr.add_lit, zeroCells_u8, hst]
    · rw [length_splice _ _ _ (by simp [nums]; omega)]; exact h1
    · rw [splice, h4]
      simp [nums, List.take_append]
      rw [List.take_of_length_le (by simp)]
  · have hgc : xs.length + k ≤ grownCap w (xs.length + k) cap e := grownCap_ge w (xs.length + k) cap e
    have hgm : grownCap w (xs.length + k) cap e ≤ maxLen := grownCap_le_maxLen w (xs.length + k) cap e (by omega)
    have hfc : (Builtin.firstCells i.size xs.length (.slice (some ⟨g, 0, none⟩) xs.length cap)).run P w.drew = .ok (nums .u8 xs).toArray w.drew := by
      have := run_firstCells_some (P := P) w.drew i.size xs.length ⟨g, 0, none⟩ xs.length cap (nums .u8 xs) (by simp [nums, hsz]) (fun j u hu => by
        rw [Addr.add_lit]
        have hj : j < xs.length := by have := (List.getElem?_eq_some_iff.1 hu).1; simpa [nums] using this
        have : cur[j]? = (nums .u8 xs)[j]? := by rw [← h4, List.getElem?_take, if_pos hj]
        show w.cell? _ = _
        simp only [World.cell?, hg]
        simpa [this] using hu)
      exact this
    have hr := Lib.run_append_grow_zeros (P := P) (ty := ty) w t tn e i (.int .u8 0) kx kn ht htn hi hz (some ⟨g, 0, none⟩) xs.length cap (nums .u8 xs) hfc k hk (by omega) (by omega) (by omega) (by rw [hby]; omega) (by rw [hby]; exact growslice_fits (by omega) (by omega))
    refine ⟨_, _, hr, ?_, ⟨rfl, rfl, rfl, by simp, fun j hj _ => heap_alloc_old w.drew _ hj⟩⟩
    have := BRow.fresh w e base hbase (xs ++ List.replicate k 0) (grownCap w (xs.length + k) cap e) (nums .u8 (List.replicate (grownCap w (xs.length + k) cap e - (xs.length + k)) 0)) hgm (by simp [nums]; omega) ((nums .u8 xs).toArray ++ Builtin.zeroCells (Value.int .u8 0).cells k ++ Builtin.zeroCells (Value.int .u8 0).cells (grownCap w (xs.length + k) cap e - (xs.length + k))) (by rw [zeroCells_u8, zeroCells_u8]; simp [nums])
    simpa using this
theorem splice_append {α : Type} (A R : List α) (off : Nat) (cs : List α) (h : off + cs.length ≤ A.length) : splice (A ++ R) off cs = splice A off cs ++ R := by
  unfold splice
  rw [List.take_append_of_le_length (by omega), List.drop_append_of_le_length (by omega)]
  simp
theorem splice_nums (xs ys : List Int) (off : Nat) : nums .u8 (splice xs off ys) = splice (nums .u8 xs) off (nums .u8 ys) := by
  simp [splice, nums]
theorem strCells_nums (s : ByteArray) : Lib.strCells s = nums .u8 (bytesOf s) := by simp [Lib.strCells, nums, bytesOf]
/-- copy(v[from:], s): the bytes of a string. -/
theorem BRow.copyStr {t u ty : TypeId} {i : TypeInfo} (ht : P.underlying t = some (.slice e)) (hi : P.info? e = some i) (hsz : i.size = 1)
    (h : BRow w e base v xs) (off cap' : Nat) (s : ByteArray) (hfit : off + s.size ≤ xs.length) (g cap : Nat) (hv : v = .slice (some ⟨g, 0, none⟩) xs.length cap) (ad : Addr) (had : off < cap → ad = ⟨g, off, none⟩) :
    ∃ w', (Builtin.copy_ #[t, u] ty #[.slice (some ad) (xs.length - off) cap', .string s]).run P w = .ok (goInt s.size) w' ∧ BRow w' e base v (splice xs off (bytesOf s)) ∧ w.grownBy w' v.ownBlock := by
  obtain ⟨g', cap2, cur, fr, hv2, hb, hg, h1, h2, h3, h4, h5⟩ := h
  rw [hv2] at hv
  injection hv with hA hn hc
  injection hA with hA
  injection hA with hA
  subst hA
  subst hc
  subst hv2
  have hsl : (bytesOf s).length = s.size := by simp [bytesOf]
  have hmin : Nat.min s.size (xs.length - off) = s.size := by show min _ _ = _; omega
  have hfs := Lib.run_firstCells_string (P := P) w 1 s
  by_cases hs : s.size = 0
  · have hnil : bytesOf s = [] := List.eq_nil_of_length_eq_zero (by omega)
    have hsc : Lib.strCells s = [] := by rw [strCells_nums, hnil]; rfl
    rw [hs, hsc] at hfs
    refine ⟨w, ?_, ⟨g', cap2, cur, fr, ?_, hb, hg, h1, h2, ?_, ?_, h5⟩, World.grownBy.refl w _⟩
    · simp [Builtin.copy_, run_underlying ht, sizeOf, typeInfo, hi, hsz, Builtin.lenOf, hs, hfs, storeCells, Result.andThen]
      try rfl
    · rw [hnil]; simp [splice]
    · rw [hnil]; simpa [splice] using h3
    · rw [hnil]; simpa [splice] using h4
  · have had' := had (by omega)
    subst had'
    have hst := run_storeCells_cells (P := P) g' off (Lib.strCells s) 0 w (fun j hj => by rw [Lib.strCells_length] at hj; exact BRow.cells hg _ (by omega)) (fun j hj => by rw [Lib.strCells_length] at hj; exact BRow.free hg (by rw [h1]; exact h5) _ (by omega)) (Lib.strCells_oneCell s)
    simp only [Nat.add_zero] at hst
    have hls : (splice xs off (bytesOf s)).length = xs.length := length_splice _ _ _ (by omega)
    refine ⟨w.setCells g' off (Lib.strCells s), ?_, ⟨g', cap2, splice cur off (Lib.strCells s), fr, by rw [hls], hb, heap_setCells g' e fr _ _ cur w hg (by rw [Lib.strCells_length]; omega), ?_, h2, by rw [hls]; exact h3, ?_, h5⟩, grown_setCells w g' _ _⟩
    · have hmin2 : s.size.min (xs.length - off) = s.size := hmin
      simp [Builtin.copy_, run_underlying ht, sizeOf, typeInfo, hi, hsz, Builtin.lenOf, hmin2, hfs, hst, Result.andThen]
    · rw [length_splice _ _ _ (by rw [Lib.strCells_length]; omega)]; exact h1
    · rw [hls]
      have e1 : cur = nums .u8 xs ++ cur.drop xs.length := by rw [← h4, List.take_append_drop]
      rw [e1, splice_append _ _ _ _ (by simp [nums, Lib.strCells_length]; omega), strCells_nums, ← splice_nums, List.take_append_of_le_length (by simp [nums, hls])]
      rw [List.take_of_length_le (by simp [nums, hls])]
theorem BRow.zerosInt {t tn ty : TypeId} {i : TypeInfo} {kn kx : IntKind} (ht : P.underlying t = some (.slice e)) (htn : P.underlying tn = some (.int kn)) (hi : P.info? e = some i) (hz : i.zero = some (.int .u8 0)) (hsz : i.size = 1) (hby : i.bytes = 1)
    (h : BRow w e base v xs) (hbase : base ≤ w.heap.size) (m : Int) (hk : 0 < m) (hl : (xs.length : Int) + m ≤ 140737488355328) :
    ∃ v' w', (Builtin.append_ #[t, tn] ty #[v, .int kx m]).run P w = .ok v' w' ∧ BRow w' e base v' (xs ++ List.replicate m.toNat 0) ∧ w.grownBy w' v.ownBlock := by
  obtain ⟨k, rfl⟩ : ∃ k : Nat, m = k := ⟨m.toNat, by omega⟩
  exact BRow.zeros ht htn hi hz hsz hby h hbase k (by omega) (by omega)
theorem BRow.grownBelow (h : BRow w e base v xs) {w0 : World} (hb : Below base w0 w) (hg : w.grownBy w' v.ownBlock) : Below base w0 w' := hb.grown hg (by obtain ⟨g, _, h1, h2⟩ := h.lt; omega) (fun j ej => by
  obtain ⟨g, hg', h1, _⟩ := h.lt
  rw [hg'] at ej
  cases ej
  exact h1)
end
section
variable {P : Program} {w : World} {ops : Array Oper} {rest : List Oper} {o : Oper} {a : Act} {K : Act → World → Prop} {Q : Exit → Act → World → Prop} {E : Prop}
theorem wp_copy_run (s x : Operand) (t tn : TypeId) (ho : o.op = .call { callee := .builtin .copy, args := #[s, x], argTypes := #[t, tn] }) (vs vx : Value) (hs : a.eval s = vs) (hx : a.eval x = vx)
    (v' : Value) (w' : World) (hr : (Builtin.copy_ #[t, tn] o.type #[vs, vx]).run P w = .ok v' w') (h : K (a.put o.dst v') w') : o.wp P a w K Q := by
  unfold Oper.wp execOp
  simp only [ho, resolve, invoke, builtin, Sem.run_bind, Sem.run_pure, Result.andThen_ok, List.map_toArray, List.map_cons, List.map_nil, hs, hx, hr]
  exact h
theorem step_copy_run (hgd : o.guard = none) (s x : Operand) (t tn : TypeId) (ho : o.op = .call { callee := .builtin .copy, args := #[s, x], argTypes := #[t, tn] }) (vs vx : Value) (hs : a.eval s = vs) (hx : a.eval x = vx)
    (v' : Value) (w' : World) (hr : (Builtin.copy_ #[t, tn] o.type #[vs, vx]).run P w = .ok v' w') (h : K (a.put o.dst v') w') :
    if Region.wanted o (yielded ops a.tmps) = true then Oper.wp P o a w K Q else E := by
  have hw : Region.wanted o (yielded ops a.tmps) = true := by simp [Region.wanted, hgd]
  rw [if_pos hw]
  exact wp_copy_run s x t tn ho vs vx hs hx v' w' hr h
end
end Go.Proofs.YtgflelipamofoaaDoor.Own
