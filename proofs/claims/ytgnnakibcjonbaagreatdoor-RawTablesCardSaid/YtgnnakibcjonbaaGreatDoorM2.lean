/- Texts put together (merge.py). -/
import Derived.Test.YtgnnakibcjonbaaGreatDoorM1
import Derived.Laws.CopyRow
import Derived.Laws.Tables
import Derived.Great.BuildSlice
import Derived.Lib.ConvBytes
import Derived.MapKept
import Derived.Carry
import Derived.Laws.RangeAny
/- The evaluator's operations that make or change memory: boxes, stores. -/
namespace Go.Proofs.YtgnnakibcjonbaaGreatDoor.VE
open Go Go.RowKit
set_option linter.unusedVariables false
set_option linter.unusedSimpArgs false
/-- Values that lie in one cell. -/
def V.one : V → Bool
  | .d _ | .nil | .ptr _ _ | .row _ | .rptr _ _ _ _ | .dptr _ | .fnc _ _ => true
  | _ => false
/-- The cells of a value, if they are known. -/
def V.flat : V → Option (List V)
  | .agg cs => if cs.all V.one then some cs else none
  | v => if v.one then some [v] else none
theorem G.one {B : Nat → Prop} {w : World} {ρ : Nat → Value} {L : Nat → Prop} {x : V} {v : Value} (h : G B w ρ L x v) (h1 : x.one = true) (hrow : ∀ o, x = .row o → v.oneCell' = true) : v.oneCell' = true := by
  cases x <;> simp [V.one] at h1
  · rw [G] at h; exact h.one
  · rw [G] at h; subst h; rfl
  · rw [G] at h; obtain ⟨_, b, _, rfl⟩ := h; rfl
  · exact hrow _ rfl
  · rw [G] at h; obtain ⟨_, b, _, rfl⟩ := h; rfl
  · rw [G] at h; obtain ⟨b, off, rfl, _⟩ := h; rfl
  · rw [G] at h; obtain ⟨vs, rfl, _⟩ := h; rfl
section
variable {P : Program} {N : Nat} {w0 : World} {Pr X : Nat → Prop} {Z : Nat → Option Value} {ρ : Nat → Value} {st : St} {a : Act} {w : World}
/-- What an operation of the evaluator leaves: its value, and the state. -/
def Out (N : Nat) (w0 : World) (Pr X : Nat → Prop) (Z : Nat → Option Value) (st' : St) (a : Act) (r : V) (z : Value) (w' : World) : Prop :=
  ∃ ρ', Gam N w0 Pr X Z ρ' st' a w' ∧ G (Bk X st'.os ρ' w') w' ρ' (Lv st'.os) r z
/-- Rows' values are slices. -/
def RowVals (os : Nat → Option O) (ρ : Nat → Value) (x : V) : Prop := ∀ o, x = .row o → (ρ o).oneCell' = true
theorem flat_cells {B : Nat → Prop} {L : Nat → Prop} {x : V} {v : Value} (h : G B w ρ L x v) {cs : List V} (hf : x.flat = some cs) (hrow : ∀ o, (ρ o).oneCell' = true) :
    ∃ vs : List Value, v.cells = vs.toArray ∧ Gs B w ρ L cs vs ∧ ∀ u ∈ vs, u.oneCell' = true := by
  have one : ∀ (x : V) (v : Value), G B w ρ L x v → x.one = true → v.oneCell' = true := fun x v hg h1 => hg.one h1 fun o e => by
    subst e; rw [G] at hg; rw [hg.2]; exact hrow o
  unfold V.flat at hf
  split at hf
  · rename_i cs'
    split at hf
    · rename_i hall
      simp only [Option.some.injEq] at hf
      subst hf
      rw [G] at h
      obtain ⟨vs, rfl, hl, hv⟩ := h
      refine ⟨vs, rfl, ⟨hl, hv⟩, fun u hu => ?_⟩
      obtain ⟨i, hi, rfl⟩ := List.getElem_of_mem hu
      exact one _ _ (hv i (by omega) hi) ((List.all_eq_true.1 hall) _ (List.getElem_mem _))
    · simp at hf
  · split at hf
    · rename_i h1
      simp only [Option.some.injEq] at hf
      subst hf
      have ho := one x v h h1
      refine ⟨[v], ?_, ⟨rfl, fun i h1 h2 => ?_⟩, fun u hu => ?_⟩
      · cases v <;> first | rfl | (simp [Value.oneCell'] at ho)
      · have : i = 0 := by simpa using h1
        subst this
        exact h
      · rw [List.mem_singleton.1 hu]; exact ho
    · simp at hf
/-- A new box. -/
theorem newBox (hg : Gam N w0 Pr X Z ρ st a w) (t : Nat) (ht : st.os t = none) (htl : t < 100000) {cs : List V} {vs : List Value} (hc : Gs (Bk X st.os ρ w) w ρ (Lv st.os) cs vs) (h1 : ∀ u ∈ vs, u.oneCell' = true) (e : TypeId) :
    Out N w0 Pr X Z { st with os := upd st.os t (some (.box cs e)) } a (.ptr t 0) (.pointer (some ⟨w.heap.size, 0, none⟩)) (w.alloc (.cells vs.toArray e)) := by
  have hm : More w (w.alloc (.cells vs.toArray e)) := ⟨by simp, fun b hb => Below.heap_alloc _ _ _ hb, rfl, rfl, rfl⟩
  have hL : ∀ o, Lv st.os o → o ≠ t := fun o ho e => ho (by rw [e]; exact ht)
  refine ⟨upd ρ t (.pointer (some ⟨w.heap.size, 0, none⟩)), hg.newObj hm t ht htl _ _ rfl (fun b e => ?_) ?_, ?_⟩
  · simp only [blockOf, Option.some.injEq] at e; omega
  · refine ⟨w.heap.size, vs, upd_same _ _ _, heap_alloc_new w _, hc.mono (fun b hb => ⟨⟨Nat.lt_of_lt_of_le hb.1.1 hm.size, hb.1.2⟩, fun o ho e => ?_⟩) (fun b hb => hm.block b hb.1.1) (fun o ho => by unfold Lv; rw [upd_ne _ _ (hL o ho)]; exact ho) (fun o ho => upd_ne _ _ (hL o ho)), h1⟩
    by_cases c : o = t
    · subst c
      rw [upd_same] at e
      simp only [blockOf, Option.some.injEq] at e
      have := hb.1.1
      omega
    · rw [upd_ne _ _ c] at ho e
      exact hb.2 o ho e
  · rw [G]
    refine ⟨by simp [Lv, upd_same], w.heap.size, by rw [upd_same]; rfl, rfl⟩
/-- Some cells of a list are replaced. -/
def putL {α : Type} (xs : List α) (c : Nat) (ys : List α) : List α := xs.take c ++ ys ++ xs.drop (c + ys.length)
theorem putL_length {α : Type} (xs : List α) (c : Nat) (ys : List α) (h : c + ys.length ≤ xs.length) : (putL xs c ys).length = xs.length := by
  simp [putL]; omega
theorem putL_get {α : Type} (xs : List α) (c : Nat) (ys : List α) (h : c + ys.length ≤ xs.length) (i : Nat) (hi : i < (putL xs c ys).length) :
    (putL xs c ys)[i] = if h1 : c ≤ i ∧ i < c + ys.length then ys[i - c]'(by omega) else xs[i]'(by rw [putL_length xs c ys h] at hi; exact hi) := by
  have hl := putL_length xs c ys h
  split
  · rename_i h1
    simp only [putL]
    rw [List.getElem_append_left (by simp; omega), List.getElem_append_right (by simp; omega)]
    congr 1
    simp
    omega
  · rename_i h1
    by_cases c1 : i < c
    · simp only [putL]
      rw [List.getElem_append_left (by simp; omega), List.getElem_append_left (by simp; omega), List.getElem_take]
    · simp only [putL]
      rw [List.getElem_append_right (by simp; omega), List.getElem_drop]
      congr 1
      simp
      omega
theorem heap_setRow (w : World) (g : Nat) (cs cur : Array Value) (e : TypeId) (hg : w.heap[g]? = some (.cells cur e (0, 0))) : (w.setRow g cs).heap[g]? = some (.cells cs e (0, 0)) ∧ ∀ b, b ≠ g → (w.setRow g cs).heap[b]? = w.heap[b]? := by
  unfold World.setRow
  refine ⟨by simp [Array.getElem?_modify, hg], fun b hb => by simp [Array.getElem?_modify, Ne.symm hb]⟩
/-- Cells of a box are stored. -/
theorem storeBox {C : Cx} (hT : TOK P C.T) (hg : Gam N w0 Pr X Z ρ st a w) {t : TypeId} {i : TI} (hi : C.T t = some i) {o c : Nat} {cs : List V} {e : TypeId} (ho : st.os o = some (.box cs e)) {ys : List V} {v : Value} {vs : List Value} (hv : v.cells = vs.toArray) (hy : Gs (Bk X st.os ρ w) w ρ (Lv st.os) ys vs) (h1 : ∀ u ∈ vs, u.oneCell' = true)
    (hsz : ys.length = i.size) (hle : c + ys.length ≤ cs.length) {u : Value} (hu : G (Bk X st.os ρ w) w ρ (Lv st.os) (.ptr o c) u) :
    ∃ w', (Instr.storeAt t u v).run P w = .ok () w' ∧ Gam N w0 Pr X Z ρ { st with os := upd st.os o (some (.box (putL cs c ys) e)) } a w' := by
  obtain ⟨j, hj, hjs⟩ := size_facts hT hi
  obtain ⟨b, old, e1, e2, ⟨hl, hold⟩, hone⟩ := hg.obj o _ ho
  have hb : blockOf (ρ o) = some b := by rw [e1]; rfl
  rw [G] at hu
  obtain ⟨_, b', hb', rfl⟩ := hu
  rw [hb] at hb'
  simp only [Option.some.injEq] at hb'
  subst hb'
  have hvl : vs.length = ys.length := hy.1
  have hst := run_storeCells_at (P := P) b c e vs 0 old.toArray w e2 (by simp; omega) h1
  simp only [Nat.add_zero] at hst
  have hcl : (old.toArray.toList.take c ++ vs ++ old.toArray.toList.drop (c + vs.length)) = putL old c vs := rfl
  rw [hcl] at hst
  obtain ⟨s1, s2⟩ := heap_setRow w b (putL old c vs).toArray old.toArray e e2
  refine ⟨w.setRow b (putL old c vs).toArray, ?_, ?_⟩
  · have hszc : v.cells.size = j.size := by rw [hv, hjs, ← hsz, ← hvl]; simp
    simp [Instr.storeAt, Instr.sureAddr, storeVar, run_siz hj, hszc, hv, hst]
    rw [← hszc, hv]
    simp
  · refine hg.setObj o (by rw [ho]; simp) (by simp) (by simp) (by simp) (by simp) (fun b' hb' hne => s2 b' (fun e => hne (by rw [e]; exact hb))) _ (fun _ _ _ => rfl) ?_
    have mono : ∀ (x : V) (z : Value), G (Bk X st.os ρ w) w ρ (Lv st.os) x z → G (Bk X (upd st.os o (some (.box (putL cs c ys) e))) ρ (w.setRow b (putL old c vs).toArray)) (w.setRow b (putL old c vs).toArray) ρ (Lv (upd st.os o (some (.box (putL cs c ys) e)))) x z := fun x z hx =>
      hx.mono (fun b' hb' => ⟨⟨by simpa using hb'.1.1, hb'.1.2⟩, fun o' ho' => hb'.2 o' (by
        by_cases q : o' = o
        · rw [q, ho]; simp
        · rw [upd_ne _ _ q] at ho'; exact ho')⟩) (fun b' hb' => s2 b' (fun e => hb'.2 o (by rw [ho]; simp) (by rw [e]; exact hb))) (fun o' ho' => by
        by_cases q : o' = o
        · unfold Lv; rw [q, upd_same]; simp
        · unfold Lv; rw [upd_ne _ _ q]; exact ho') (fun _ _ => rfl) x z
    have hle2 : c + vs.length ≤ old.length := by omega
    refine ⟨b, putL old c vs, e1, s1, ⟨by rw [putL_length _ _ _ hle2, putL_length _ _ _ hle, hl], fun q q1 q2 => ?_⟩, fun z hz => ?_⟩
    · rw [putL_get cs c ys hle, putL_get old c vs hle2]
      by_cases hq : c ≤ q ∧ q < c + ys.length
      · rw [dif_pos hq, dif_pos (by omega)]
        exact mono _ _ (hy.2 _ _ _)
      · rw [dif_neg hq, dif_neg (by omega)]
        exact mono _ _ (hold _ _ _)
    · unfold putL at hz
      rcases List.mem_append.1 hz with hz | hz
      · rcases List.mem_append.1 hz with hz | hz
        · exact hone z (List.mem_of_mem_take hz)
        · exact h1 z hz
      · exact hone z (List.mem_of_mem_drop hz)
end
end Go.Proofs.YtgnnakibcjonbaaGreatDoor.VE

/- The evaluator's rows: made, appended to, written. -/
namespace Go.Proofs.YtgnnakibcjonbaaGreatDoor.VE
open Go Go.RowKit
set_option linter.unusedVariables false
set_option linter.unusedSimpArgs false
theorem blockOf_own (v : Value) : v.ownBlock = match v with | .slice (some a) _ _ => some a.block | _ => none := by cases v <;> rfl
theorem ownsRow_low {w : World} {b b' : Nat} {e : TypeId} {m : Nat} {v : Value} {n : Nat} {xs : List Value} (h : w.ownsRow b e m v n xs) (hb : b' ≤ b) : w.ownsRow b' e m v n xs := by
  refine ⟨h.1, h.2.imp id ?_⟩
  rintro ⟨g, cap, cur, h1, h2, h3⟩
  exact ⟨g, cap, cur, h1, Nat.le_trans hb h2, h3⟩
theorem ownsRow_one {w : World} {b : Nat} {e : TypeId} {m : Nat} {v : Value} {n : Nat} {xs : List Value} (h : w.ownsRow b e m v n xs) : v.oneCell' = true := by
  rcases h.2 with ⟨rfl, _⟩ | ⟨g, cap, cur, rfl, _⟩ <;> rfl
theorem ownsRow_own {w : World} {b : Nat} {e : TypeId} {m : Nat} {v : Value} {n : Nat} {xs : List Value} (h : w.ownsRow b e m v n xs) : v.ownBlock = blockOf v := by
  rcases h.2 with ⟨rfl, _⟩ | ⟨g, cap, cur, rfl, _⟩ <;> rfl
section
variable {P : Program} {w : World}
theorem append_own (t ty e : TypeId) (i : TypeInfo) (z : Value) (ht : P.underlying t = some (.slice e)) (hi : P.info? e = some i) (hz : i.zero = some z) (hzs : z.cells.size = i.size) (hsz : 0 < i.size)
    (v : Value) (n : Nat) (xs : List Value) (hown : w.ownsRow 0 e i.size v n xs)
    (a : Addr) (m c : Nat) (news : List Value) (hl : news.length = m * i.size) (hnews : ∀ j u, news[j]? = some u → w.cell? (a.add j) = some u) (h1 : ∀ u ∈ news, u.oneCell' = true)
    (h63 : n + m ≤ maxLen) (hbytes : (n + m) * i.bytes ≤ 140737488355328) :
    ∃ v' w', (Builtin.append_ #[t, t] ty #[v, .slice (some a) m c]).run P w = .ok v' w' ∧ w'.ownsRow 0 e i.size v' (n + m) (xs ++ news) ∧ w.grownBy w' (blockOf v) ∧ (∀ b, blockOf v' = some b → blockOf v = some b ∨ w.heap.size ≤ b) := by
  have hb := ownsRow_own hown
  rcases hown.2 with ⟨rfl, rfl⟩ | ⟨g, cap, cur, rfl, hbg, hg, hnc, hcm, hcs, htake⟩
  · have hx : xs = [] := List.eq_nil_of_length_eq_zero (by simpa using hown.1)
    subst hx
    obtain ⟨v', w', hr, ho, hgr, _⟩ := run_append_own (P := P) w w.heap.size t ty e i z i.size i.bytes ht hi hz rfl rfl hzs hsz (.slice none 0 0) 0 [] (World.ownsRow_nil _ _ _ _) a m c news hl hnews h1 h63 hbytes (Nat.le_refl _)
    refine ⟨v', w', hr, ownsRow_low ho (Nat.zero_le _), hgr, fun b e => .inr ?_⟩
    rcases ho.2 with ⟨rfl, _⟩ | ⟨g, cap, cur, rfl, hbg, _⟩
    · simp [blockOf] at e
    · simp only [blockOf, Option.some.injEq] at e; omega
  · by_cases hroom : n + m ≤ cap
    · obtain ⟨w', hr, ho, hgr⟩ := run_append_fits (P := P) w 0 t ty e i i.size ht hi rfl g n cap xs hown a m c news hl hnews h1 hroom
      exact ⟨_, w', hr, ho, hgr, fun b e => .inl e⟩
    · have holds : ∀ j u, xs[j]? = some u → w.cell? ((⟨g, 0, none⟩ : Addr).add j) = some u := hown.cells (g := g) rfl
      have hr2 := run_append_grow (P := P) w t ty e i z ht hi hz ⟨g, 0, none⟩ n cap xs hown.1 holds a m c news hl hnews (by omega) (by simp only [maxLen] at h63; omega) (growslice_fits (by omega) hbytes)
      obtain ⟨v', w', hr, ho, hgr, _⟩ := run_append_own (P := P) w 0 t ty e i z i.size i.bytes ht hi hz rfl rfl hzs hsz _ n xs hown a m c news hl hnews h1 h63 hbytes (Nat.zero_le _)
      refine ⟨v', w', hr, ho, hgr, fun b e => .inr ?_⟩
      rw [hr] at hr2
      simp only [Result.ok.injEq] at hr2
      rw [hr2.1] at e
      simp only [blockOf, Option.some.injEq] at e
      omega
/-- The cells of rows. -/
theorem rowOk_append {B : Nat → Prop} {r1 r2 : List (List D)} {m : Nat} {x1 x2 : List Value} (h1 : rowOk B w r1 m x1) (h2 : rowOk B w r2 m x2) (hl : x1.length = r1.length * m) : rowOk B w (r1 ++ r2) m (x1 ++ x2) := by
  refine ⟨fun i hi => ?_, fun i hi j hj => ?_⟩
  · by_cases c : i < r1.length
    · rw [List.getElem_append_left c]; exact h1.1 i c
    · rw [List.getElem_append_right (by omega)]; exact h2.1 _ _
  · by_cases c : i < r1.length
    · have e : (r1 ++ r2)[i] = r1[i] := List.getElem_append_left c
      have hj' : j < r1[i].length := by rw [← e]; exact hj
      obtain ⟨u, hu, hr⟩ := h1.2 i c j hj'
      refine ⟨u, ?_, by simp only [e]; exact hr⟩
      have hm := h1.1 i c
      rw [List.getElem?_append_left]
      · exact hu
      · rw [hl]
        have : i * m + m ≤ r1.length * m := by rw [← Nat.succ_mul]; exact Nat.mul_le_mul_right _ c
        omega
    · have hlt : i - r1.length < r2.length := by rw [List.length_append] at hi; omega
      have e : (r1 ++ r2)[i] = r2[i - r1.length] := List.getElem_append_right (by omega)
      have hj' : j < r2[i - r1.length].length := by rw [← e]; exact hj
      obtain ⟨u, hu, hr⟩ := h2.2 _ hlt j hj'
      refine ⟨u, ?_, by simp only [e]; exact hr⟩
      have hx : i * m = r1.length * m + (i - r1.length) * m := by rw [← Nat.add_mul]; congr 1; omega
      rw [List.getElem?_append_right (by rw [hl]; omega), ← hu, hl]
      congr 1
      omega
/-- The cells that data reads, as a list. -/
theorem data_cells {B : Nat → Prop} {m : Nat} {rows : List (List D)} {b off : Nat} (hm : ∀ i (h : i < rows.length), rows[i].length = m)
    (hc : ∀ i (h : i < rows.length) j (h2 : j < rows[i].length), ∃ u, w.cell? ⟨b, off + i * m + j, none⟩ = some u ∧ Rd B w rows[i][j] u) :
    ∃ news : List Value, news.length = rows.length * m ∧ (∀ j u, news[j]? = some u → w.cell? ((⟨b, off, none⟩ : Addr).add j) = some u) ∧ rowOk B w rows m news ∧ ∀ u ∈ news, u.oneCell' = true := by
  have key : ∀ q, q < rows.length * m → ∃ u, w.cell? ⟨b, off + q, none⟩ = some u ∧ u.oneCell' = true := fun q hq => by
    have hm0 : 0 < m := by rcases Nat.eq_zero_or_pos m with e | e; · subst e; simp at hq
                           · exact e
    have h1 : q / m < rows.length := by rw [Nat.div_lt_iff_lt_mul hm0]; exact hq
    have h2 : q % m < rows[q / m].length := by rw [hm _ h1]; exact Nat.mod_lt _ hm0
    obtain ⟨u, hu, hr⟩ := hc _ h1 _ h2
    refine ⟨u, by rw [← hu]; congr 2; rw [Nat.add_assoc, Nat.mul_comm, Nat.div_add_mod], hr.one⟩
  refine ⟨(List.range (rows.length * m)).map fun q => (w.cell? ⟨b, off + q, none⟩).getD undef, by simp, fun j u hu => ?_, ⟨hm, fun i hi j hj => ?_⟩, fun u hu => ?_⟩
  · rw [List.getElem?_map, Option.map_eq_some_iff] at hu
    obtain ⟨q, hq, rfl⟩ := hu
    obtain ⟨hq1, hq2⟩ := List.getElem?_eq_some_iff.1 hq
    rw [List.length_range] at hq1
    rw [List.getElem_range] at hq2
    subst hq2
    obtain ⟨u, hu, _⟩ := key j hq1
    rw [add_off, hu]
    rfl
  · obtain ⟨u, hu, hr⟩ := hc i hi j hj
    have hlt : i * m + j < rows.length * m := by
      have := hm i hi
      have : i * m + m ≤ rows.length * m := by rw [← Nat.succ_mul]; exact Nat.mul_le_mul_right _ hi
      omega
    refine ⟨u, ?_, hr⟩
    rw [List.getElem?_map, List.getElem?_range hlt, Option.map_some, ← Nat.add_assoc, hu]
    rfl
  · rw [List.mem_map] at hu
    obtain ⟨q, hq, rfl⟩ := hu
    rw [List.mem_range] at hq
    obtain ⟨u, hu, h1⟩ := key q hq
    rw [hu]
    exact h1
end
section
variable {P : Program} {N : Nat} {w0 : World} {Pr X : Nat → Prop} {Z : Nat → Option Value} {ρ : Nat → Value} {st : St} {a : Act} {w : World}
def killAll (st : St) (o : Nat) (x : O) : St := { st with env := fun t => (st.env t).kill o, os := fun o' => if o' = o then some x else (st.os o').map (O.kill o) }
/-- A row is appended to. -/
theorem appendRow {C : Cx} (hT : TOK P C.T) (hg : Gam N w0 Pr X Z ρ st a w) {t ty e : TypeId} {i ie : TI} (hti : C.T t = some i) (hk : i.kind = .slice e) (hie : C.T e = some ie) (hpos : 0 < ie.size)
    {o : Nat} {rows rows2 : List (List D)} {m : Nat} {e' : TypeId} (ho : st.os o = some (.row rows m e')) (he : e' = e) (hm : ie.size = m) {u : Value}
    (hu : ∃ A c, u = .slice A rows2.length c ∧ (∀ q (h : q < rows2.length), rows2[q].length = m) ∧ ((rows2 = [] ∧ A = none ∧ c = 0) ∨ ∃ a : Addr, A = some a ∧ (rows2 ≠ [] → ∃ b off, a = ⟨b, off, none⟩ ∧ ∀ q (h : q < rows2.length) j (h2 : j < rows2[q].length), ∃ z, w.cell? ⟨b, off + q * m + j, none⟩ = some z ∧ Rd (Bk X st.os ρ w) w rows2[q][j] z)))
    (hb1 : (rows.length + rows2.length) * ie.bytes ≤ 140737488355328) (hb2 : rows.length + rows2.length ≤ 9223372036854775807) :
    ∃ v' w', (Builtin.append_ #[t, t] ty #[ρ o, u]).run P w = .ok v' w' ∧ Out N w0 Pr X Z (killAll st o (.row (rows ++ rows2) m e)) a (.row o) v' w' := by
  obtain ⟨j, d, z, hj, hd, hs, hby, _, _, hz, _, hzs, _⟩ := hT.facts hie
  have ht := slice_facts hT hti hk
  obtain ⟨xs, hown, hrow⟩ := hg.obj o _ ho
  subst he
  have hjm : j.size = m := by rw [hs, hm]
  rw [← hjm] at hown
  have hon : Lv (fun o' => if o' = o then some (O.row (rows ++ rows2) m e') else (st.os o').map (O.kill o)) o := by unfold Lv; simp
  have hxl : xs.length = rows.length * m := by rw [hown.1, hjm]
  -- what the new rows' cells are
  have key : ∃ v' w' news, (Builtin.append_ #[t, t] ty #[ρ o, u]).run P w = .ok v' w' ∧ w'.ownsRow 0 e' j.size v' (rows.length + rows2.length) (xs ++ news) ∧ w.grownBy w' (blockOf (ρ o)) ∧ (∀ b, blockOf v' = some b → blockOf (ρ o) = some b ∨ w.heap.size ≤ b) ∧ rowOk (Bk X st.os ρ w) w rows2 m news := by
    obtain ⟨A, c, rfl, hm2, hA⟩ := hu
    rcases hA with ⟨rfl, rfl, rfl⟩ | ⟨ad, rfl, hc⟩
    · refine ⟨ρ o, w, [], ?_, by simpa using hown, ⟨rfl, rfl, rfl, Nat.le_refl _, fun _ _ _ => rfl⟩, fun b e => .inl e, ⟨fun q h => by simp at h, fun q h => by simp at h⟩⟩
      exact run_append_owned_none (P := P) w 0 t ty e' j j.size ht hj (ρ o) rows.length xs hown
    · have hnews : ∃ news : List Value, news.length = rows2.length * m ∧ (∀ j u, news[j]? = some u → w.cell? (ad.add j) = some u) ∧ rowOk (Bk X st.os ρ w) w rows2 m news ∧ ∀ u ∈ news, u.oneCell' = true := by
        by_cases hne : rows2 = []
        · subst hne
          exact ⟨[], by simp, by simp, ⟨fun q h => by simp at h, fun q h => by simp at h⟩, by simp⟩
        · obtain ⟨b, off, hbo, hc2⟩ := hc hne
          subst hbo
          exact data_cells hm2 hc2
      obtain ⟨news, hl, hn, hr, h1⟩ := hnews
      obtain ⟨v', w', hr1, hr2, hr3, hr4⟩ := append_own (P := P) t ty e' j z ht hj hz (by rw [hzs, hs]) (by rw [hs]; exact hpos) (ρ o) rows.length xs hown ad rows2.length c news (by rw [hl, hjm]) hn h1 (by simp only [maxLen]; omega) (by rw [hby]; exact hb1)
      exact ⟨v', w', news, hr1, hr2, hr3, hr4, hr⟩
  obtain ⟨v', w', news, hr1, hr2, hr3, hr4, hr5⟩ := key
  refine ⟨v', w', hr1, upd ρ o v', ?_, ?_⟩
  · refine hg.moveObj o (by rw [ho]; simp) (fun y h0 => by rw [ho] at h0; simp only [Option.some.injEq] at h0; rw [← h0]; rfl) hr3.size hr3.os hr3.tape hr3.output (fun b hb hne => hr3.block b hb (fun e => hne e.symm)) v' (ownsRow_one hr2) hr4 _ ?_
    refine ⟨xs ++ news, ?_, ?_⟩
    · rw [upd_same, List.length_append, ← hjm]; exact hr2
    · have all := rowOk_append hrow hr5 hxl
      refine all.mono (fun b hb => ⟨⟨Nat.lt_of_lt_of_le hb.1.1 hr3.size, hb.1.2⟩, fun o' ho' e => ?_⟩) (fun b hb => hr3.block b hb.1.1 (fun e => hb.2 o (by rw [ho]; simp) e.symm))
      by_cases c : o' = o
      · subst c
        rw [upd_same] at e
        rcases hr4 b e with e2 | e2
        · exact hb.2 o' (by rw [ho]; simp) e2
        · have := hb.1.1; omega
      · simp only [if_neg c] at ho'
        rw [upd_ne _ _ c] at e
        exact hb.2 o' (by intro e3; rw [e3] at ho'; simp at ho') e
  · rw [G]
    exact ⟨hon, (upd_same _ _ _).symm⟩
end
end Go.Proofs.YtgnnakibcjonbaaGreatDoor.VE

/- The evaluator's literals and makes. -/
namespace Go.Proofs.YtgnnakibcjonbaaGreatDoor.VE
open Go Go.RowKit
set_option linter.unusedVariables false
set_option linter.unusedSimpArgs false
def toD : V → Option D
  | .d x => some x
  | .nil => some (.sl 0 [])
  | _ => none
def toDs : List V → Option (List D)
  | [] => some []
  | x :: r => match toD x, toDs r with
    | some y, some ys => some (y :: ys)
    | _, _ => none
theorem toD_Rd {B : Nat → Prop} {w : World} {ρ : Nat → Value} {L : Nat → Prop} {x : V} {v : Value} (h : G B w ρ L x v) {y : D} (hy : toD x = some y) : Rd B w y v := by
  unfold toD at hy
  split at hy
  · simp only [Option.some.injEq] at hy
    subst hy
    rwa [G] at h
  · simp only [Option.some.injEq] at hy
    subst hy
    rw [G] at h
    subst h
    rw [Rd]
    exact ⟨none, 0, rfl, Nat.le_refl _, Nat.zero_le _, fun _ => rfl, fun i h => by simp at h, fun h => absurd rfl h⟩
  · simp at hy
theorem toDs_Rd {B : Nat → Prop} {w : World} {ρ : Nat → Value} {L : Nat → Prop} : ∀ {xs : List V} {vs : List Value} {ys : List D}, Gs B w ρ L xs vs → toDs xs = some ys → ys.length = vs.length ∧ ∀ i (h : i < ys.length) (h2 : i < vs.length), Rd B w ys[i] vs[i]
  | [], vs, ys, hg, h => by
    simp only [toDs, Option.some.injEq] at h
    subst h
    have := hg.1
    simp at this
    subst this
    exact ⟨rfl, fun i h => by simp at h⟩
  | x :: xs, [], ys, hg, h => by have := hg.1; simp at this
  | x :: xs, v :: vs, ys, hg, h => by
    simp only [toDs] at h
    split at h
    · rename_i y ys' hy hys
      simp only [Option.some.injEq] at h
      subst h
      have ih := toDs_Rd (xs := xs) (vs := vs) ⟨by simpa using hg.1, fun i h1 h2 => hg.2 (i + 1) (by simpa using h1) (by simpa using h2)⟩ hys
      refine ⟨by simp [ih.1], fun i h1 h2 => ?_⟩
      match i with
      | 0 => exact toD_Rd (hg.2 0 (by simp) (by simp)) hy
      | i + 1 => exact ih.2 i (by simpa using h1) (by simpa using h2)
    · simp at h
/-- A literal's parts, laid into the zero cells. -/
def fillV (pl : Nat → Option (Nat × Nat)) : List V → List (Nat × V) → Option (List V)
  | cs, [] => some cs
  | cs, (i, x) :: r => match pl i, x.flat with
    | some (off, sz), some ys => if ys.length = sz ∧ off + sz ≤ cs.length then fillV pl (putL cs off ys) r else none
    | _, _ => none
theorem foldl_put (off : Nat) : ∀ (ys : List Value) (k : Nat) (cells : List Value), off + k + ys.length ≤ cells.length →
    (ys.zipIdx k).foldl (fun (cs : Array Value) (p : Value × Nat) => cs.setIfInBounds (off + p.2) p.1) cells.toArray = (putL cells (off + k) ys).toArray
  | [], k, cells, h => by simp [putL]
  | y :: ys, k, cells, h => by
    simp only [List.length_cons] at h
    rw [List.zipIdx_cons, List.foldl_cons]
    have e : (cells.toArray.setIfInBounds (off + k) y) = (cells.set (off + k) y).toArray := by simp
    rw [e, foldl_put off ys (k + 1) (cells.set (off + k) y) (by simp; omega)]
    congr 1
    apply List.ext_getElem?
    intro q
    simp only [putL, List.length_cons]
    rw [List.getElem?_append, List.getElem?_append, List.getElem?_append, List.getElem?_append]
    simp only [List.length_append, List.length_take, List.length_set, List.length_cons]
    by_cases c1 : q < off + k
    · rw [if_pos (by omega), if_pos (by omega), if_pos (by omega), if_pos (by omega), List.getElem?_take, List.getElem?_take, if_pos (by omega), if_pos (by omega), List.getElem?_set_ne (by omega)]
    · by_cases c2 : q = off + k
      · subst c2
        rw [if_pos (by omega), if_pos (by omega), if_pos (by omega), if_neg (by omega), List.getElem?_take, if_pos (by omega), List.getElem?_set_self (by omega)]
        simp [show min (off + k) cells.length = off + k by omega]
      · by_cases c3 : q < off + k + 1 + ys.length
        · rw [if_pos (by omega), if_neg (by omega), if_pos (by omega), if_neg (by omega)]
          rw [show q - min (off + k) cells.length = (q - min (off + (k + 1)) cells.length) + 1 by omega, List.getElem?_cons_succ]
        · rw [if_neg (by omega), if_neg (by omega), List.getElem?_drop, List.getElem?_drop, List.getElem?_set_ne (by omega)]
          congr 1
          omega
theorem fillV_run {B : Nat → Prop} {w : World} {ρ : Nat → Value} {L : Nat → Prop} (hone : ∀ o, (ρ o).oneCell' = true) (pl : Nat → Option (Nat × Nat)) : ∀ (xs : List (Nat × V)) (us : List (Nat × Value)) (cs : List V) (vs : List Value) (rs : List V), Gs B w ρ L cs vs → (∀ u ∈ vs, u.oneCell' = true) →
    us.map (·.1) = xs.map (·.1) → Gs B w ρ L (xs.map (·.2)) (us.map (·.2)) → fillV pl cs xs = some rs →
    ∃ zs : List Value, Instr.fill pl vs.toArray us = some zs.toArray ∧ Gs B w ρ L rs zs ∧ ∀ u ∈ zs, u.oneCell' = true
  | [], us, cs, vs, rs, hg, h1, hi, hu, h => by
    cases us with
    | cons u us => simp at hi
    | nil =>
      simp only [fillV, Option.some.injEq] at h
      subst h
      exact ⟨vs, rfl, hg, h1⟩
  | (i, x) :: xs, us, cs, vs, rs, hg, h1, hi, hu, h => by
    cases us with
    | nil => simp at hi
    | cons u us =>
      obtain ⟨j, v⟩ := u
      simp only [List.map_cons, List.cons.injEq] at hi
      obtain ⟨rfl, hi⟩ := hi
      simp only [fillV] at h
      split at h
      · rename_i off sz ys hpl hfl
        split at h
        · rename_i hc
          obtain ⟨hc1, hc2⟩ := hc
          obtain ⟨ws, hv, hws, hw1⟩ := flat_cells (hu.2 0 (by simp) (by simp)) hfl hone
          simp only [List.map_cons, List.getElem_cons_zero] at hv
          have hwl : ws.length = ys.length := hws.1
          have hvl : vs.length = cs.length := hg.1
          have hput : Gs B w ρ L (putL cs off ys) (putL vs off ws) := by
            refine ⟨by rw [putL_length _ _ _ (by omega), putL_length _ _ _ (by omega), hvl], fun q q1 q2 => ?_⟩
            rw [putL_get cs off ys (by omega), putL_get vs off ws (by omega)]
            by_cases hq : off ≤ q ∧ q < off + ys.length
            · rw [dif_pos hq, dif_pos (by omega)]; exact hws.2 _ _ _
            · rw [dif_neg hq, dif_neg (by omega)]; exact hg.2 _ _ _
          have hput1 : ∀ u ∈ putL vs off ws, u.oneCell' = true := fun z hz => by
            unfold putL at hz
            rcases List.mem_append.1 hz with hz | hz
            · rcases List.mem_append.1 hz with hz | hz
              · exact h1 z (List.mem_of_mem_take hz)
              · exact hw1 z hz
            · exact h1 z (List.mem_of_mem_drop hz)
          obtain ⟨zs, e, hz1, hz2⟩ := fillV_run hone pl xs us (putL cs off ys) (putL vs off ws) rs hput hput1 hi ⟨by simpa using hu.1, fun q q1 q2 => hu.2 (q + 1) (by simpa using q1) (by simpa using q2)⟩ h
          refine ⟨zs, ?_, hz1, hz2⟩
          rw [← e]
          have hf := foldl_put off ws 0 vs (by omega)
          simp only [Nat.add_zero] at hf
          simp only [Instr.fill, hpl, hv]
          rw [if_neg (by simp; omega)]
          congr 1
          have hz : (ws.toArray.zipIdx.foldl (fun (cs : Array Value) (p : Value × Nat) => cs.setIfInBounds (off + p.2) p.1) vs.toArray) = (putL vs off ws).toArray := by
            rw [← hf]
            simp
          exact hz
        · simp at h
      · simp at h
def placesV (C : Cx) (fs : List (Nat × TypeId)) : Option (List (Nat × Nat)) := fs.mapM fun p => (C.T p.2).map fun i => (p.1, i.size)
def buildV (C : Cx) (e : Operand → V) (t : TypeId) (parts : List (Nat × Operand)) : Option V :=
  match C.T t with
  | some i => match i.kind with
    | .strct fs => match placesV C fs with
      | some pl => (fillV (pl[·]?) i.zero (parts.map fun p => (p.1, e p.2))).map .agg
      | none => none
    | .array _ el => match C.T el with
      | some j => (fillV (fun q => some (q * j.size, j.size)) i.zero (parts.map fun p => (p.1, e p.2))).map .agg
      | none => none
    | _ => none
  | none => none
section
variable {P : Program} {N : Nat} {w0 : World} {Pr X : Nat → Prop} {Z : Nat → Option Value} {ρ : Nat → Value} {st : St} {a : Act} {w : World}
theorem placesV_run {C : Cx} (hT : TOK P C.T) : ∀ (fields : List Field) (pl : List (Nat × Nat)), placesV C (fields.map fun f => (f.offset, f.type)) = some pl → fields.mapM (fun f => (P.info? f.type).map fun i => (f.offset, i.size)) = some pl
  | [], pl, h => by simpa [placesV] using h
  | f :: fs, pl, h => by
    simp only [placesV, List.map_cons, List.mapM_cons, Option.bind_eq_bind, Option.pure_def] at h
    cases hf : C.T f.type with
    | none => simp [hf] at h
    | some i =>
      obtain ⟨j, hj, hs⟩ := size_facts hT hf
      cases hr : (fs.map fun f => (f.offset, f.type)).mapM (fun p => (C.T p.2).map fun i => (p.1, i.size)) with
      | none => simp [hf, hr] at h
      | some rest =>
        have ih := placesV_run hT fs rest hr
        simp [hf, hr] at h
        subst h
        simp [List.mapM_cons, hj, ih, hs]
theorem buildV_run {C : Cx} (hT : TOK P C.T) (hg : Gam N w0 Pr X Z ρ st a w) {t : TypeId} {parts : Array (Nat × Operand)} {r : V} (h : buildV C (ev st.env) t parts.toList = some r) :
    ∃ z, (Instr.build t (parts.map fun (i, x) => (i, a.eval x))).run P w = .ok z w ∧ G (Bk X st.os ρ w) w ρ (Lv st.os) r z := by
  have hparts : ∀ xs : List (Nat × Operand), Gs (Bk X st.os ρ w) w ρ (Lv st.os) ((xs.map fun p => (p.1, ev st.env p.2)).map (·.2)) ((xs.map fun p => (p.1, a.eval p.2)).map (·.2)) := fun xs => by
    refine ⟨by simp, fun i h1 h2 => ?_⟩
    simp only [List.map_map, List.getElem_map, Function.comp]
    exact ev_G hg _
  have hidx : ∀ xs : List (Nat × Operand), (xs.map fun p => (p.1, a.eval p.2)).map (·.1) = (xs.map fun p => (p.1, ev st.env p.2)).map (·.1) := fun xs => by simp
  unfold buildV at h
  split at h
  · rename_i i hi
    obtain ⟨j, d, z, hj, hd, hs, _, _, hok, hz, hzb, hzs, hz1⟩ := hT.facts hi
    have hzero : Gs (Bk X st.os ρ w) w ρ (Lv st.os) i.zero z.cells.toList := zeroB_Gs hzb
    split at h
    · rename_i fs hk
      rw [hk] at hok
      have hds : ∃ gs, d = .struct gs := by cases d <;> simp [TK.ok] at hok ⊢
      obtain ⟨gs, rfl⟩ := hds
      simp only [TK.ok, Bool.and_eq_true, decide_eq_true_eq] at hok
      split at h
      · rename_i pl hpl
        obtain ⟨cs, hcs, rfl⟩ := Option.map_eq_some_iff.1 h
        rw [← hok.1] at hpl
        have hp := placesV_run hT gs.toList pl hpl
        obtain ⟨zs, e1, e2, _⟩ := fillV_run hg.one (pl[·]?) _ _ _ _ _ hzero hz1 (hidx parts.toList) (hparts parts.toList) hcs
        refine ⟨.agg zs.toArray, ?_, by rw [G]; exact ⟨zs, rfl, e2⟩⟩
        refine run_build (P := P) w t _ zs.toArray ?_
        unfold Program.built
        simp only [hj, hd, hz, hp]
        rw [← e1]
        simp
      · simp at h
    · rename_i m el hk
      have ha := array_facts hT hi hk
      split at h
      · rename_i je hje
        obtain ⟨je', hje', hjes⟩ := size_facts hT hje
        obtain ⟨cs, hcs, rfl⟩ := Option.map_eq_some_iff.1 h
        obtain ⟨zs, e1, e2, _⟩ := fillV_run hg.one (fun q => some (q * je.size, je.size)) _ _ _ _ _ hzero hz1 (hidx parts.toList) (hparts parts.toList) hcs
        refine ⟨.agg zs.toArray, ?_, by rw [G]; exact ⟨zs, rfl, e2⟩⟩
        refine run_build (P := P) w t _ zs.toArray ?_
        unfold Program.built
        simp only [hj, ha, hz, hje', hjes]
        rw [← e1]
        simp
      · simp at h
    · simp at h
  · simp at h
/-- A nil slice as a row. -/
theorem nilRow (hg : Gam N w0 Pr X Z ρ st a w) (t : Nat) (ht : st.os t = none) (htl : t < 100000) (m : Nat) (e : TypeId) : Gam N w0 Pr X Z (upd ρ t (.slice none 0 0)) { st with os := upd st.os t (some (.row [] m e)) } a w :=
  hg.newObj ⟨Nat.le_refl _, fun _ _ => rfl, rfl, rfl, rfl⟩ t ht htl _ _ rfl (fun b e => by simp [blockOf] at e) ⟨[], by rw [upd_same]; exact World.ownsRow_nil _ _ _ _, fun i h => by simp at h, fun i h => by simp at h⟩
/-- A new row whose block was just made. -/
theorem newRowObj (hg : Gam N w0 Pr X Z ρ st a w) (t : Nat) (ht : st.os t = none) (htl : t < 100000) {rows : List (List D)} {m cap : Nat} {e : TypeId} {cur : Array Value} (hcap : rows.length ≤ cap) (hmx : cap ≤ maxLen) (hsz : cur.size = cap * m) (hr : rowOk (Bk X st.os ρ w) w rows m (cur.toList.take (rows.length * m))) :
    Out N w0 Pr X Z { st with os := upd st.os t (some (.row rows m e)) } a (.row t) (.slice (some ⟨w.heap.size, 0, none⟩) rows.length cap) (w.alloc (.cells cur e)) := by
  have hm : More w (w.alloc (.cells cur e)) := ⟨by simp, fun b hb => Below.heap_alloc _ _ _ hb, rfl, rfl, rfl⟩
  refine ⟨upd ρ t (.slice (some ⟨w.heap.size, 0, none⟩) rows.length cap), hg.newObj hm t ht htl _ _ rfl (fun b e => ?_) ?_, ?_⟩
  · simp only [blockOf, Option.some.injEq] at e; omega
  · refine ⟨cur.toList.take (rows.length * m), ?_, hr.mono (fun b hb => ⟨⟨Nat.lt_of_lt_of_le hb.1.1 hm.size, hb.1.2⟩, fun o ho e => ?_⟩) (fun b hb => hm.block b hb.1.1)⟩
    · rw [upd_same]
      refine ⟨?_, .inr ⟨w.heap.size, cap, cur, rfl, Nat.zero_le _, heap_alloc_new w _, hcap, hmx, hsz, rfl⟩⟩
      have : (cur.toList.take (rows.length * m)).length = rows.length * m := by
        have hl : cur.toList.length = cap * m := by rw [← hsz]; simp
        rw [List.length_take, hl]
        exact Nat.min_eq_left (Nat.mul_le_mul_right _ hcap)
      exact this
    · by_cases c : o = t
      · subst c
        rw [upd_same] at e
        simp only [blockOf, Option.some.injEq] at e
        have := hb.1.1
        omega
      · rw [upd_ne _ _ c] at ho e
        exact hb.2 o ho e
  · rw [G]
    exact ⟨by simp [Lv, upd_same], (upd_same _ _ _).symm⟩
/-- New data: a block that nobody will change. -/
theorem newData (hg : Gam N w0 Pr X Z ρ st a w) {rows : List (List D)} {m cap : Nat} {e : TypeId} {cur : Array Value} {fr : Nat × Nat} {w' : World} (hm : More w w') (hblk : w'.heap[w.heap.size]? = some (.cells cur e fr)) (hcap : rows.length ≤ cap) (hmx : cap ≤ maxLen) (hr : rowOk (Bk X st.os ρ w) w rows m cur.toList) :
    Gam N w0 Pr X Z ρ st a w' ∧ G (Bk X st.os ρ w') w' ρ (Lv st.os) (.d (.sl m rows)) (.slice (some ⟨w.heap.size, 0, none⟩) rows.length cap) := by
  refine ⟨hg.more hm, ?_⟩
  rw [G, Rd]
  refine ⟨_, cap, rfl, hcap, hmx, (fun e => by cases e), hr.1, fun _ => ⟨w.heap.size, 0, rfl, ⟨⟨heap_lt hblk, hg.hX _ hg.grow⟩, fun o ho e => ?_⟩, fun i hi j hj => ?_⟩⟩
  · obtain ⟨x, hx⟩ := Option.ne_none_iff_exists'.1 ho
    have := (hg.obj o x hx).lt e
    omega
  · obtain ⟨u, hu, hrd⟩ := hr.2 i hi j hj
    refine ⟨u, ?_, hrd.mono (fun b hb => hb.more hm) (fun b hb => hm.block b hb.1.1)⟩
    simp [World.cell?, hblk, Nat.zero_add]
    rw [← Array.getElem?_toList]; exact hu
end
end Go.Proofs.YtgnnakibcjonbaaGreatDoor.VE

/- The evaluator: rows turned to data, rows written. -/
namespace Go.Proofs.YtgnnakibcjonbaaGreatDoor.VE
open Go Go.RowKit
set_option linter.unusedVariables false
set_option linter.unusedSimpArgs false
mutual
/-- The row o is data from now on. -/
def V.frz (o : Nat) (x : D) : V → V
  | .ptr o' c => if o' = o then .top else .ptr o' c
  | .row o' => if o' = o then .d x else .row o'
  | .rptr o' m i j => if o' = o then .top else .rptr o' m i j
  | .agg cs => .agg (V.frzs o x cs)
  | .tup cs => .tup (V.frzs o x cs)
  | .fnc f cs => .fnc f (V.frzs o x cs)
  | .whn b y => .whn b (y.frz o x)
  | v => v
def V.frzs (o : Nat) (x : D) : List V → List V
  | [] => []
  | y :: r => V.frz o x y :: V.frzs o x r
end
theorem V.frzs_eq (o : Nat) (x : D) : ∀ cs : List V, V.frzs o x cs = cs.map (V.frz o x)
  | [] => rfl
  | y :: r => by rw [V.frzs, V.frzs_eq o x r]; rfl
def O.frz (o : Nat) (x : D) : O → O
  | .box cs e => .box (cs.map (V.frz o x)) e
  | y => y
theorem G.frz {B : Nat → Prop} {w : World} {ρ : Nat → Value} {L L' : Nat → Prop} (o : Nat) (y : D) (hy : Rd B w y (ρ o)) (hL : ∀ o', o' ≠ o → L o' → L' o') : ∀ (x : V) (v : Value), G B w ρ L x v → G B w ρ L' (x.frz o y) v
  | .d x, v, h => by simp only [V.frz, V.frzs_eq]; rw [G] at h ⊢; exact h
  | .nil, v, h => by simp only [V.frz, V.frzs_eq]; rw [G] at h ⊢; exact h
  | .ptr o' c, v, h => by
    simp only [V.frz, V.frzs_eq]
    split
    · rw [G]; trivial
    · rename_i c; rw [G] at h ⊢; exact ⟨hL _ c h.1, h.2⟩
  | .row o', v, h => by
    simp only [V.frz, V.frzs_eq]
    split
    · rename_i e
      rw [G] at h
      rw [G, h.2, e]
      exact hy
    · rename_i c; rw [G] at h ⊢; exact ⟨hL _ c h.1, h.2⟩
  | .rptr o' m i j, v, h => by
    simp only [V.frz, V.frzs_eq]
    split
    · rw [G]; trivial
    · rename_i c; rw [G] at h ⊢; exact ⟨hL _ c h.1, h.2⟩
  | .dptr cs, v, h => by simp only [V.frz, V.frzs_eq]; rw [G] at h ⊢; exact h
  | .agg cs, v, h => by
    simp only [V.frz, V.frzs_eq]
    rw [G] at h ⊢
    obtain ⟨vs, e, hl, hv⟩ := h
    exact ⟨vs, e, by simpa using hl, fun i h h2 => by rw [List.getElem_map]; exact G.frz o y hy hL _ _ (hv i (by simpa using h) h2)⟩
  | .tup cs, v, h => by
    simp only [V.frz, V.frzs_eq]
    rw [G] at h ⊢
    obtain ⟨vs, e, hl, hv⟩ := h
    exact ⟨vs, e, by simpa using hl, fun i h h2 => by rw [List.getElem_map]; exact G.frz o y hy hL _ _ (hv i (by simpa using h) h2)⟩
  | .fnc f cs, v, h => by
    simp only [V.frz, V.frzs_eq]
    rw [G] at h ⊢
    obtain ⟨vs, e, hl, hv⟩ := h
    exact ⟨vs, e, by simpa using hl, fun i h h2 => by rw [List.getElem_map]; exact G.frz o y hy hL _ _ (hv i (by simpa using h) h2)⟩
  | .whn b x, v, h => by simp only [V.frz, V.frzs_eq]; rw [G] at h ⊢; exact ⟨fun e => G.frz o y hy hL x v (h.1 e), h.2⟩
  | .top, v, h => by simp only [V.frz, V.frzs_eq]; rw [G]; trivial
termination_by x => SizeOf.sizeOf x
decreasing_by
  all_goals first
    | (have h3 := List.sizeOf_lt_of_mem (List.getElem_mem (by simpa using h)); simp; omega)
    | (simp; done)
    | (simp; omega)
def St.frz (st : St) (o : Nat) : St :=
  match st.os o with
  | some (.row rows m _) => { st with env := fun t => (st.env t).frz o (.sl m rows), os := fun o' => if o' = o then none else (st.os o').map (O.frz o (.sl m rows)) }
  | _ => st
section
variable {P : Program} {N : Nat} {w0 : World} {Pr X : Nat → Prop} {Z : Nat → Option Value} {ρ : Nat → Value} {st : St} {a : Act} {w : World}
/-- What a row holds, as data, where its block may be read. -/
theorem row_Rd {B B' : Nat → Prop} {L : Nat → Prop} {o : Nat} {rows : List (List D)} {m : Nat} {e : TypeId} (h : objOk B w ρ L o (.row rows m e)) (hb : ∀ b, B b → B' b) (hblk : ∀ b, blockOf (ρ o) = some b → B' b) : Rd B' w (.sl m rows) (ρ o) := by
  obtain ⟨hm, hsh⟩ := row_shape h
  rw [Rd]
  rcases hsh with ⟨rfl, e1⟩ | ⟨b, cap, e1, hc1, hc2, hbb, hc⟩
  · exact ⟨none, 0, by rw [e1]; rfl, Nat.le_refl _, Nat.zero_le _, fun _ => rfl, fun i h => by simp at h, fun h => absurd rfl h⟩
  · refine ⟨_, cap, e1, hc1, hc2, (fun e => by cases e), hm, fun _ => ⟨b, 0, rfl, hblk b hbb, fun i hi j hj => ?_⟩⟩
    obtain ⟨u, hu, _, hr⟩ := hc i hi j hj
    exact ⟨u, by rw [← hu, Nat.zero_add], hr.mono hb (fun _ _ => rfl)⟩
theorem Gam.frz (h : Gam N w0 Pr X Z ρ st a w) (o : Nat) : Gam N w0 Pr X Z ρ (st.frz o) a w := by
  unfold St.frz
  split
  · rename_i rows m e ho
    have hx := h.obj o _ ho
    have hb : ∀ b, Bk X st.os ρ w b → Bk X (fun o' => if o' = o then none else (st.os o').map (O.frz o (.sl m rows))) ρ w b := fun b hb => ⟨hb.1, fun o' ho' => hb.2 o' (by
      by_cases c : o' = o
      · simp [c] at ho'
      · simp only [if_neg c] at ho'
        intro e3; rw [e3] at ho'; simp at ho')⟩
    have hown : Rd (Bk X (fun o' => if o' = o then none else (st.os o').map (O.frz o (.sl m rows))) ρ w) w (.sl m rows) (ρ o) := row_Rd hx hb fun b e => ⟨⟨hx.lt e, h.xo o b (by rw [ho]; simp) e⟩, fun o' ho' e2 => by
      by_cases c : o' = o
      · simp [c] at ho'
      · simp only [if_neg c] at ho'
        have l : st.os o' ≠ none := by intro e3; rw [e3] at ho'; simp at ho'
        exact c (h.inj o' o b l (by rw [ho]; simp) e2 e)⟩
    have live : ∀ o', (if o' = o then none else (st.os o').map (O.frz o (.sl m rows))) ≠ none → o' ≠ o ∧ st.os o' ≠ none := fun o' ho' => by
      by_cases c : o' = o
      · simp [c] at ho'
      · simp only [if_neg c] at ho'
        exact ⟨c, by intro e3; rw [e3] at ho'; simp at ho'⟩
    have hL : ∀ o', o' ≠ o → Lv st.os o' → Lv (fun o' => if o' = o then none else (st.os o').map (O.frz o (.sl m rows))) o' := fun o' c l => by
      unfold Lv at l ⊢
      simp only [if_neg c]
      intro e
      rw [Option.map_eq_none_iff] at e
      exact l e
    refine ⟨h.defers, h.size, fun t => (((h.env t).mono hb (fun _ _ => rfl) (fun _ h => h) (fun _ _ => rfl)).frz o _ hown hL), fun o' y ho' => ?_, fun o1 o2 b h1 h2 e1 e2 => h.inj o1 o2 b (live o1 h1).2 (live o2 h2).2 e1 e2, h.one, h.keep, fun o' b ho' e => h.prot o' b (live o' ho').2 e, h.low, h.grow, h.os', h.tape, h.output, h.hX, fun o' b ho' => h.xo o' b (live o' ho').2, fun o' u hz => ?_, h.gp⟩
    rotate_left
    · obtain ⟨h1, h2, y, h3, h4⟩ := h.fix o' u hz
      have c : o' ≠ o := fun e4 => by
        rw [e4, ho] at h3
        simp only [Option.some.injEq] at h3
        rw [← h3] at h4
        cases h4
      exact ⟨h1, h2, y.frz o (.sl m rows), by simp only [if_neg c, h3, Option.map_some], by cases y <;> first | rfl | exact h4⟩
    · by_cases c : o' = o
      · simp [c] at ho'
      · simp only [if_neg c, Option.map_eq_some_iff] at ho'
        obtain ⟨z, hz, rfl⟩ := ho'
        have hy := (h.obj o' z hz).mono hb (fun _ _ => rfl) (fun _ h => h) (fun _ _ => rfl) rfl (fun _ _ => rfl)
        cases z with
        | box cs e =>
          obtain ⟨b, vs, e1, e2, h3, h4⟩ := hy
          exact ⟨b, vs, e1, e2, ⟨by simpa using h3.1, fun i h1 h2 => by rw [List.getElem_map]; exact (h3.2 i (by simpa using h1) h2).frz o _ hown hL⟩, h4⟩
        | row rows m e => exact hy
        | arr rows m e => exact hy
        | raw K => exact hy
  · exact h
/-- Cells of a row are stored. -/
theorem reRow_isRow {os : Nat → Option O} {o : Nat} {x y : O} {rows rows' : List (List D)} {m : Nat} {e : TypeId} (hx : os o = some x) (hr : rowAt (some x) = some (rows, m, e)) (hy : os o = some y) (h : y.isRow = false) : (reRow (os o) rows').isRow = false := by
  rw [hx] at hy ⊢
  cases hy
  cases x with
  | arr r k t => rfl
  | row r k t => cases h
  | box cs t => cases hr
  | raw K => cases hr
theorem row_back {os : Nat → Option O} {B : Nat → Prop} {w : World} {ρ : Nat → Value} {L : Nat → Prop} {o o' : Nat} {x : O} {rows rows' : List (List D)} {m : Nat} {e : TypeId} (hx : os o = some x) (hr : rowAt (some x) = some (rows, m, e)) (h : objOk B w ρ L o' (.row rows' m e)) : objOk B w ρ L o' (reRow (os o) rows') := by
  rw [hx]
  cases x with
  | arr r k t => cases hr; exact h
  | row r k t => cases hr; exact h
  | box cs t => cases hr
  | raw K => cases hr
theorem storeRow {C : Cx} (hT : TOK P C.T) (hg : Gam N w0 Pr X Z ρ st a w) {t : TypeId} {i : TI} (hi : C.T t = some i) {o m k j : Nat} {rows : List (List D)} {e : TypeId} (ho : rowAt (st.os o) = some (rows, m, e)) {ys : List D} {v : Value} {vs : List Value} (hv : v.cells = vs.toArray) (hy : ys.length = vs.length ∧ ∀ q (h : q < ys.length) (h2 : q < vs.length), Rd (Bk X st.os ρ w) w ys[q] vs[q])
    (hsz : ys.length = i.size) (hk : k < rows.length) (hle : j + ys.length ≤ m) {u : Value} (hu : G (Bk X st.os ρ w) w ρ (Lv st.os) (.rptr o m k j) u) :
    ∃ w', (Instr.storeAt t u v).run P w = .ok () w' ∧ Gam N w0 Pr X Z ρ { st with os := upd st.os o (some (reRow (st.os o) (rows.set k (putL (rows.getD k []) j ys)))) } a w' := by
  obtain ⟨jt, hj, hjs⟩ := size_facts hT hi
  have hget : rows.getD k [] = rows[k] := by rw [List.getD_eq_getElem?_getD, List.getElem?_eq_getElem hk]; rfl
  have h1 : ∀ z ∈ vs, z.oneCell' = true := fun z hz => by
    obtain ⟨q, hq, rfl⟩ := List.getElem_of_mem hz
    exact (hy.2 q (by omega) hq).one
  obtain ⟨ox, hox, hoxr⟩ := rowAt_some ho
  obtain ⟨xs, ⟨hxl, hsh⟩, hrm, hrow⟩ := row_own (hg.obj o ox hox) hoxr
  rcases hsh with ⟨e1, e2⟩ | ⟨b, cap, cur, e1, hb0, hblk, hc1, hc2, hcs, htk⟩
  · omega
  · have hb : blockOf (ρ o) = some b := by rw [e1]; rfl
    rw [G] at hu
    obtain ⟨_, b', hb', rfl⟩ := hu
    rw [hb] at hb'
    simp only [Option.some.injEq] at hb'
    subst hb'
    have hkm : k * m + m ≤ rows.length * m := by rw [← Nat.succ_mul]; exact Nat.mul_le_mul_right _ hk
    have hcm : rows.length * m ≤ cap * m := Nat.mul_le_mul_right _ hc1
    have hst := run_storeCells_at (P := P) b (k * m + j) e vs 0 cur w hblk (by omega) h1
    simp only [Nat.add_zero] at hst
    have hcl : (cur.toList.take (k * m + j) ++ vs ++ cur.toList.drop (k * m + j + vs.length)) = putL cur.toList (k * m + j) vs := rfl
    rw [hcl] at hst
    obtain ⟨s1, s2⟩ := heap_setRow w b (putL cur.toList (k * m + j) vs).toArray cur e hblk
    have hlc : cur.toList.length = cap * m := by rw [← hcs]; simp
    have hfit : k * m + j + vs.length ≤ cur.toList.length := by omega
    refine ⟨w.setRow b (putL cur.toList (k * m + j) vs).toArray, ?_, ?_⟩
    · have hszc : v.cells.size = jt.size := by rw [hv, hjs, ← hsz, hy.1]; simp
      simp [Instr.storeAt, Instr.sureAddr, storeVar, run_siz hj, hszc, hv, hst]
      rw [← hszc, hv]
      simp
    · refine hg.setObj o (by rw [hox]; simp) (by simp) (by simp) (by simp) (by simp) (fun b' hb' hne => s2 b' (fun e => hne (by rw [e]; exact hb))) _ (fun y h0 h1 => reRow_isRow hox hoxr h0 h1) (row_back hox hoxr ?_)
      have mono : ∀ (x : D) (z : Value), Rd (Bk X st.os ρ w) w x z → Rd (Bk X (upd st.os o (some (reRow (st.os o) (rows.set k (putL (rows.getD k []) j ys))))) ρ (w.setRow b (putL cur.toList (k * m + j) vs).toArray)) (w.setRow b (putL cur.toList (k * m + j) vs).toArray) x z := fun x z hx =>
        hx.mono (fun b' hb' => ⟨⟨by simpa using hb'.1.1, hb'.1.2⟩, fun o' ho' => hb'.2 o' (by
          by_cases q : o' = o
          · rw [q, hox]; simp
          · rw [upd_ne _ _ q] at ho'; exact ho')⟩) (fun b' hb' => s2 b' (fun e => hb'.2 o (by rw [hox]; simp) (by rw [e]; exact hb)))
      have hpl : (putL rows[k] j ys).length = m := by rw [putL_length _ _ _ (by rw [hrm k hk]; exact hle), hrm k hk]
      have hxp : (putL cur.toList (k * m + j) vs).take (rows.length * m) = putL xs (k * m + j) vs := by
        apply List.ext_getElem
        · rw [List.length_take, putL_length _ _ _ hfit, putL_length _ _ _ (by omega), hxl, hlc]; omega
        · intro q q1 q2
          rw [putL_length _ _ _ (by omega), hxl] at q2
          rw [List.getElem_take, putL_get _ _ _ hfit, putL_get _ _ _ (by omega)]
          by_cases hq : k * m + j ≤ q ∧ q < k * m + j + vs.length
          · rw [dif_pos hq, dif_pos hq]
          · rw [dif_neg hq, dif_neg hq]
            simp only [← htk, List.getElem_take]
      refine ⟨putL xs (k * m + j) vs, ⟨by rw [putL_length _ _ _ (by omega), List.length_set]; exact hxl, .inr ⟨b, cap, (putL cur.toList (k * m + j) vs).toArray, by rw [e1, List.length_set], hb0, s1, by rw [List.length_set]; exact hc1, hc2, by simp [putL_length _ _ _ hfit, hcs], by rw [List.length_set]; exact hxp⟩⟩, fun q hq => ?_, fun q hq c hc => ?_⟩
      · rw [List.getElem_set]
        split
        · rw [hget]; exact hpl
        · exact hrm _ _
      · rw [List.length_set] at hq
        by_cases hqk : k = q
        · subst hqk
          have er : (rows.set k (putL (rows.getD k []) j ys))[k] = putL rows[k] j ys := by rw [List.getElem_set_self, hget]
          have hcm' : c < m := by rw [er, hpl] at hc; exact hc
          have hlt : k * m + c < (putL xs (k * m + j) vs).length := by rw [putL_length _ _ _ (by omega), hxl]; omega
          refine ⟨(putL xs (k * m + j) vs)[k * m + c], List.getElem?_eq_getElem hlt, ?_⟩
          simp only [er]
          rw [putL_get _ _ _ (by rw [hrm k hk]; exact hle), putL_get _ _ _ (by omega)]
          by_cases hin : j ≤ c ∧ c < j + ys.length
          · rw [dif_pos hin, dif_pos (by omega)]
            have hidx : k * m + c - (k * m + j) = c - j := by omega
            simp only [hidx]
            exact mono _ _ (hy.2 _ _ _)
          · rw [dif_neg hin, dif_neg (by omega)]
            obtain ⟨z, hz, hr⟩ := hrow k hk c (by rw [hrm k hk]; exact hcm')
            obtain ⟨_, rfl⟩ := List.getElem?_eq_some_iff.1 hz
            exact mono _ _ hr
        · have er : (rows.set k (putL (rows.getD k []) j ys))[q]'(by rw [List.length_set]; exact hq) = rows[q] := List.getElem_set_ne hqk _
          have hc' : c < rows[q].length := by rw [er] at hc; exact hc
          obtain ⟨z, hz, hr⟩ := hrow q hq c hc'
          have hcm' : c < m := by rw [← hrm q hq]; exact hc'
          have hqm : q * m + m ≤ rows.length * m := by rw [← Nat.succ_mul]; exact Nat.mul_le_mul_right _ hq
          have hlt : q * m + c < (putL xs (k * m + j) vs).length := by rw [putL_length _ _ _ (by omega), hxl]; omega
          refine ⟨z, ?_, by simp only [er]; exact mono _ _ hr⟩
          rw [List.getElem?_eq_getElem hlt, putL_get _ _ _ (by omega), dif_neg, ← hz, List.getElem?_eq_getElem]
          rintro ⟨g1, g2⟩
          rcases Nat.lt_or_gt_of_ne hqk with g | g
          · have : k * m + m ≤ q * m := by rw [← Nat.succ_mul]; exact Nat.mul_le_mul_right _ g
            omega
          · have : q * m + m ≤ k * m := by rw [← Nat.succ_mul]; exact Nat.mul_le_mul_right _ g
            omega
end
end Go.Proofs.YtgnnakibcjonbaaGreatDoor.VE

/- The evaluator: calls of pure functions. -/
namespace Go.Proofs.YtgnnakibcjonbaaGreatDoor.VE
open Go Go.RowKit
set_option linter.unusedVariables false
set_option linter.unusedSimpArgs false
/-- A function of the program that can be entered. -/
def FnOk (P : Program) (f : FuncId) : Prop := ∃ fn, P.funcs[f]? = some fn ∧ (fn.name == "runtime.NumGoroutine") = false ∧ fn.body.isNone = false
/-- A pure function at arguments: what it returns reads as r; nothing that was there changes. -/
def PureOk (P : Program) (f : FuncId) (args : List V) (p : Prop) (r : V) : Prop :=
  ∀ (w : World) (B : Nat → Prop) (ρ : Nat → Value) (L : Nat → Prop) (vs : List Value), (∀ b, B b → b < w.heap.size) → GW w → (∀ o, (ρ o).oneCell' = true) → Gs B w ρ L args vs → p →
    Calls P f vs.toArray w fun e w' => ∃ v, e = .returned v ∧ More w w' ∧ G (fun b => B b ∨ (w.heap.size ≤ b ∧ b < w'.heap.size)) w' ρ L r v
/-- A function without a body that the model knows: the same. -/
def ExtOk (P : Program) (f : FuncId) (args : List V) (p : Prop) (r : V) : Prop :=
  ∀ (w : World) (B : Nat → Prop) (ρ : Nat → Value) (L : Nat → Prop) (vs : List Value), (∀ b, B b → b < w.heap.size) → GW w → (∀ o, (ρ o).oneCell' = true) → Gs B w ρ L args vs → p →
    ∃ v w', (callFunc f vs.toArray).run P w = .ok (.value v) w' ∧ More w w' ∧ G (fun b => B b ∨ (w.heap.size ≤ b ∧ b < w'.heap.size)) w' ρ L r v
/-- The same where the package-level variable has a value. -/
def ExtOkm (P : Program) (m : Int) (f : FuncId) (args : List V) (p : Prop) (r : V) : Prop :=
  ∀ (w : World) (B : Nat → Prop) (ρ : Nat → Value) (L : Nat → Prop) (vs : List Value), (∀ b, B b → b < w.heap.size) → GWm m w → (∀ o, (ρ o).oneCell' = true) → Gs B w ρ L args vs → p →
    ∃ v, (callFunc f vs.toArray).run P w = .ok (.value v) w ∧ G B w ρ L r v
def AnyOk (P : Program) (f : FuncId) (args : List V) (p : Prop) (r : V) : Prop := (FnOk P f ∧ PureOk P f args p r) ∨ ExtOk P f args p r
def GOk (P : Program) (Γ : FuncId → List V → Option (Prop × V)) : Prop := ∀ f args p r, Γ f args = some (p, r) → AnyOk P f args p r
def D.scal : D → Bool
  | .sl _ _ => false
  | _ => true
def V.scal1 : V → Bool
  | .d x => x.scal
  | _ => false
/-- Values without addresses. -/
def V.scal : V → Bool
  | .d x => x.scal
  | .tup cs => cs.all V.scal1
  | _ => false
theorem Rd.scal {B B' : Nat → Prop} {w w' : World} {x : D} {v : Value} (h : Rd B w x v) (hx : x.scal = true) : Rd B' w' x v := by
  cases x <;> simp [D.scal] at hx <;> (rw [Rd] at h ⊢; exact h)
theorem G.scal1 {B B' : Nat → Prop} {w w' : World} {ρ ρ' : Nat → Value} {L L' : Nat → Prop} {x : V} {v : Value} (h : G B w ρ L x v) (hx : x.scal1 = true) : G B' w' ρ' L' x v := by
  cases x <;> simp [V.scal1] at hx
  rw [G] at h ⊢
  exact h.scal hx
theorem G.scal {B B' : Nat → Prop} {w w' : World} {ρ ρ' : Nat → Value} {L L' : Nat → Prop} {x : V} {v : Value} (h : G B w ρ L x v) (hx : x.scal = true) : G B' w' ρ' L' x v := by
  cases x <;> simp only [V.scal, Bool.false_eq_true] at hx
  · rw [G] at h ⊢; exact h.scal hx
  · rw [G] at h ⊢
    obtain ⟨vs, e, hl, hv⟩ := h
    exact ⟨vs, e, hl, fun i h1 h2 => (hv i h1 h2).scal1 ((List.all_eq_true.1 hx) _ (List.getElem_mem _))⟩
/-- What a cell of a box holds, as data. -/
def cellD (os : Nat → Option O) : V → Option D
  | .d x => some x
  | .nil => some (.sl 0 [])
  | .row o => match os o with
    | some (.row rows m _) => some (.sl m rows)
    | _ => none
  | _ => none
def cellDs (os : Nat → Option O) : List V → Option (List D)
  | [] => some []
  | x :: r => match cellD os x, cellDs os r with
    | some y, some ys => some (y :: ys)
    | _, _ => none
def asD1 (os : Nat → Option O) : V → V
  | .row o => match os o with
    | some (.row rows m _) => .d (.sl m rows)
    | _ => .top
  | .ptr o c => match os o with
    | some (.box cs _) => match cellDs os cs with
      | some ds => .dptr (ds.drop c)
      | none => .top
    | _ => .top
  | .rptr _ _ _ _ => .top
  | .nil => .nil
  | .d x => .d x
  | .dptr cs => .dptr cs
  | _ => .top
/-- An argument as data: rows and boxes as they stand. -/
def asD (os : Nat → Option O) : V → V
  | .agg cs => .agg (cs.map (asD1 os))
  | .fnc f cs => .fnc f (cs.map (asD1 os))
  | v => asD1 os v
/-- The objects that pointers lead to are there. -/
def ptrOk1 (os : Nat → Option O) : V → Bool
  | .ptr o _ => (os o).isSome
  | _ => true
def ptrOk2 (os : Nat → Option O) : V → Bool
  | .agg cs => cs.all (ptrOk1 os)
  | .fnc _ cs => cs.all (ptrOk1 os)
  | v => ptrOk1 os v
def ptrOk (os : Nat → Option O) : V → Bool
  | .fnc _ cs => cs.all (ptrOk2 os)
  | v => ptrOk2 os v
def V.pure1 : V → Bool
  | .d _ | .nil | .dptr _ => true
  | _ => false
def V.pure : V → Bool
  | .agg cs | .fnc _ cs => cs.all V.pure1
  | v => v.pure1
section
variable {P : Program} {N : Nat} {w0 : World} {Pr X : Nat → Prop} {Z : Nat → Option Value} {ρ : Nat → Value} {st : St} {a : Act} {w : World}
theorem cellD_Rd (hg : Gam N w0 Pr X Z ρ st a w) {x : V} {v : Value} (h : G (Bk X st.os ρ w) w ρ (Lv st.os) x v) {y : D} (hy : cellD st.os x = some y) : Rd (fun b => b < w.heap.size) w y v := by
  unfold cellD at hy
  split at hy
  · simp only [Option.some.injEq] at hy
    subst hy
    rw [G] at h
    exact h.mono (fun b hb => hb.1.1) (fun _ _ => rfl)
  · simp only [Option.some.injEq] at hy
    subst hy
    exact (toD_Rd h rfl).mono (fun b hb => hb.1.1) (fun _ _ => rfl)
  · rename_i o
    split at hy
    · rename_i rows m e ho
      simp only [Option.some.injEq] at hy
      subst hy
      rw [G] at h
      rw [h.2]
      exact row_Rd (hg.obj o _ ho) (fun b hb => hb.1.1) (fun b hb => (hg.obj o _ ho).lt hb)
    · simp at hy
  · simp at hy
theorem cellDs_get {os : Nat → Option O} : ∀ {cs : List V} {ds : List D}, cellDs os cs = some ds → ds.length = cs.length ∧ ∀ i (h : i < ds.length) (h2 : i < cs.length), cellD os cs[i] = some ds[i]
  | [], ds, h => by simp only [cellDs, Option.some.injEq] at h; subst h; exact ⟨rfl, fun i h => by simp at h⟩
  | x :: r, ds, h => by
    simp only [cellDs] at h
    split at h
    · rename_i y ys hy hys
      simp only [Option.some.injEq] at h
      subst h
      have ih := cellDs_get hys
      refine ⟨by simp [ih.1], fun i h1 h2 => ?_⟩
      match i with
      | 0 => exact hy
      | i + 1 => exact ih.2 i (by simpa using h1) (by simpa using h2)
    · simp at h
theorem asD1_G (hg : Gam N w0 Pr X Z ρ st a w) {x : V} {v : Value} (h : G (Bk X st.os ρ w) w ρ (Lv st.os) x v) : G (fun b => b < w.heap.size) w ρ (Lv st.os) (asD1 st.os x) v := by
  have mono : ∀ y, G (Bk X st.os ρ w) w ρ (Lv st.os) y v → G (fun b => b < w.heap.size) w ρ (Lv st.os) y v := fun y hy => hy.mono (fun b hb => hb.1.1) (fun _ _ => rfl) (fun _ h => h) (fun _ _ => rfl)
  have top : G (fun b => b < w.heap.size) w ρ (Lv st.os) .top v := by rw [G]; trivial
  unfold asD1
  split
  · rename_i o
    split
    · rename_i rows m e ho
      rw [G]
      exact cellD_Rd hg h (by simp [cellD, ho])
    · exact top
  · rename_i o c
    split
    · rename_i cs e ho
      split
      · rename_i ds hds
        obtain ⟨b, e1, hb, hc⟩ := box_cells (hg.obj o _ ho)
        rw [G] at h
        obtain ⟨_, b', hb', rfl⟩ := h
        rw [hb] at hb'
        simp only [Option.some.injEq] at hb'
        subst hb'
        obtain ⟨hl, hget⟩ := cellDs_get hds
        rw [G]
        refine ⟨b, c, rfl, (hg.obj o _ ho).lt hb, fun j hj => ?_⟩
        rw [List.length_drop] at hj
        obtain ⟨u, h1, _, h2⟩ := hc (c + j) (by omega)
        refine ⟨u, h1, ?_⟩
        rw [List.getElem_drop]
        exact cellD_Rd hg h2 (hget _ _ _)
      · exact top
    · exact top
  · exact top
  · exact mono _ h
  · exact mono _ h
  · exact mono _ h
  · exact top
theorem asD_G (hg : Gam N w0 Pr X Z ρ st a w) {x : V} {v : Value} (h : G (Bk X st.os ρ w) w ρ (Lv st.os) x v) : G (fun b => b < w.heap.size) w ρ (Lv st.os) (asD st.os x) v := by
  unfold asD
  split
  · rw [G] at h ⊢
    obtain ⟨vs, e, hl, hv⟩ := h
    exact ⟨vs, e, by simpa using hl, fun i h1 h2 => by rw [List.getElem_map]; exact asD1_G hg (hv i (by simpa using h1) h2)⟩
  · rw [G] at h ⊢
    obtain ⟨vs, e, hl, hv⟩ := h
    exact ⟨vs, e, by simpa using hl, fun i h1 h2 => by rw [List.getElem_map]; exact asD1_G hg (hv i (by simpa using h1) h2)⟩
  · exact asD1_G hg h
theorem asD_pure1 {os : Nat → Option O} {x : V} (h : x.pure1 = true) : asD1 os x = x := by cases x <;> simp [V.pure1] at h <;> rfl
/-- A call of a pure function: its value, and the world behind it. -/
theorem call_run {C : Cx} (hΓ : GOk P C.Γ) (hg : Gam N w0 Pr X Z ρ st a w) {f : FuncId} {args : List V} {vs : List Value} (ha : Gs (Bk X st.os ρ w) w ρ (Lv st.os) args vs) {p : Prop} {r : V} (hp : p)
    (h : (C.Γ f args = some (p, r)) ∨ (C.Γ f (args.map (asD st.os)) = some (p, r) ∧ r.scal = true)) :
    (FnOk P f ∧ Calls P f vs.toArray w fun e w' => ∃ v, e = .returned v ∧ More w w' ∧ G (Bk X st.os ρ w') w' ρ (Lv st.os) r v) ∨
      ∃ v w', (callFunc f vs.toArray).run P w = .ok (.value v) w' ∧ More w w' ∧ G (Bk X st.os ρ w') w' ρ (Lv st.os) r v := by
  have newB : ∀ w', More w w' → ∀ b, (Bk X st.os ρ w b ∨ (w.heap.size ≤ b ∧ b < w'.heap.size)) → Bk X st.os ρ w' b := fun w' hm b hb => by
    rcases hb with hb | hb
    · exact hb.more hm
    · refine ⟨⟨hb.2, hg.hX _ (Nat.le_trans hg.grow hb.1)⟩, fun o ho e => ?_⟩
      obtain ⟨x, hx⟩ := Option.ne_none_iff_exists'.1 ho
      have := (hg.obj o x hx).lt e
      omega
  rcases h with h | ⟨h, hs⟩
  · rcases hΓ f args p r h with ⟨h1, h2⟩ | h2
    · refine .inl ⟨h1, (h2 w (Bk X st.os ρ w) ρ (Lv st.os) vs (fun b hb => hb.1.1) hg.gw hg.one ha hp).mono ?_⟩
      rintro e w' ⟨v, he, hm, hr⟩
      exact ⟨v, he, hm, hr.mono (newB w' hm) (fun _ _ => rfl) (fun _ h => h) (fun _ _ => rfl)⟩
    · obtain ⟨v, w', he, hm, hr⟩ := h2 w (Bk X st.os ρ w) ρ (Lv st.os) vs (fun b hb => hb.1.1) hg.gw hg.one ha hp
      exact .inr ⟨v, w', he, hm, hr.mono (newB w' hm) (fun _ _ => rfl) (fun _ h => h) (fun _ _ => rfl)⟩
  · have ha2 : Gs (fun b => b < w.heap.size) w ρ (Lv st.os) (args.map (asD st.os)) vs := ⟨by simpa using ha.1, fun i g1 g2 => by rw [List.getElem_map]; exact asD_G hg (ha.2 i (by simpa using g1) g2)⟩
    rcases hΓ f _ p r h with ⟨h1, h2⟩ | h2
    · refine .inl ⟨h1, (h2 w (fun b => b < w.heap.size) ρ (Lv st.os) vs (fun b hb => hb) hg.gw hg.one ha2 hp).mono ?_⟩
      rintro e w' ⟨v, he, hm, hr⟩
      exact ⟨v, he, hm, hr.scal hs⟩
    · obtain ⟨v, w', he, hm, hr⟩ := h2 w (fun b => b < w.heap.size) ρ (Lv st.os) vs (fun b hb => hb) hg.gw hg.one ha2 hp
      exact .inr ⟨v, w', he, hm, hr.scal hs⟩
end
end Go.Proofs.YtgnnakibcjonbaaGreatDoor.VE

/- The evaluator: iterators over strings, maps of simple keys and values. -/
namespace Go.Proofs.YtgnnakibcjonbaaGreatDoor.VE
open Go Go.RowKit
set_option linter.unusedVariables false
set_option linter.unusedSimpArgs false
def eqD : D → D → Option Bool
  | .int k a, .int k' b => if k = k' then some (a == b) else none
  | .str a, .str b => some (a == b)
  | .bool a, .bool b => some (a == b)
  | _, _ => none
/-- Where a key stands: none if keys are of several kinds. -/
def mapAt (k : D) : List (D × D) → Nat → Option (Option (Nat × D))
  | [], _ => some none
  | q :: r, i => match eqD k q.1 with
    | some true => some (some (i, q.2))
    | some false => mapAt k r (i + 1)
    | none => none
def mapPut (k v : D) (kv : List (D × D)) : Option (Nat × D) → List (D × D)
  | some (i, _) => kv.set i (k, v)
  | none => kv ++ [(k, v)]
def keyKind (C : Cx) (kt : TypeId) (k : D) : Bool :=
  match (C.T kt).map (·.kind), k with
  | some (TK.int k), .int k' _ => decide (k = k')
  | some TK.str, .str _ => true
  | some TK.bool, .bool _ => true
  | _, _ => false
def rangeV (C : Cx) (st : St) (d : Nat) (t : TypeId) (x : V) : Option (Prop × V × St) :=
  match (C.T t).map (·.kind), x with
  | some TK.str, .d (.str s) => some (True, .row d, { fresh st d with os := upd (fresh st d).os d (some (.raw (.iter s 0))) })
  | _, _ => none
def nextV (st : St) (x : V) : Option (Prop × V × St) :=
  match x with
  | .row o => match st.os o with
    | some (.raw (.iter s pos)) =>
      if pos < s.size then some (True, .tup [.d (.bool true), .d (.int .i64 pos), .d (.int .i32 (Utf8.decode s pos).1)], { st with os := upd st.os o (some (.raw (.iter s (pos + (Utf8.decode s pos).2)))) })
      else some (True, .tup [.d (.bool false)], st)
    | _ => none
  | _ => none
def mapUpV (C : Cx) (st : St) (t : TypeId) (m k v : V) : Option (Prop × V × St) :=
  match (C.T t).map (·.kind), m, k, v with
  | some (TK.map kt _), .row o, .d kd, .d vd => match st.os o with
    | some (.raw (.map kv)) => if keyKind C kt kd && vd.simple then (match mapAt kd kv 0 with
      | some r => some (True, .top, { st with os := upd st.os o (some (.raw (.map (mapPut kd vd kv r)))) })
      | none => none) else none
    | _ => none
  | _, _, _, _ => none
def lookV (C : Cx) (os : Nat → Option O) (t : TypeId) (m k : V) (commaOk : Bool) : Option (Prop × V) :=
  match (C.T t).map (·.kind), m, k with
  | some (TK.map kt et), .row o, .d kd => match os o, C.T et with
    | some (.raw (.map kv)), some ei => match keyKind C kt kd, mapAt kd kv 0, ei.agg, ei.size, ei.zero with
      | true, some r, false, 1, [z] => some (True, match r with
        | some (_, x) => if commaOk then .tup [.d x, .d (.bool true)] else .d x
        | none => if commaOk then .tup [z, .d (.bool false)] else z)
      | _, _, _, _, _ => none
    | _, _ => none
  | _, _, _ => none
section
variable {P : Program} {N : Nat} {w0 : World} {Pr X : Nat → Prop} {Z : Nat → Option Value} {ρ : Nat → Value} {st : St} {a : Act} {w : World}
/-- A new iterator or map. -/
theorem newRaw (hg : Gam N w0 Pr X Z ρ st a w) (t : Nat) (ht : st.os t = none) (htl : t < 100000) (K : Raw) (x : Obj) (v : Value) (hv : blockOf v = some w.heap.size) (h1 : v.oneCell' = true) (hK : rawOk K v x) :
    Out N w0 Pr X Z { st with os := upd st.os t (some (.raw K)) } a (.row t) v (w.alloc x) := by
  have hm : More w (w.alloc x) := ⟨by simp, fun b hb => Below.heap_alloc _ _ _ hb, rfl, rfl, rfl⟩
  refine ⟨upd ρ t v, hg.newObj hm t ht htl v _ h1 (fun b e => ?_) ⟨w.heap.size, x, by rw [upd_same]; exact hv, heap_alloc_new w _, by rw [upd_same]; exact hK⟩, ?_⟩
  · rw [hv] at e
    simp only [Option.some.injEq] at e
    omega
  · rw [G]
    exact ⟨by simp [Lv, upd_same], (upd_same _ _ _).symm⟩
/-- An iterator or a map is changed. -/
theorem setRaw (hg : Gam N w0 Pr X Z ρ st a w) {o : Nat} {K K' : Raw} (ho : st.os o = some (.raw K)) {b : Nat} (hb : blockOf (ρ o) = some b) {x y : Obj} (hx : w.heap[b]? = some x) (hK : rawOk K' (ρ o) y) :
    Gam N w0 Pr X Z ρ { st with os := upd st.os o (some (.raw K')) } a { w with heap := w.heap.setIfInBounds b y } := by
  obtain ⟨s1, s2⟩ := MapKept.heap_set (o' := y) hx
  exact hg.setObj (w' := { w with heap := w.heap.setIfInBounds b y }) o (by rw [ho]; simp) (by simp) rfl rfl rfl (fun b' hb' hne => s2 b' fun e => hne (by rw [e]; exact hb)) (.raw K') (fun y h0 h1 => rfl) ⟨b, y, hb, s1, hK⟩
theorem raw_at (hg : Gam N w0 Pr X Z ρ st a w) {o : Nat} {K : Raw} (ho : st.os o = some (.raw K)) {v : Value} (hv : G (Bk X st.os ρ w) w ρ (Lv st.os) (.row o) v) : v = ρ o ∧ ∃ b x, blockOf (ρ o) = some b ∧ w.heap[b]? = some x ∧ rawOk K (ρ o) x := by
  rw [G] at hv
  exact ⟨hv.2, hg.obj o _ ho⟩
theorem kind_str {C : Cx} (hT : TOK P C.T) {t : TypeId} (h : (C.T t).map (·.kind) = some TK.str) : P.underlying t = some .string := by
  obtain ⟨i, hi, hk⟩ := Option.map_eq_some_iff.1 h
  exact str_facts hT hi hk
theorem kind_map {C : Cx} (hT : TOK P C.T) {t kt et : TypeId} (h : (C.T t).map (·.kind) = some (TK.map kt et)) : P.underlying t = some (.map kt et) := by
  obtain ⟨i, hi, hk⟩ := Option.map_eq_some_iff.1 h
  obtain ⟨j, d, z, _, hd, _, _, _, hok, _⟩ := hT.facts hi
  rw [hk] at hok
  cases d <;> simp [TK.ok] at hok
  rw [hd, hok.1, hok.2]
/-- A key's type, and what it is to the model. -/
theorem key_facts {C : Cx} (hT : TOK P C.T) {kt : TypeId} {k : D} (h : keyKind C kt k = true) : ∃ d, P.underlying kt = some d ∧ MapKept.IsKey d k.toV ∧ k.simple = true ∧ ∀ q b, eqD k q = some b → Instr.sameNow d k.toV q.toV = some b := by
  unfold keyKind at h
  split at h
  · rename_i kk ik n hk
    obtain ⟨i, hi, hk⟩ := Option.map_eq_some_iff.1 hk
    have hd := int_facts hT hi hk
    rw [decide_eq_true_eq] at h
    refine ⟨_, hd, by simp [MapKept.IsKey, D.toV, h], rfl, fun q b e => ?_⟩
    cases q <;> simp only [eqD, reduceCtorEq] at e
    simp only [D.toV, Instr.sameNow]
    exact e
  · rename_i s hk
    have hd := kind_str hT hk
    refine ⟨_, hd, by simp [MapKept.IsKey, D.toV], rfl, fun q b e => ?_⟩
    cases q <;> simp only [eqD, reduceCtorEq] at e
    simp only [D.toV, Instr.sameNow]
    exact e
  · rename_i s hk
    obtain ⟨i, hi, hk⟩ := Option.map_eq_some_iff.1 hk
    obtain ⟨j, d, z, _, hd, _, _, _, hok, _⟩ := hT.facts hi
    rw [hk] at hok
    have hdb : d = .bool := by cases d <;> simp [TK.ok] at hok ⊢
    subst hdb
    refine ⟨_, hd, by simp [MapKept.IsKey, D.toV], rfl, fun q b e => ?_⟩
    cases q <;> simp only [eqD, reduceCtorEq] at e
    simp only [D.toV, Instr.sameNow]
    exact e
  · cases h
theorem eqD_true {k q : D} (h : eqD k q = some true) : q = k := by
  cases k <;> cases q <;> simp only [eqD, reduceCtorEq] at h
  · split at h
    · rename_i e
      simp only [Option.some.injEq, beq_iff_eq] at h
      rw [e, h]
    · cases h
  · simp only [Option.some.injEq, beq_iff_eq] at h
    rw [h]
  · simp only [Option.some.injEq] at h
    rw [(MapKept.bytes_beq _ _).1 h]
theorem mapAt_run {k : D} {d : TypeDesc} (hd : ∀ q b, eqD k q = some b → Instr.sameNow d k.toV q.toV = some b) : ∀ (kv : List (D × D)) (es : List MapEntry) (i : Nat) (r : Option (Nat × D)), es.map (fun e => (e.key, e.val)) = kv.map (fun q => (q.1.toV, q.2.toV)) → mapAt k kv i = some r →
    Instr.findNow d k.toV es i = some (r.map fun q => (q.1, q.2.toV)) ∧ ∀ j x, r = some (j, x) → i ≤ j ∧ kv[j - i]? = some (k, x)
  | [], es, i, r, he, h => by
    cases es with
    | cons e es => simp at he
    | nil =>
      simp only [mapAt, Option.some.injEq] at h
      subst h
      exact ⟨rfl, fun j x h => by cases h⟩
  | q :: kv, es, i, r, he, h => by
    cases es with
    | nil => simp at he
    | cons e es =>
      simp only [List.map_cons, List.cons.injEq, Prod.mk.injEq] at he
      obtain ⟨⟨e1, e2⟩, e3⟩ := he
      unfold mapAt at h
      split at h
      · rename_i hq
        simp only [Option.some.injEq] at h
        subst h
        refine ⟨by simp only [Instr.findNow, e1, hd _ _ hq, e2, Option.map_some], fun j x h => ?_⟩
        simp only [Option.some.injEq, Prod.mk.injEq] at h
        obtain ⟨rfl, rfl⟩ := h
        refine ⟨Nat.le_refl _, ?_⟩
        rw [Nat.sub_self, List.getElem?_cons_zero, ← eqD_true hq]
      · rename_i hq
        obtain ⟨g1, g2⟩ := mapAt_run hd kv es (i + 1) r e3 h
        refine ⟨by simp only [Instr.findNow, e1, hd _ _ hq]; exact g1, fun j x hj => ?_⟩
        obtain ⟨g3, g4⟩ := g2 j x hj
        refine ⟨by omega, ?_⟩
        rw [show j - i = (j - (i + 1)) + 1 by omega, List.getElem?_cons_succ]
        exact g4
      · cases h
theorem simple_Rd {x : D} (hx : x.simple = true) {B : Nat → Prop} {w : World} {v : Value} : Rd B w x v ↔ v = x.toV := by
  cases x <;> simp [D.simple] at hx <;> (rw [Rd]; rfl)
theorem rangeV_run {C : Cx} (hT : TOK P C.T) (hg : Gam N w0 Pr X Z ρ st a w) {d : Nat} (hdl : d < 100000) {t : TypeId} {x : V} {p : Prop} {r : V} {st' : St} (h : rangeV C st d t x = some (p, r, st')) {u : Value} (hu : G (Bk X st.os ρ w) w ρ (Lv st.os) x u) :
    ∃ z w', (Instr.range t u).run P w = .ok z w' ∧ Out N w0 Pr X Z st' a r z w' := by
  unfold rangeV at h
  split at h
  · rename_i s hk
    simp only [Option.some.injEq, Prod.mk.injEq] at h
    obtain ⟨rfl, rfl, rfl⟩ := h
    rw [Rd.str hu]
    obtain ⟨hgf, hdf⟩ := hg.fresh d hdl
    exact ⟨_, _, run_range_string w t s (kind_str hT hk), newRaw hgf d hdf hdl (.iter s 0) (.stringIter s 0) _ rfl rfl ⟨⟨_, rfl⟩, rfl⟩⟩
  · cases h
theorem nextV_run (hg : Gam N w0 Pr X Z ρ st a w) {x : V} {p : Prop} {r : V} {st' : St} (h : nextV st x = some (p, r, st')) (ty : TypeId) {u : Value} (hu : G (Bk X st.os ρ w) w ρ (Lv st.os) x u) :
    ∃ z w', (Instr.next u true ty).run P w = .ok z w' ∧ Out N w0 Pr X Z st' a r z w' := by
  unfold nextV at h
  split at h
  · rename_i o
    split at h
    · rename_i s pos ho
      obtain ⟨rfl, b, y, hb, hy, ⟨b', hρ⟩, rfl⟩ := raw_at hg ho hu
      rw [hρ] at hb
      simp only [blockOf, Option.some.injEq] at hb
      subst hb
      split at h
      · rename_i hp
        simp only [Option.some.injEq, Prod.mk.injEq] at h
        obtain ⟨rfl, rfl, rfl⟩ := h
        have hset := setRaw hg ho (K' := .iter s (pos + (Utf8.decode s pos).2)) (by rw [hρ]; rfl) hy (y := .stringIter s (pos + (Utf8.decode s pos).2)) ⟨⟨b', hρ⟩, rfl⟩
        refine ⟨.tuple #[.bool true, .int .i64 pos, .int .i32 (Utf8.decode s pos).1], _, ?_, ρ, hset, ?_⟩
        · rw [hρ]
          simp [Instr.next, getObj, setObj, Sem.run, hy, hp, goInt, Result.andThen]
        · rw [G]
          refine ⟨[.bool true, .int .i64 pos, .int .i32 (Utf8.decode s pos).1], rfl, rfl, fun i h1 h2 => ?_⟩
          match i with
          | 0 => simp only [List.getElem_cons_zero]; rw [G, Rd]
          | 1 => simp only [List.getElem_cons_succ, List.getElem_cons_zero]; rw [G, Rd]
          | 2 => simp only [List.getElem_cons_succ, List.getElem_cons_zero]; rw [G, Rd]
      · rename_i hp
        simp only [Option.some.injEq, Prod.mk.injEq] at h
        obtain ⟨rfl, rfl, rfl⟩ := h
        refine ⟨.tuple #[.bool false], w, ?_, ρ, hg, ?_⟩
        · rw [hρ]
          simp [Instr.next, getObj, Sem.run, hy, hp, Result.andThen]
        · rw [G]
          refine ⟨[.bool false], rfl, rfl, fun i h1 h2 => ?_⟩
          match i with
          | 0 => simp only [List.getElem_cons_zero]; rw [G, Rd]
    · cases h
  · cases h
theorem lookV_run {C : Cx} (hT : TOK P C.T) (hg : Gam N w0 Pr X Z ρ st a w) {t : TypeId} {m k : V} {commaOk : Bool} {p : Prop} {r : V} (h : lookV C st.os t m k commaOk = some (p, r)) {u v : Value} (hu : G (Bk X st.os ρ w) w ρ (Lv st.os) m u) (hv : G (Bk X st.os ρ w) w ρ (Lv st.os) k v) :
    ∃ z, (Instr.lookup t u v commaOk).run P w = .ok z w ∧ G (Bk X st.os ρ w) w ρ (Lv st.os) r z := by
  unfold lookV at h
  split at h
  · rename_i kt et o kd hk
    split at h
    · rename_i kv ei ho hei
      split at h
      · rename_i kk r' z hkk hat hag hsz hz
        simp only [Option.some.injEq, Prod.mk.injEq] at h
        obtain ⟨rfl, rfl⟩ := h
        obtain ⟨rfl, b, y, hb, hy, ⟨b', hρ⟩, es, clock, rfl, hes, hall⟩ := raw_at hg ho hu
        rw [hρ] at hb
        simp only [blockOf, Option.some.injEq] at hb
        subst hb
        obtain ⟨d, hd, hkey, hsim, hsame⟩ := key_facts hT hkk
        have hkv : v = kd.toV := by rw [G] at hv; exact (simple_Rd hsim).1 hv
        subst hkv
        obtain ⟨f1, f2⟩ := mapAt_run hsame kv es.toList 0 _ hes hat
        have hck := MapKept.run_checkKey (P := P) (w := w) hd hkey es.isEmpty 9999
        rw [hρ]
        cases r' with
        | some q =>
          obtain ⟨j, x⟩ := q
          simp only [Option.map_some] at f1
          have hx : x.simple = true := by
            have := (f2 j x rfl).2
            have hm := List.all_eq_true.1 hall _ (List.mem_of_getElem? this)
            simp only [Bool.and_eq_true] at hm
            exact hm.2
          have hGx : ∀ w, G (Bk X st.os ρ w) w ρ (Lv st.os) (.d x) x.toV := fun w => by rw [G]; exact (simple_Rd hx).2 rfl
          refine ⟨if commaOk then .tuple #[x.toV, .bool true] else x.toV, ?_, ?_⟩
          · simp [Instr.lookup, run_und (kind_map hT hk), MapKept.run_getObj_map hy, Result.andThen, MapKept.run_findKey hd f1]
            have hck' := hck
            simp at hck'
            simp [hck', Result.andThen, MapKept.run_findKey hd f1]
          · simp only
            cases commaOk with
            | false => exact hGx w
            | true =>
              simp only [if_true]
              rw [G]
              refine ⟨[x.toV, .bool true], rfl, rfl, fun i h1 h2 => ?_⟩
              match i with
              | 0 => exact hGx w
              | 1 => simp only [List.getElem_cons_succ, List.getElem_cons_zero]; rw [G, Rd]
        | none =>
          simp only [Option.map_none] at f1
          obtain ⟨jt, z0, hj, hz0, hlit⟩ := hT.zero1 hei hag hz
          have hG := G.lit (B := Bk X st.os ρ w) (w := w) (ρ := ρ) (L := Lv st.os) hlit
          refine ⟨if commaOk then .tuple #[z0, .bool false] else z0, ?_, ?_⟩
          · simp [Instr.lookup, run_und (kind_map hT hk), MapKept.run_getObj_map hy, Result.andThen, MapKept.run_findKey hd f1]
            have hck' := hck
            simp at hck'
            simp [hck', Result.andThen, MapKept.run_findKey hd f1, zeroValue, run_inf hj, hz0]
          · simp only
            cases commaOk with
            | false => exact hG
            | true =>
              simp only [if_true]
              rw [G]
              refine ⟨[z0, .bool false], rfl, rfl, fun i h1 h2 => ?_⟩
              match i with
              | 0 => exact hG
              | 1 => simp only [List.getElem_cons_succ, List.getElem_cons_zero]; rw [G, Rd]
      · cases h
    · cases h
  · cases h
theorem mapUpV_run {C : Cx} (hT : TOK P C.T) (hg : Gam N w0 Pr X Z ρ st a w) {t : TypeId} {m k y : V} {p : Prop} {r : V} {st' : St} (h : mapUpV C st t m k y = some (p, r, st')) {u v z : Value} (hu : G (Bk X st.os ρ w) w ρ (Lv st.os) m u) (hv : G (Bk X st.os ρ w) w ρ (Lv st.os) k v) (hz : G (Bk X st.os ρ w) w ρ (Lv st.os) y z) :
    r = .top ∧ ∃ w', (Instr.mapUpdate t u v z).run P w = .ok () w' ∧ Gam N w0 Pr X Z ρ st' a w' := by
  unfold mapUpV at h
  split at h
  · rename_i kt et o kd vd hk
    split at h
    · rename_i kv ho
      split at h
      · rename_i hc
        rw [Bool.and_eq_true] at hc
        split at h
        · rename_i r' hat
          simp only [Option.some.injEq, Prod.mk.injEq] at h
          obtain ⟨rfl, rfl, rfl⟩ := h
          refine ⟨rfl, ?_⟩
          obtain ⟨rfl, b, q, hb, hy, ⟨b', hρ⟩, es, clock, rfl, hes, hall⟩ := raw_at hg ho hu
          rw [hρ] at hb
          simp only [blockOf, Option.some.injEq] at hb
          subst hb
          obtain ⟨d, hd, hkey, hsim, hsame⟩ := key_facts hT hc.1
          have hkv : v = kd.toV := by rw [G] at hv; exact (simple_Rd hsim).1 hv
          have hzv : z = vd.toV := by rw [G] at hz; exact (simple_Rd hc.2).1 hz
          subst hkv hzv
          obtain ⟨f1, f2⟩ := mapAt_run hsame kv es.toList 0 _ hes hat
          have hck := MapKept.run_checkKey (P := P) (w := w) hd hkey false 9999
          rw [hρ]
          cases r' with
          | none =>
            simp only [Option.map_none] at f1
            refine ⟨_, ?_, setRaw hg ho (by rw [hρ]; rfl) hy (K' := .map (mapPut kd vd kv none)) (y := .map (es.push { key := kd.toV, val := vd.toV, born := clock }) (clock + 1)) ⟨⟨b', hρ⟩, _, _, rfl, ?_, ?_⟩⟩
            · simp [Instr.mapUpdate, run_und (kind_map hT hk), MapKept.run_getObj_map hy, Result.andThen, hck, MapKept.run_findKey hd f1, MapKept.run_setObj_map _ hy]
            · simp [mapPut, hes]
            · simp [mapPut, List.all_append, hall, hsim, hc.2]
          | some q =>
            obtain ⟨j, x⟩ := q
            simp only [Option.map_some] at f1
            have hj := (f2 j x rfl).2
            rw [Nat.sub_zero] at hj
            have hjl : j < kv.length := (List.getElem?_eq_some_iff.1 hj).1
            have hlen : es.toList.length = kv.length := by have := congrArg List.length hes; simpa using this
            have hje : j < es.size := by simpa [← hlen] using hjl
            have hkj : es[j].key = kd.toV := by
              have := congrArg (fun l => l[j]?) hes
              simp [hj, hje] at this
              exact this.1
            have hst : (Instr.keyThatStays kd.toV kd.toV).run P w = .ok kd.toV w := MapKept.run_keyThatStays hkey
            refine ⟨_, ?_, setRaw hg ho (by rw [hρ]; rfl) hy (K' := .map (mapPut kd vd kv (some (j, x)))) (y := .map (es.modify j fun e => { e with key := kd.toV, val := vd.toV }) clock) ⟨⟨b', hρ⟩, _, _, rfl, ?_, ?_⟩⟩
            · simp [Instr.mapUpdate, run_und (kind_map hT hk), MapKept.run_getObj_map hy, Result.andThen, hck, MapKept.run_findKey hd f1, MapKept.run_setObj_map _ hy, hje, hkj, hst]
            · apply List.ext_getElem?
              intro q
              have hq := congrArg (fun l => l[q]?) hes
              simp only [List.getElem?_map, Array.getElem?_toList, mapPut] at hq ⊢
              rw [List.getElem?_set]
              by_cases c : j = q
              · subst c
                simp [hje, hjl, Array.getElem_modify]
              · simp [c, Array.getElem?_modify]
                simpa using hq
            · simp only [mapPut]
              rw [List.all_eq_true]
              intro q hq
              rcases List.mem_or_eq_of_mem_set hq with hq | rfl
              · exact List.all_eq_true.1 hall q hq
              · simp [hsim, hc.2]
        · cases h
      · cases h
    · cases h
  · cases h
end
end Go.Proofs.YtgnnakibcjonbaaGreatDoor.VE

/- The evaluator's memory: several objects changed at once, as a call of a method does it. -/
namespace Go.Proofs.YtgnnakibcjonbaaGreatDoor.VE
open Go Go.RowKit
set_option linter.unusedVariables false
set_option linter.unusedSimpArgs false
mutual
/-- What mentions an object of S is forgotten. -/
def V.killS (S : Nat → Bool) : V → V
  | .ptr o c => if S o then .top else .ptr o c
  | .row o => if S o then .top else .row o
  | .rptr o m i j => if S o then .top else .rptr o m i j
  | .agg cs => .agg (V.killSs S cs)
  | .tup cs => .tup (V.killSs S cs)
  | .fnc f cs => .fnc f (V.killSs S cs)
  | .whn b x => .whn b (x.killS S)
  | v => v
def V.killSs (S : Nat → Bool) : List V → List V
  | [] => []
  | y :: r => V.killS S y :: V.killSs S r
end
theorem V.killSs_eq (S : Nat → Bool) : ∀ cs : List V, V.killSs S cs = cs.map (V.killS S)
  | [] => rfl
  | y :: r => by rw [V.killSs, V.killSs_eq S r]; rfl
def O.killS (S : Nat → Bool) : O → O
  | .box cs e => .box (cs.map (V.killS S)) e
  | x => x
theorem G.killS {B : Nat → Prop} {w : World} {ρ ρ' : Nat → Value} {L L' : Nat → Prop} (S : Nat → Bool) (hρ : ∀ o, S o = false → L o → ρ' o = ρ o) (hL : ∀ o, S o = false → L o → L' o) : ∀ (x : V) (v : Value), G B w ρ L x v → G B w ρ' L' (x.killS S) v
  | .d x, v, h => by simp only [V.killS, V.killSs_eq]; rw [G] at h ⊢; exact h
  | .nil, v, h => by simp only [V.killS, V.killSs_eq]; rw [G] at h ⊢; exact h
  | .ptr o c, v, h => by
    simp only [V.killS, V.killSs_eq]
    split
    · rw [G]; trivial
    · rename_i hne
      have hne : S o = false := by simpa using hne
      rw [G] at h ⊢; rw [hρ o hne h.1]; exact ⟨hL o hne h.1, h.2⟩
  | .row o, v, h => by
    simp only [V.killS, V.killSs_eq]
    split
    · rw [G]; trivial
    · rename_i hne
      have hne : S o = false := by simpa using hne
      rw [G] at h ⊢; rw [hρ o hne h.1]; exact ⟨hL o hne h.1, h.2⟩
  | .rptr o m i j, v, h => by
    simp only [V.killS, V.killSs_eq]
    split
    · rw [G]; trivial
    · rename_i hne
      have hne : S o = false := by simpa using hne
      rw [G] at h ⊢; rw [hρ o hne h.1]; exact ⟨hL o hne h.1, h.2⟩
  | .dptr cs, v, h => by simp only [V.killS, V.killSs_eq]; rw [G] at h ⊢; exact h
  | .agg cs, v, h => by
    simp only [V.killS, V.killSs_eq]
    rw [G] at h ⊢
    obtain ⟨vs, e, hl, hv⟩ := h
    exact ⟨vs, e, by simpa using hl, fun i h h2 => by rw [List.getElem_map]; exact G.killS S hρ hL _ _ (hv i (by simpa using h) h2)⟩
  | .tup cs, v, h => by
    simp only [V.killS, V.killSs_eq]
    rw [G] at h ⊢
    obtain ⟨vs, e, hl, hv⟩ := h
    exact ⟨vs, e, by simpa using hl, fun i h h2 => by rw [List.getElem_map]; exact G.killS S hρ hL _ _ (hv i (by simpa using h) h2)⟩
  | .fnc f cs, v, h => by
    simp only [V.killS, V.killSs_eq]
    rw [G] at h ⊢
    obtain ⟨vs, e, hl, hv⟩ := h
    exact ⟨vs, e, by simpa using hl, fun i h h2 => by rw [List.getElem_map]; exact G.killS S hρ hL _ _ (hv i (by simpa using h) h2)⟩
  | .whn b x, v, h => by simp only [V.killS, V.killSs_eq]; rw [G] at h ⊢; exact ⟨fun e => G.killS S hρ hL x v (h.1 e), h.2⟩
  | .top, v, h => by simp only [V.killS, V.killSs_eq]; rw [G]; trivial
termination_by x => SizeOf.sizeOf x
decreasing_by
  all_goals first
    | (have h3 := List.sizeOf_lt_of_mem (List.getElem_mem (by simpa using h)); simp; omega)
    | (simp; done)
    | (simp; omega)
theorem Gs.killS {B : Nat → Prop} {w : World} {ρ ρ' : Nat → Value} {L L' : Nat → Prop} (S : Nat → Bool) (hρ : ∀ o, S o = false → L o → ρ' o = ρ o) (hL : ∀ o, S o = false → L o → L' o) {cs : List V} {vs : List Value} (h : Gs B w ρ L cs vs) : Gs B w ρ' L' (cs.map (V.killS S)) vs :=
  ⟨by simpa using h.1, fun i h1 h2 => by rw [List.getElem_map]; exact (h.2 i (by simpa using h1) h2).killS S hρ hL⟩
section
variable {N : Nat} {w0 : World} {Pr X : Nat → Prop} {Z : Nat → Option Value} {ρ : Nat → Value} {st : St} {a : Act} {w w' : World}
/-- The objects of F are changed; those of S among them may have moved. -/
theorem Gam.effect (h : Gam N w0 Pr X Z ρ st a w) (F : Nat → Prop) (S : Nat → Bool) (hSF : ∀ o, S o = true → F o) (os' : Nat → Option O) (hdom1 : ∀ o, st.os o ≠ none → os' o ≠ none) (hdom2 : ∀ o, os' o ≠ none → S o = false → st.os o ≠ none) (hkeep : ∀ o, ¬ F o → os' o = (st.os o).map (O.killS S))
    (hsz : w.heap.size ≤ w'.heap.size) (hos : w'.os = w.os) (htp : w'.tape = w.tape) (hout : w'.output = w.output)
    (hblk : ∀ b, b < w.heap.size → (∀ o, F o → st.os o ≠ none → blockOf (ρ o) ≠ some b) → w'.heap[b]? = w.heap[b]?)
    (ρ' : Nat → Value) (hρ : ∀ o, S o = false → ρ' o = ρ o) (hone : ∀ o, (ρ' o).oneCell' = true) (hv : ∀ o b, S o = true → os' o ≠ none → blockOf (ρ' o) = some b → (∃ o', F o' ∧ st.os o' ≠ none ∧ blockOf (ρ o') = some b) ∨ w.heap.size ≤ b)
    (hinj : ∀ o o' b, F o → F o' → os' o ≠ none → os' o' ≠ none → blockOf (ρ' o) = some b → blockOf (ρ' o') = some b → o = o')
    (hbox : ∀ o y, st.os o = some y → y.isRow = false → S o = false ∧ ∃ x, os' o = some x ∧ x.isRow = false)
    (hobj : ∀ o x, F o → os' o = some x → objOk (Bk X os' ρ' w') w' ρ' (Lv os') o x) :
    Gam N w0 Pr X Z ρ' { env := fun t => (st.env t).killS S, os := os' } a w' := by
  have hSl : ∀ o, S o = true ∨ S o = false := fun o => by cases S o <;> simp
  have hρ' : ∀ o, S o = false → Lv st.os o → ρ' o = ρ o := fun o c _ => hρ o c
  have hL : ∀ o, S o = false → Lv st.os o → Lv os' o := fun o _ l => hdom1 o l
  have blk : ∀ o b, os' o ≠ none → blockOf (ρ' o) = some b → (∃ o', st.os o' ≠ none ∧ blockOf (ρ o') = some b) ∨ w.heap.size ≤ b := fun o b ho e => by
    rcases hSl o with c | c
    · exact (hv o b c ho e).imp (fun ⟨o', _, h⟩ => ⟨o', h⟩) id
    · rw [hρ o c] at e; exact .inl ⟨o, hdom2 o ho c, e⟩
  have hb : ∀ b, Bk X st.os ρ w b → Bk X os' ρ' w' b := fun b hb => ⟨⟨Nat.lt_of_lt_of_le hb.1.1 hsz, hb.1.2⟩, fun o ho e => by
    rcases blk o b ho e with ⟨o', e2⟩ | e2
    · exact hb.2 o' e2.1 e2.2
    · have := hb.1.1; omega⟩
  have hw : ∀ b, Bk X st.os ρ w b → w'.heap[b]? = w.heap[b]? := fun b hb => hblk b hb.1.1 (fun o _ l => hb.2 o l)
  have lt : ∀ o b, st.os o ≠ none → blockOf (ρ o) = some b → b < w.heap.size := fun o b l e => by
    obtain ⟨y, hy⟩ := Option.ne_none_iff_exists'.1 l
    exact (h.obj o y hy).lt e
  refine ⟨h.defers, h.size, fun t => ?_, fun o y ho => ?_, fun o1 o2 b h1 h2 e1 e2 => ?_, hone, fun b hp => ?_, fun o b ho e => ?_, h.low, Nat.le_trans h.grow hsz, hos.trans h.os', htp.trans h.tape, hout.trans h.output, h.hX, fun o b ho e => ?_, fun o u hz => ?_, h.gp⟩
  · exact ((h.env t).killS S hρ' hL).mono hb hw (fun _ h => h) (fun _ _ => rfl)
  · by_cases c : F o
    · exact hobj o y c ho
    · have hS : S o = false := by
        rcases hSl o with d | d
        · exact absurd (hSF o d) c
        · exact d
      simp only [hkeep o c, Option.map_eq_some_iff] at ho
      obtain ⟨z, hz, rfl⟩ := ho
      have hy := h.obj o z hz
      have hl : st.os o ≠ none := by rw [hz]; simp
      have hk : ∀ b, blockOf (ρ o) = some b → w'.heap[b]? = w.heap[b]? := fun b e => hblk b (hy.lt e) (fun o' f' l' e2 => c (by rw [h.inj o o' b hl l' e e2]; exact f'))
      cases z with
      | box cs e =>
        obtain ⟨b, vs, e1, e2, h3, h4⟩ := hy
        exact ⟨b, vs, by rw [hρ o hS, e1], by rw [hk b (by rw [e1]; rfl)]; exact e2, (h3.killS S hρ' hL).mono hb hw (fun _ h => h) (fun _ _ => rfl), h4⟩
      | row rows m e =>
        obtain ⟨xs, ⟨h1, h2⟩, h3⟩ := hy
        refine ⟨xs, ⟨h1, ?_⟩, h3.mono hb hw⟩
        rcases h2 with h2 | ⟨g, cap, cur, e1, e0, e2, h4⟩
        · exact .inl (by rw [hρ o hS]; exact h2)
        · exact .inr ⟨g, cap, cur, by rw [hρ o hS]; exact e1, e0, by rw [hk g (by rw [e1]; rfl)]; exact e2, h4⟩
      | arr rows m e =>
        obtain ⟨xs, ⟨h1, h2⟩, h3⟩ := hy
        refine ⟨xs, ⟨h1, ?_⟩, h3.mono hb hw⟩
        rcases h2 with h2 | ⟨g, cap, cur, e1, e0, e2, h4⟩
        · exact .inl (by rw [hρ o hS]; exact h2)
        · exact .inr ⟨g, cap, cur, by rw [hρ o hS]; exact e1, e0, by rw [hk g (by rw [e1]; rfl)]; exact e2, h4⟩
      | raw K =>
        obtain ⟨b, y, e1, e2, e3⟩ := hy
        exact ⟨b, y, by rw [hρ o hS]; exact e1, by rw [hk b e1]; exact e2, by rw [hρ o hS]; exact e3⟩
  · have half : ∀ o1 o2, F o1 → ¬ F o2 → os' o1 ≠ none → os' o2 ≠ none → blockOf (ρ' o1) = some b → blockOf (ρ' o2) = some b → o1 = o2 := fun o1 o2 f1 f2 h1 h2 e1 e2 => by
      have s2 : S o2 = false := by
        rcases hSl o2 with c | c
        · exact absurd (hSF o2 c) f2
        · exact c
      have l2 := hdom2 o2 h2 s2
      rw [hρ o2 s2] at e2
      rcases hSl o1 with c1 | c1
      · rcases hv o1 b c1 h1 e1 with ⟨o', f', l', e3⟩ | e3
        · exact absurd (h.inj o' o2 b l' l2 e3 e2 ▸ f') f2
        · have := lt o2 b l2 e2; omega
      · rw [hρ o1 c1] at e1
        exact h.inj o1 o2 b (hdom2 o1 h1 c1) l2 e1 e2
    by_cases f1 : F o1
    · by_cases f2 : F o2
      · exact hinj o1 o2 b f1 f2 h1 h2 e1 e2
      · exact half o1 o2 f1 f2 h1 h2 e1 e2
    · by_cases f2 : F o2
      · exact (half o2 o1 f2 f1 h2 h1 e2 e1).symm
      · have ns : ∀ o, ¬ F o → S o = false := fun o f => by
          rcases hSl o with c | c
          · exact absurd (hSF o c) f
          · exact c
        rw [hρ o1 (ns o1 f1)] at e1
        rw [hρ o2 (ns o2 f2)] at e2
        exact h.inj o1 o2 b (hdom2 o1 h1 (ns o1 f1)) (hdom2 o2 h2 (ns o2 f2)) e1 e2
  · rw [hblk b (Nat.lt_of_lt_of_le (h.low b hp) h.grow) (fun o _ l e => h.prot o b l e hp)]
    exact h.keep b hp
  · rcases blk o b ho e with ⟨o', e3⟩ | e3
    · exact h.prot o' b e3.1 e3.2
    · intro hp
      have := h.low b hp
      have := h.grow
      omega
  · rcases blk o b ho e with ⟨o', e3⟩ | e3
    · exact h.xo o' b e3.1 e3.2
    · exact h.hX b (Nat.le_trans h.grow e3)
  · obtain ⟨h1, h2, y, h3, h6⟩ := h.fix o u hz
    obtain ⟨h4, h5⟩ := hbox o y h3 h6
    exact ⟨h1, by rw [hρ o h4]; exact h2, h5⟩
end
end Go.Proofs.YtgnnakibcjonbaaGreatDoor.VE

/- The evaluator: contracts of functions that change what they are handed by pointer. -/
namespace Go.Proofs.YtgnnakibcjonbaaGreatDoor.VE
open Go Go.RowKit
set_option linter.unusedVariables false
set_option linter.unusedSimpArgs false
mutual
/-- Other names for the objects. -/
def V.ren (σ : Nat → Nat) : V → V
  | .ptr o c => .ptr (σ o) c
  | .row o => .row (σ o)
  | .rptr o m i j => .rptr (σ o) m i j
  | .agg cs => .agg (V.rens σ cs)
  | .tup cs => .tup (V.rens σ cs)
  | .fnc f cs => .fnc f (V.rens σ cs)
  | .whn b x => .whn b (x.ren σ)
  | v => v
def V.rens (σ : Nat → Nat) : List V → List V
  | [] => []
  | y :: r => V.ren σ y :: V.rens σ r
end
theorem V.rens_eq (σ : Nat → Nat) : ∀ cs : List V, V.rens σ cs = cs.map (V.ren σ)
  | [] => rfl
  | y :: r => by rw [V.rens, V.rens_eq σ r]; rfl
def O.ren (σ : Nat → Nat) : O → O
  | .box cs e => .box (cs.map (V.ren σ)) e
  | x => x
theorem G.ren {B : Nat → Prop} {w : World} {ρ ρ' : Nat → Value} {L L' : Nat → Prop} (σ : Nat → Nat) (h1 : ∀ o, L o → L' (σ o) ∧ ρ' (σ o) = ρ o) : ∀ (x : V) (v : Value), G B w ρ L x v → G B w ρ' L' (x.ren σ) v
  | .d x, v, h => by simp only [V.ren, V.rens_eq]; rw [G] at h ⊢; exact h
  | .nil, v, h => by simp only [V.ren, V.rens_eq]; rw [G] at h ⊢; exact h
  | .ptr o c, v, h => by simp only [V.ren, V.rens_eq]; rw [G] at h ⊢; rw [(h1 o h.1).2]; exact ⟨(h1 o h.1).1, h.2⟩
  | .row o, v, h => by simp only [V.ren, V.rens_eq]; rw [G] at h ⊢; rw [(h1 o h.1).2]; exact ⟨(h1 o h.1).1, h.2⟩
  | .rptr o m i j, v, h => by simp only [V.ren, V.rens_eq]; rw [G] at h ⊢; rw [(h1 o h.1).2]; exact ⟨(h1 o h.1).1, h.2⟩
  | .dptr cs, v, h => by simp only [V.ren, V.rens_eq]; rw [G] at h ⊢; exact h
  | .agg cs, v, h => by
    simp only [V.ren, V.rens_eq]
    rw [G] at h ⊢
    obtain ⟨vs, e, hl, hv⟩ := h
    exact ⟨vs, e, by simpa using hl, fun i h h2 => by rw [List.getElem_map]; exact G.ren σ h1 _ _ (hv i (by simpa using h) h2)⟩
  | .tup cs, v, h => by
    simp only [V.ren, V.rens_eq]
    rw [G] at h ⊢
    obtain ⟨vs, e, hl, hv⟩ := h
    exact ⟨vs, e, by simpa using hl, fun i h h2 => by rw [List.getElem_map]; exact G.ren σ h1 _ _ (hv i (by simpa using h) h2)⟩
  | .fnc f cs, v, h => by
    simp only [V.ren, V.rens_eq]
    rw [G] at h ⊢
    obtain ⟨vs, e, hl, hv⟩ := h
    exact ⟨vs, e, by simpa using hl, fun i h h2 => by rw [List.getElem_map]; exact G.ren σ h1 _ _ (hv i (by simpa using h) h2)⟩
  | .whn b x, v, h => by simp only [V.ren, V.rens_eq]; rw [G] at h ⊢; exact ⟨fun e => G.ren σ h1 x v (h.1 e), h.2⟩
  | .top, v, h => by simp only [V.ren, V.rens_eq]; rw [G]; trivial
termination_by x => SizeOf.sizeOf x
decreasing_by
  all_goals first
    | (have h3 := List.sizeOf_lt_of_mem (List.getElem_mem (by simpa using h)); simp; omega)
    | (simp; done)
    | (simp; omega)
/-- The objects that a contract speaks of: 100000, 100001, .. -/
def fos (fp : List O) : Nat → Option O := fun o => if 100000 ≤ o then fp[o - 100000]? else none
def isRowAt (g : Nat → Option O) : Nat → Bool := fun o => match g o with
  | some x => x.isRow
  | none => false
def InjOn (g : Nat → Option O) (ρ : Nat → Value) : Prop := ∀ o o' b, g o ≠ none → g o' ≠ none → blockOf (ρ o) = some b → blockOf (ρ o') = some b → o = o'
/-- What a call leaves as it was. -/
structure Grown (w w' : World) (g : Nat → Option O) (ρ : Nat → Value) : Prop where
  size : w.heap.size ≤ w'.heap.size
  os : w'.os = w.os
  tape : w'.tape = w.tape
  output : w'.output = w.output
  block : ∀ b, b < w.heap.size → (∀ o, g o ≠ none → blockOf (ρ o) ≠ some b) → w'.heap[b]? = w.heap[b]?
def newB (B : Nat → Prop) (w w' : World) (g0 : Nat → Option O) (ρ0 : Nat → Value) (g : Nat → Option O) (ρ : Nat → Value) : Nat → Prop := fun b => b < w'.heap.size ∧ (B b ∨ w.heap.size ≤ b ∨ ∃ o, g0 o ≠ none ∧ blockOf (ρ0 o) = some b) ∧ ∀ o, g o ≠ none → blockOf (ρ o) ≠ some b
/-- A function that changes the objects fp into fp' and returns r. fp' may have one row more. -/
structure EffOk (P : Program) (f : FuncId) (args : List V) (fp : List O) (p : Prop) (r : V) (fp' : List O) : Prop where
  le : fp.length ≤ fp'.length
  kinds : ∀ (k : Nat) (x : O), fp'[k]? = some x → match fp[k]? with
    | some (y : O) => x.isRow = y.isRow
    | none => x.isRow = true
  calls : ∀ (w : World) (B : Nat → Prop) (ρ : Nat → Value) (vs : List Value), (∀ b, B b → b < w.heap.size ∧ ∀ o, fos fp o ≠ none → blockOf (ρ o) ≠ some b) → (GW w ∧ ∀ o, fos fp o ≠ none → blockOf (ρ o) ≠ some gIx) → (∀ o, (ρ o).oneCell' = true) →
    (∀ o x, fos fp o = some x → objOk B w ρ (Lv (fos fp)) o x) → InjOn (fos fp) ρ → Gs B w ρ (Lv (fos fp)) args vs → p →
    Calls P f vs.toArray w fun e w' => ∃ v ρ', e = .returned v ∧ Grown w w' (fos fp) ρ ∧ (∀ o, isRowAt (fos fp') o = false → ρ' o = ρ o) ∧ (∀ o, (ρ' o).oneCell' = true) ∧
      (∀ o b, isRowAt (fos fp') o = true → blockOf (ρ' o) = some b → (∃ o', fos fp o' ≠ none ∧ blockOf (ρ o') = some b) ∨ w.heap.size ≤ b) ∧ InjOn (fos fp') ρ' ∧
      (∀ o x, fos fp' o = some x → objOk (newB B w w' (fos fp) ρ (fos fp') ρ') w' ρ' (Lv (fos fp')) o x) ∧ G (newB B w w' (fos fp) ρ (fos fp') ρ') w' ρ' (Lv (fos fp')) r v
/-- The contracts hold. -/
def DOk (P : Program) (Δ : FuncId → List V → List O → Option (Prop × V × List O)) : Prop := ∀ f args fp p r fp', Δ f args fp = some (p, r, fp') → FnOk P f ∧ EffOk P f args fp p r fp'
structure COk (P : Program) (C : Cx) : Prop where
  g : GOk P C.Γ
  d : DOk P C.Δ
  x : ∀ f args p r, C.gm.ext f args = some (p, r) → ExtOkm P C.gm.m f args p r
/-- Where a name stands in a list. -/
def pos : List Nat → Nat → Option Nat
  | [], _ => none
  | l :: ls, o => if o = l then some 0 else (pos ls o).map (· + 1)
theorem pos_get : ∀ {fl : List Nat} {o k : Nat}, pos fl o = some k → fl[k]? = some o
  | [], o, k, h => by simp [pos] at h
  | l :: ls, o, k, h => by
    unfold pos at h
    split at h
    · rename_i e
      simp only [Option.some.injEq] at h
      subst h; subst e; rfl
    · obtain ⟨j, hj, rfl⟩ := Option.map_eq_some_iff.1 h
      rw [List.getElem?_cons_succ]
      exact pos_get hj
theorem pos_of : ∀ {fl : List Nat} {o k : Nat}, fl.Nodup → fl[k]? = some o → pos fl o = some k
  | [], o, k, _, h => by simp at h
  | l :: ls, o, 0, _, h => by
    simp only [List.getElem?_cons_zero, Option.some.injEq] at h
    simp [pos, h]
  | l :: ls, o, k + 1, hn, h => by
    rw [List.getElem?_cons_succ] at h
    rw [List.nodup_cons] at hn
    have hne : o ≠ l := fun e => hn.1 (e ▸ List.mem_of_getElem? h)
    simp [pos, hne, pos_of hn.2 h]
/-- The caller's name of a contract's object. -/
def nameOf (fl : List Nat) : Nat → Nat := fun o => fl.getD (o - 100000) 0
/-- The objects behind the call. -/
def putO (σ : Nat → Nat) : List Nat → List O → (Nat → Option O) → Nat → Option O
  | l :: ls, x :: xs, g => fun o => if o = l then some (x.ren σ) else putO σ ls xs g o
  | _, _, g => g
theorem putO_pos {σ : Nat → Nat} : ∀ {fl : List Nat} {xs : List O} {g : Nat → Option O} {o : Nat}, fl.length = xs.length → putO σ fl xs g o = match pos fl o with
    | some k => (xs[k]?).map (O.ren σ)
    | none => g o
  | [], [], g, o, _ => rfl
  | [], _ :: _, _, _, h => by simp at h
  | _ :: _, [], _, _, h => by simp at h
  | l :: ls, x :: xs, g, o, h => by
    unfold putO pos
    by_cases c : o = l
    · simp [c]
    · simp only [if_neg c]
      rw [putO_pos (by simpa using h)]
      cases pos ls o <;> simp
mutual
/-- What a call may be handed: data, and the contract's objects. -/
def V.inF (n : Nat) : V → Bool
  | .row o => decide (100000 ≤ o) && decide (o < 100000 + n)
  | .ptr o _ => decide (100000 ≤ o) && decide (o < 100000 + n)
  | .rptr o _ _ _ => decide (100000 ≤ o) && decide (o < 100000 + n)
  | .agg cs => V.inFs n cs
  | .tup cs => V.inFs n cs
  | .fnc _ cs => V.inFs n cs
  | .whn _ x => x.inF n
  | _ => true
def V.inFs (n : Nat) : List V → Bool
  | [] => true
  | x :: r => x.inF n && V.inFs n r
end
theorem V.inFs_eq (n : Nat) : ∀ cs : List V, V.inFs n cs = cs.all (V.inF n)
  | [] => rfl
  | x :: r => by rw [V.inFs, V.inFs_eq n r]; rfl
theorem ren_pure1 {σ : Nat → Nat} {x : V} (h : x.pure1 = true) : x.ren σ = x := by cases x <;> simp [V.pure1] at h <;> simp only [V.ren, V.rens_eq]
theorem ren_pures {σ : Nat → Nat} {cs : List V} (h : cs.all V.pure1 = true) : cs.map (V.ren σ) = cs := by
  conv => rhs; rw [← List.map_id cs]
  exact List.map_congr_left fun x hx => ren_pure1 (List.all_eq_true.1 h x hx)
theorem G.pure1' {B : Nat → Prop} {w : World} {ρ ρ' : Nat → Value} {L L' : Nat → Prop} {x : V} {v : Value} (hx : x.pure1 = true) (h : G B w ρ L x v) : G B w ρ' L' x v := by
  cases x <;> simp [V.pure1] at hx <;> (rw [G] at h ⊢; exact h)
theorem G.unren' {B : Nat → Prop} {w : World} {ρ ρ' : Nat → Value} {L L' : Nat → Prop} {σ : Nat → Nat} {n : Nat} (hρ : ∀ o, 100000 ≤ o → o < 100000 + n → ρ' o = ρ (σ o)) (hL : ∀ o, 100000 ≤ o → o < 100000 + n → L' o) : ∀ (x : V) (v : Value), x.inF n = true → G B w ρ L (x.ren σ) v → G B w ρ' L' x v
  | .d x, v, _, h => by simp only [V.ren] at h; rw [G] at h ⊢; exact h
  | .nil, v, _, h => by simp only [V.ren] at h; rw [G] at h ⊢; exact h
  | .ptr o c, v, hx, h => by
    simp only [V.inF, Bool.and_eq_true, decide_eq_true_eq] at hx
    simp only [V.ren] at h; rw [G] at h ⊢; rw [hρ _ hx.1 hx.2]; exact ⟨hL _ hx.1 hx.2, h.2⟩
  | .row o, v, hx, h => by
    simp only [V.inF, Bool.and_eq_true, decide_eq_true_eq] at hx
    simp only [V.ren] at h; rw [G] at h ⊢; rw [hρ _ hx.1 hx.2]; exact ⟨hL _ hx.1 hx.2, h.2⟩
  | .rptr o m i j, v, hx, h => by
    simp only [V.inF, Bool.and_eq_true, decide_eq_true_eq] at hx
    simp only [V.ren] at h; rw [G] at h ⊢; rw [hρ _ hx.1 hx.2]; exact ⟨hL _ hx.1 hx.2, h.2⟩
  | .dptr cs, v, _, h => by simp only [V.ren] at h; rw [G] at h ⊢; exact h
  | .agg cs, v, hx, h => by
    simp only [V.inF, V.inFs_eq, List.all_eq_true] at hx
    simp only [V.ren, V.rens_eq] at h
    rw [G] at h ⊢
    obtain ⟨vs, e, hl, hv⟩ := h
    exact ⟨vs, e, by simpa using hl, fun i h h2 => G.unren' hρ hL _ _ (hx _ (List.getElem_mem h)) (by have := hv i (by simpa using h) h2; rwa [List.getElem_map] at this)⟩
  | .tup cs, v, hx, h => by
    simp only [V.inF, V.inFs_eq, List.all_eq_true] at hx
    simp only [V.ren, V.rens_eq] at h
    rw [G] at h ⊢
    obtain ⟨vs, e, hl, hv⟩ := h
    exact ⟨vs, e, by simpa using hl, fun i h h2 => G.unren' hρ hL _ _ (hx _ (List.getElem_mem h)) (by have := hv i (by simpa using h) h2; rwa [List.getElem_map] at this)⟩
  | .fnc f cs, v, hx, h => by
    simp only [V.inF, V.inFs_eq, List.all_eq_true] at hx
    simp only [V.ren, V.rens_eq] at h
    rw [G] at h ⊢
    obtain ⟨vs, e, hl, hv⟩ := h
    exact ⟨vs, e, by simpa using hl, fun i h h2 => G.unren' hρ hL _ _ (hx _ (List.getElem_mem h)) (by have := hv i (by simpa using h) h2; rwa [List.getElem_map] at this)⟩
  | .whn b x, v, hx, h => by
    simp only [V.inF] at hx
    simp only [V.ren] at h
    rw [G] at h ⊢
    exact ⟨fun e => G.unren' hρ hL x v hx (h.1 e), h.2⟩
  | .top, v, _, h => by rw [G]; trivial
termination_by x => SizeOf.sizeOf x
decreasing_by
  all_goals first
    | (have h3 := List.sizeOf_lt_of_mem (List.getElem_mem h); simp; omega)
    | (simp; done)
    | (simp; omega)
theorem G.unren {B : Nat → Prop} {w : World} {ρ ρ' : Nat → Value} {L L' : Nat → Prop} {σ : Nat → Nat} {n : Nat} (hρ : ∀ o, 100000 ≤ o → o < 100000 + n → ρ' o = ρ (σ o)) (hL : ∀ o, 100000 ≤ o → o < 100000 + n → L' o) {x : V} {v : Value} (hx : x.inF n = true) (h : G B w ρ L (x.ren σ) v) : G B w ρ' L' x v := G.unren' hρ hL x v hx h
mutual
theorem V.ren_id : ∀ x : V, x.ren (fun o => o) = x
  | .d _ => rfl
  | .nil => rfl
  | .ptr _ _ => rfl
  | .row _ => rfl
  | .rptr _ _ _ _ => rfl
  | .dptr _ => rfl
  | .agg cs => by rw [V.ren, V.rens_id cs]
  | .tup cs => by rw [V.ren, V.rens_id cs]
  | .fnc f cs => by rw [V.ren, V.rens_id cs]
  | .whn b x => by rw [V.ren, V.ren_id x]
  | .top => rfl
theorem V.rens_id : ∀ cs : List V, V.rens (fun o => o) cs = cs
  | [] => rfl
  | x :: r => by rw [V.rens, V.ren_id x, V.rens_id r]
end
/-- The contract's objects, under the same names. -/
theorem G.inF {B : Nat → Prop} {w : World} {ρ ρ' : Nat → Value} {L L' : Nat → Prop} {n : Nat} (hρ : ∀ o, 100000 ≤ o → o < 100000 + n → ρ' o = ρ o) (hL : ∀ o, 100000 ≤ o → o < 100000 + n → L' o) {x : V} {v : Value} (hx : x.inF n = true) (h : G B w ρ L x v) : G B w ρ' L' x v :=
  G.unren (σ := fun o => o) hρ hL hx (by rw [V.ren_id]; exact h)
def O.inF (n : Nat) : O → Bool
  | .box cs _ => cs.all (V.inF n)
  | .row _ _ _ => true
  | .raw _ => true
  | .arr _ _ _ => true
/-- Which of the caller's objects are rows that may have moved. -/
def rowsS : List Nat → List O → Nat → Bool
  | l :: ls, x :: xs => fun o => if o = l then x.isRow else rowsS ls xs o
  | _, _ => fun _ => false
theorem rowsS_pos : ∀ {fl : List Nat} {xs : List O} {o : Nat}, fl.length = xs.length → rowsS fl xs o = match pos fl o with
    | some k => ((xs[k]?).map O.isRow).getD false
    | none => false
  | [], [], o, _ => rfl
  | [], _ :: _, _, h => by simp at h
  | _ :: _, [], _, h => by simp at h
  | l :: ls, x :: xs, o, h => by
    unfold rowsS pos
    by_cases c : o = l
    · simp [c]
    · simp only [if_neg c]
      rw [rowsS_pos (by simpa using h)]
      cases pos ls o <;> simp
theorem fos_at {fp : List O} (k : Nat) : fos fp (100000 + k) = fp[k]? := by
  unfold fos
  rw [if_pos (by omega), show 100000 + k - 100000 = k by omega]
theorem fos_some {fp : List O} {o : Nat} {x : O} (h : fos fp o = some x) : ∃ k, o = 100000 + k ∧ fp[k]? = some x := by
  unfold fos at h
  split at h
  · exact ⟨o - 100000, by omega, h⟩
  · cases h
theorem nameOf_at {fl : List Nat} {k o : Nat} (h : fl[k]? = some o) : nameOf fl (100000 + k) = o := by
  unfold nameOf
  rw [show 100000 + k - 100000 = k by omega, List.getD_eq_getElem?_getD, h]
  rfl
section
variable {P : Program} {N : Nat} {w0 : World} {Pr X : Nat → Prop} {Z : Nat → Option Value} {ρ : Nat → Value} {st : St} {a : Act} {w : World}
theorem eff_call (hg : Gam N w0 Pr X Z ρ st a w) {f : FuncId} {args : List V} {fp : List O} {p : Prop} {r : V} {fp' : List O} (he : EffOk P f args fp p r fp') (fl : List Nat) (hn : fl.Nodup) (hlen : fl.length = fp'.length)
    (hold : ∀ (k : Nat) (x : O), fp[k]? = some x → ∃ o, fl[k]? = some o ∧ st.os o = some (x.ren (nameOf fl)) ∧ x.inF fp.length = true)
    (hnew : ∀ (k o : Nat), fp.length ≤ k → fl[k]? = some o → st.os o = none) (hin : ∀ x ∈ args, x.inF fp.length = true) {vs : List Value}
    (ha : Gs (Bk X st.os ρ w) w ρ (Lv st.os) (args.map (V.ren (nameOf fl))) vs) (hp : p) :
    Calls P f vs.toArray w fun e w' => ∃ v ρ', e = .returned v ∧ Gam N w0 Pr X Z ρ' ⟨fun t => (st.env t).killS (rowsS fl fp'), putO (nameOf fl) fl fp' fun o => (st.os o).map (O.killS (rowsS fl fp'))⟩ a w' ∧
      G (Bk X (putO (nameOf fl) fl fp' fun o => (st.os o).map (O.killS (rowsS fl fp'))) ρ' w') w' ρ' (Lv (putO (nameOf fl) fl fp' fun o => (st.os o).map (O.killS (rowsS fl fp')))) (r.ren (nameOf fl)) v := by
  have inF_at : ∀ {o}, 100000 ≤ o → o < 100000 + fp.length → ∃ x o', fos fp o = some x ∧ fl[o - 100000]? = some o' ∧ nameOf fl o = o' ∧ st.os o' = some (x.ren (nameOf fl)) := fun {o} h1 h2 => by
    have hk : fp[o - 100000]? = some (fp[o - 100000]'(by omega)) := List.getElem?_eq_getElem _
    obtain ⟨o', e1, e2, _⟩ := hold _ _ hk
    refine ⟨_, o', ?_, e1, ?_, e2⟩
    · unfold fos; rw [if_pos h1]; exact hk
    · have := nameOf_at e1
      rwa [show 100000 + (o - 100000) = o by omega] at this
  have fosLt : ∀ {o}, fos fp o ≠ none → 100000 ≤ o ∧ o < 100000 + fp.length := fun {o} h => by
    obtain ⟨x, hx⟩ := Option.ne_none_iff_exists'.1 h
    obtain ⟨k, rfl, hk⟩ := fos_some hx
    have := (List.getElem?_eq_some_iff.1 hk).1
    omega
  have live : ∀ {o}, fos fp o ≠ none → st.os (nameOf fl o) ≠ none := fun {o} h => by
    obtain ⟨h1, h2⟩ := fosLt h
    obtain ⟨x, o', _, _, e3, e4⟩ := inF_at h1 h2
    rw [e3, e4]; simp
  have Llive : ∀ o, 100000 ≤ o → o < 100000 + fp.length → Lv (fos fp) o := fun o h1 h2 => by
    obtain ⟨x, o', e, _⟩ := inF_at h1 h2
    show fos fp o ≠ none
    rw [e]; simp
  have hc := he.calls w (Bk X st.os ρ w) (fun o => ρ (nameOf fl o)) vs (fun b hb => ⟨hb.1.1, fun o ho => hb.2 _ (live ho)⟩) ⟨hg.gw, fun o ho e => hg.prot _ gIx (live ho) e hg.gp.2⟩ (fun o => hg.one _)
    (fun o x hx => by
      obtain ⟨k, rfl, hk⟩ := fos_some hx
      obtain ⟨o', e1, e2, e3⟩ := hold k x hk
      have hy := hg.obj o' _ e2
      have en := nameOf_at e1
      cases x with
      | box cs e =>
        obtain ⟨b, vs', g1, g2, g3, g4⟩ := hy
        refine ⟨b, vs', by show ρ (nameOf fl (100000 + k)) = _; rw [en]; exact g1, g2, ⟨by simpa using g3.1, fun i h1 h2 => ?_⟩, g4⟩
        have := g3.2 i (by simpa using h1) h2
        rw [List.getElem_map] at this
        exact G.unren (ρ := ρ) (σ := nameOf fl) (fun _ _ _ => rfl) Llive (List.all_eq_true.1 (show cs.all (V.inF fp.length) = true from e3) _ (List.getElem_mem (by simpa using h1))) this
      | row rows m e =>
        obtain ⟨xs, ⟨h1, h2⟩, h3⟩ := hy
        exact ⟨xs, ⟨h1, by simp only [en]; exact h2⟩, h3⟩
      | arr rows m e =>
        obtain ⟨xs, ⟨h1, h2⟩, h3⟩ := hy
        exact ⟨xs, ⟨h1, by simp only [en]; exact h2⟩, h3⟩
      | raw K =>
        obtain ⟨b, y, e1', e2', e3'⟩ := hy
        exact ⟨b, y, by simp only [en]; exact e1', e2', by simp only [en]; exact e3'⟩)
    (fun o o' b h1 h2 e1 e2 => by
      have hx := hg.inj _ _ b (live h1) (live h2) e1 e2
      obtain ⟨a1, a2⟩ := fosLt h1
      obtain ⟨a3, a4⟩ := fosLt h2
      obtain ⟨_, q1, _, p1, p2, _⟩ := inF_at a1 a2
      obtain ⟨_, q2, _, p3, p4, _⟩ := inF_at a3 a4
      rw [p2, p4] at hx
      subst hx
      have := pos_of hn p1
      rw [pos_of hn p3] at this
      simp only [Option.some.injEq] at this
      omega)
    ⟨by simpa using ha.1, fun i h1 h2 => by
      have := ha.2 i (by simpa using h1) h2
      rw [List.getElem_map] at this
      exact G.unren (ρ := ρ) (σ := nameOf fl) (fun _ _ _ => rfl) Llive (hin _ (List.getElem_mem _)) this⟩ hp
  refine hc.mono ?_
  rintro e w' ⟨v, ρ', rfl, hgr, hρ, hone, hv, hinj, hobj, hr⟩
  have sameLen : ∀ k, k < fl.length → ∃ x, fp'[k]? = some x := fun k hk => ⟨_, List.getElem?_eq_getElem (by omega)⟩
  have posLt : ∀ {o k}, pos fl o = some k → k < fl.length := fun {o k} h => (List.getElem?_eq_some_iff.1 (pos_get h)).1
  have pos_name : ∀ {o k}, pos fl o = some k → nameOf fl (100000 + k) = o := fun {o k} h => nameOf_at (pos_get h)
  have old_or_new : ∀ {o k}, pos fl o = some k → (∃ x, fp[k]? = some x ∧ st.os o = some (x.ren (nameOf fl))) ∨ (fp[k]? = none ∧ st.os o = none) := fun {o k} h => by
    cases e : fp[k]? with
    | none =>
      refine .inr ⟨rfl, hnew k o ?_ (pos_get h)⟩
      exact List.getElem?_eq_none_iff.1 e
    | some x =>
      obtain ⟨o', e1, e2, _⟩ := hold k x e
      rw [pos_get h] at e1
      simp only [Option.some.injEq] at e1
      subst e1
      exact .inl ⟨x, rfl, e2⟩
  let ρ2 : Nat → Value := fun o => match pos fl o with
    | some k => ρ' (100000 + k)
    | none => ρ o
  have ρ2_pos : ∀ {o k}, pos fl o = some k → ρ2 o = ρ' (100000 + k) := fun {o k} h => by simp only [ρ2, h]
  have ρ2_none : ∀ {o}, pos fl o = none → ρ2 o = ρ o := fun {o} h => by simp only [ρ2, h]
  have os_pos : ∀ {o k}, pos fl o = some k → putO (nameOf fl) fl fp' (fun o => (st.os o).map (O.killS (rowsS fl fp'))) o = (fp'[k]?).map (O.ren (nameOf fl)) := fun {o k} h => by rw [putO_pos hlen, h]
  have os_none : ∀ {o}, pos fl o = none → putO (nameOf fl) fl fp' (fun o => (st.os o).map (O.killS (rowsS fl fp'))) o = (st.os o).map (O.killS (rowsS fl fp')) := fun {o} h => by rw [putO_pos hlen, h]
  have S_pos : ∀ {o k}, pos fl o = some k → rowsS fl fp' o = isRowAt (fos fp') (100000 + k) := fun {o k} h => by
    rw [rowsS_pos hlen, h]
    unfold isRowAt
    rw [fos_at]
    cases hk : fp'[k]? <;> simp [hk]
  have S_none : ∀ {o}, pos fl o = none → rowsS fl fp' o = false := fun {o} h => by rw [rowsS_pos hlen, h]
  have S_some : ∀ {o}, rowsS fl fp' o = true → ∃ k, pos fl o = some k ∧ isRowAt (fos fp') (100000 + k) = true := fun {o} h => by
    cases e : pos fl o with
    | none => rw [S_none e] at h; cases h
    | some k => exact ⟨k, rfl, by rw [← S_pos e]; exact h⟩
  have cpos : ∀ o, pos fl o = none ∨ ∃ k, pos fl o = some k := fun o => by cases pos fl o <;> simp
  have subB : ∀ b, newB (Bk X st.os ρ w) w w' (fos fp) (fun o => ρ (nameOf fl o)) (fos fp') ρ' b → Bk X (putO (nameOf fl) fl fp' fun o => (st.os o).map (O.killS (rowsS fl fp'))) ρ2 w' b := fun b hb => by
    refine ⟨⟨hb.1, ?_⟩, fun o ho e => ?_⟩
    · rcases hb.2.1 with h | h | ⟨o', h1, h2⟩
      · exact h.1.2
      · exact hg.hX b (Nat.le_trans hg.grow h)
      · exact hg.xo _ b (live h1) h2
    · rcases cpos o with h | ⟨k, h⟩
      · rw [ρ2_none h] at e
        rw [os_none h] at ho
        have hl : st.os o ≠ none := fun e2 => ho (by rw [e2]; rfl)
        rcases hb.2.1 with h2 | h2 | ⟨o', h1, h2⟩
        · exact h2.2 o hl e
        · obtain ⟨y, hy⟩ := Option.ne_none_iff_exists'.1 hl
          have := (hg.obj o y hy).lt e
          omega
        · have e3 := hg.inj _ _ b hl (live h1) e h2
          obtain ⟨a1, a2⟩ := fosLt h1
          obtain ⟨_, q1, _, p1, p2, _⟩ := inF_at a1 a2
          rw [p2] at e3
          rw [e3, pos_of hn p1] at h
          cases h
      · rw [ρ2_pos h] at e
        refine hb.2.2 (100000 + k) ?_ e
        rw [fos_at]
        obtain ⟨x, hx⟩ := sameLen k (posLt h)
        rw [hx]; simp
  have ren_ok : ∀ o, Lv (fos fp') o → Lv (putO (nameOf fl) fl fp' fun o => (st.os o).map (O.killS (rowsS fl fp'))) (nameOf fl o) ∧ ρ2 (nameOf fl o) = ρ' o := fun o ho => by
    obtain ⟨x, hx⟩ := Option.ne_none_iff_exists'.1 ho
    obtain ⟨k, rfl, hk⟩ := fos_some hx
    have hlt := (List.getElem?_eq_some_iff.1 hk).1
    have hfl : fl[k]? = some (fl[k]'(by omega)) := List.getElem?_eq_getElem _
    have hps := pos_of hn hfl
    rw [nameOf_at hfl]
    refine ⟨?_, ρ2_pos hps⟩
    unfold Lv
    rw [os_pos hps, hk]
    simp
  refine ⟨v, ρ2, rfl, Gam.effect hg (fun o => pos fl o ≠ none) (rowsS fl fp') (fun o h => ?_) _ (fun o ho => ?_) (fun o ho hS => ?_) (fun o h => ?_) hgr.size hgr.os hgr.tape hgr.output (fun b hb h => ?_) ρ2 (fun o hS => ?_) (fun o => ?_) (fun o b hS ho e => ?_) (fun o o' b hS hS' _ _ e e' => ?_) (fun o y0 ho hy0 => ?_) (fun o x hF ho => ?_), ?_⟩
  · obtain ⟨k, hk, _⟩ := S_some h
    rw [hk]; simp
  · rcases cpos o with h | ⟨k, h⟩
    · rw [os_none h]
      intro e
      rw [Option.map_eq_none_iff] at e
      exact ho e
    · rw [os_pos h]
      obtain ⟨x, hx⟩ := sameLen k (posLt h)
      rw [hx]; simp
  · rcases cpos o with h | ⟨k, h⟩
    · rw [os_none h] at ho
      intro e
      rw [e] at ho
      exact ho rfl
    · rcases old_or_new h with ⟨x, _, e⟩ | ⟨e, _⟩
      · rw [e]; simp
      · obtain ⟨x, hx⟩ := sameLen k (posLt h)
        have := he.kinds k x hx
        rw [e] at this
        rw [S_pos h, isRowAt, fos_at, hx] at hS
        simp only at this hS
        rw [this] at hS
        cases hS
  · have h : pos fl o = none := Classical.not_not.1 h
    rw [os_none h]
  · refine hgr.block b hb fun o ho => ?_
    obtain ⟨h1, h2⟩ := fosLt ho
    obtain ⟨x, o', _, e2, e3, e4⟩ := inF_at h1 h2
    rw [e3]
    exact h o' (by rw [pos_of hn e2]; simp) (by rw [e4]; simp)
  · rcases cpos o with h | ⟨k, h⟩
    · exact ρ2_none h
    · rw [ρ2_pos h, hρ _ (by rw [← S_pos h]; exact hS), pos_name h]
  · rcases cpos o with h | ⟨k, h⟩
    · rw [ρ2_none h]; exact hg.one o
    · rw [ρ2_pos h]; exact hone _
  · obtain ⟨k, hk, hrow⟩ := S_some hS
    rw [ρ2_pos hk] at e
    rcases hv _ b hrow e with ⟨o', h1, h2⟩ | h1
    · refine .inl ⟨nameOf fl o', ?_, live h1, h2⟩
      obtain ⟨a1, a2⟩ := fosLt h1
      obtain ⟨_, q1, _, p1, p2, _⟩ := inF_at a1 a2
      rw [p2, pos_of hn p1]
      simp
    · exact .inr h1
  · obtain ⟨k, hk⟩ := Option.ne_none_iff_exists'.1 hS
    obtain ⟨k', hk'⟩ := Option.ne_none_iff_exists'.1 hS'
    rw [ρ2_pos hk] at e
    rw [ρ2_pos hk'] at e'
    have nn : ∀ {o j}, pos fl o = some j → fos fp' (100000 + j) ≠ none := fun {o j} hj => by
      rw [fos_at]
      obtain ⟨x, hx⟩ := sameLen j (posLt hj)
      rw [hx]; simp
    have := hinj _ _ b (nn hk) (nn hk') e e'
    have hkk : k = k' := by omega
    subst hkk
    have h1 := pos_get hk
    rw [pos_get hk'] at h1
    simp only [Option.some.injEq] at h1
    exact h1.symm
  · rcases cpos o with h | ⟨k, h⟩
    · exact ⟨S_none h, y0.killS (rowsS fl fp'), by rw [os_none h, ho]; rfl, by cases y0 <;> first | rfl | exact hy0⟩
    · rcases old_or_new h with ⟨x, hx, e2⟩ | ⟨_, e2⟩
      · rw [ho] at e2
        obtain ⟨y, hy⟩ := sameLen k (posLt h)
        have hk := he.kinds k y hy
        rw [hx] at hk
        simp only [Option.some.injEq] at e2
        have hxr : x.isRow = false := by
          rw [e2] at hy0
          cases x <;> first | rfl | exact hy0
        simp only at hk
        rw [hxr] at hk
        refine ⟨?_, y.ren (nameOf fl), by rw [os_pos h, hy]; rfl, by cases y <;> first | rfl | exact hk⟩
        rw [S_pos h, isRowAt, fos_at, hy]
        exact hk
      · rw [ho] at e2; cases e2
  · obtain ⟨k, hk⟩ := Option.ne_none_iff_exists'.1 hF
    rw [os_pos hk] at ho
    obtain ⟨y, hy, rfl⟩ := Option.map_eq_some_iff.1 ho
    have hoy := hobj (100000 + k) y (by rw [fos_at]; exact hy)
    cases y with
    | box cs e =>
      obtain ⟨b, vs', g1, g2, g3, g4⟩ := hoy
      refine ⟨b, vs', by rw [ρ2_pos hk]; exact g1, g2, ⟨by simpa using g3.1, fun i h1 h2 => ?_⟩, g4⟩
      rw [List.getElem_map]
      exact ((g3.2 i (by simpa using h1) h2).mono subB (fun _ _ => rfl) (fun _ h => h) (fun _ _ => rfl)).ren (nameOf fl) ren_ok
    | row rows m e =>
      obtain ⟨xs, ⟨h1, h2⟩, h3⟩ := hoy
      exact ⟨xs, ⟨h1, by rw [ρ2_pos hk]; exact h2⟩, h3.mono subB (fun _ _ => rfl)⟩
    | arr rows m e =>
      obtain ⟨xs, ⟨h1, h2⟩, h3⟩ := hoy
      exact ⟨xs, ⟨h1, by rw [ρ2_pos hk]; exact h2⟩, h3.mono subB (fun _ _ => rfl)⟩
    | raw K =>
      obtain ⟨b, y, e1, e2, e3⟩ := hoy
      exact ⟨b, y, by rw [ρ2_pos hk]; exact e1, e2, by rw [ρ2_pos hk]; exact e3⟩
  · exact (hr.mono subB (fun _ _ => rfl) (fun _ h => h) (fun _ _ => rfl)).ren (nameOf fl) ren_ok
end
end Go.Proofs.YtgnnakibcjonbaaGreatDoor.VE
