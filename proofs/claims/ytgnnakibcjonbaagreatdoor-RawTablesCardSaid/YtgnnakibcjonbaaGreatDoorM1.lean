/- Texts put together (merge.py). -/
import Derived.Below
import Derived.Calls
import Derived.Laws.OwnMore
import Derived.WalkKit
import Derived.Laws.BytesArg
import Derived.DeepKeys
import Derived.Laws.StructEq
/- Abstract values: data by value, addresses of the evaluator's own boxes and rows; what it means that a value of the model is one. -/
namespace Go.Proofs.YtgnnakibcjonbaaGreatDoor.VE
open Go Go.RowKit
set_option linter.unusedVariables false
/-- Data: numbers, bools, strings, functions, slices of rows of cells (each element has m cells). -/
inductive D where
  | int (k : IntKind) (n : Int)
  | bool (b : Bool)
  | str (s : ByteArray)
  | fn (f : FuncId)
  | sl (m : Nat) (rows : List (List D))
instance : Inhabited D := ⟨.bool false⟩
/-- The value v reads as the data, by cells of blocks in B alone. -/
def Rd (B : Nat → Prop) (w : World) : D → Value → Prop
  | .int k n, v => v = .int k n
  | .bool b, v => v = .bool b
  | .str s, v => v = .string s
  | .fn f, v => v = .func (.func f) #[] #[]
  | .sl m rows, v => ∃ A c, v = .slice A rows.length c ∧ rows.length ≤ c ∧ c ≤ maxLen ∧ (A = none → c = 0) ∧ (∀ i (h : i < rows.length), rows[i].length = m) ∧
      (rows ≠ [] → ∃ b off, A = some ⟨b, off, none⟩ ∧ B b ∧ ∀ i (h : i < rows.length) j (h2 : j < rows[i].length), ∃ u, w.cell? ⟨b, off + i * m + j, none⟩ = some u ∧ Rd B w rows[i][j] u)
termination_by x => SizeOf.sizeOf x
decreasing_by
  have h3 := List.sizeOf_lt_of_mem (List.getElem_mem h2)
  have h4 := List.sizeOf_lt_of_mem (List.getElem_mem h)
  simp only [D.sl.sizeOf_spec]
  omega
theorem Rd.mono {B B' : Nat → Prop} {w w' : World} (hb : ∀ b, B b → B' b) (hw : ∀ b, B b → w'.heap[b]? = w.heap[b]?) : ∀ (x : D) (v : Value), Rd B w x v → Rd B' w' x v
  | .int k n, v, h => by rw [Rd] at h ⊢; exact h
  | .bool b, v, h => by rw [Rd] at h ⊢; exact h
  | .str s, v, h => by rw [Rd] at h ⊢; exact h
  | .fn f, v, h => by rw [Rd] at h ⊢; exact h
  | .sl m rows, v, h => by
    rw [Rd] at h ⊢
    obtain ⟨A, c, h1, h2, h3, h0, h4, h5⟩ := h
    refine ⟨A, c, h1, h2, h3, h0, h4, fun hne => ?_⟩
    obtain ⟨b, off, e, hB, hc⟩ := h5 hne
    refine ⟨b, off, e, hb b hB, fun i hi j hj => ?_⟩
    obtain ⟨u, hu, hr⟩ := hc i hi j hj
    exact ⟨u, by rw [World.cell?_of_block (w := w) (hw b hB)]; exact hu, Rd.mono hb hw _ u hr⟩
termination_by x => SizeOf.sizeOf x
decreasing_by
  have h3 := List.sizeOf_lt_of_mem (List.getElem_mem hj)
  have h4 := List.sizeOf_lt_of_mem (List.getElem_mem hi)
  simp only [D.sl.sizeOf_spec]
  omega
theorem Rd.one {B : Nat → Prop} {w : World} {x : D} {v : Value} (h : Rd B w x v) : v.oneCell' = true := by
  cases x with
  | sl m rows => rw [Rd] at h; obtain ⟨A, c, rfl, _⟩ := h; rfl
  | int k n => rw [Rd] at h; subst h; rfl
  | bool b => rw [Rd] at h; subst h; rfl
  | str s => rw [Rd] at h; subst h; rfl
  | fn f => rw [Rd] at h; subst h; rfl
/-- Abstract values. -/
inductive V where
  | d (x : D)
  | nil
  | ptr (o c : Nat)
  | row (o : Nat)
  | rptr (o m i j : Nat)
  | dptr (cs : List D)
  | agg (cs : List V)
  | tup (cs : List V)
  | fnc (f : FuncId) (caps : List V)
  | whn (b : Bool) (x : V)
  | top
instance : Inhabited V := ⟨.top⟩
def blockOf : Value → Option Nat
  | .slice (some a) _ _ => some a.block
  | .pointer (some a) => some a.block
  | .map (some r) => some r
  | _ => none
/-- The value v is one of the abstract value; ρ tells the values of the boxes and rows, L which of them there are. -/
def G (B : Nat → Prop) (w : World) (ρ : Nat → Value) (L : Nat → Prop) : V → Value → Prop
  | .d x, v => Rd B w x v
  | .nil, v => v = .slice none 0 0
  | .ptr o c, v => L o ∧ ∃ b, blockOf (ρ o) = some b ∧ v = .pointer (some ⟨b, c, none⟩)
  | .row o, v => L o ∧ v = ρ o
  | .rptr o m i j, v => L o ∧ ∃ b, blockOf (ρ o) = some b ∧ v = .pointer (some ⟨b, i * m + j, none⟩)
  | .dptr cs, v => ∃ b off, v = .pointer (some ⟨b, off, none⟩) ∧ B b ∧ ∀ j (h : j < cs.length), ∃ u, w.cell? ⟨b, off + j, none⟩ = some u ∧ Rd B w cs[j] u
  | .agg cs, v => ∃ vs : List Value, v = .agg vs.toArray ∧ vs.length = cs.length ∧ ∀ i (h : i < cs.length) (h2 : i < vs.length), G B w ρ L cs[i] vs[i]
  | .tup cs, v => ∃ vs : List Value, v = .tuple vs.toArray ∧ vs.length = cs.length ∧ ∀ i (h : i < cs.length) (h2 : i < vs.length), G B w ρ L cs[i] vs[i]
  | .fnc f cs, v => ∃ vs : List Value, v = .func (.func f) #[] vs.toArray ∧ vs.length = cs.length ∧ ∀ i (h : i < cs.length) (h2 : i < vs.length), G B w ρ L cs[i] vs[i]
  | .whn b x, v => (b = true → G B w ρ L x v) ∧ (b = false → v = undef)
  | .top, _ => True
termination_by x => SizeOf.sizeOf x
decreasing_by
  all_goals first
    | (have h3 := List.sizeOf_lt_of_mem (List.getElem_mem h); simp; omega)
    | (simp; done)
    | (simp; omega)
/-- Values one by one. -/
def Gs (B : Nat → Prop) (w : World) (ρ : Nat → Value) (L : Nat → Prop) (cs : List V) (vs : List Value) : Prop := vs.length = cs.length ∧ ∀ i (h : i < cs.length) (h2 : i < vs.length), G B w ρ L cs[i] vs[i]
theorem G.mono {B B' : Nat → Prop} {w w' : World} {ρ ρ' : Nat → Value} {L L' : Nat → Prop} (hb : ∀ b, B b → B' b) (hw : ∀ b, B b → w'.heap[b]? = w.heap[b]?) (hn : ∀ o, L o → L' o) (hρ : ∀ o, L o → ρ' o = ρ o) : ∀ (x : V) (v : Value), G B w ρ L x v → G B' w' ρ' L' x v
  | .d x, v, h => by rw [G] at h ⊢; exact h.mono hb hw
  | .nil, v, h => by rw [G] at h ⊢; exact h
  | .ptr o c, v, h => by rw [G] at h ⊢; rw [hρ o h.1]; exact ⟨hn o h.1, h.2⟩
  | .row o, v, h => by rw [G] at h ⊢; rw [hρ o h.1]; exact ⟨hn o h.1, h.2⟩
  | .rptr o m i j, v, h => by rw [G] at h ⊢; rw [hρ o h.1]; exact ⟨hn o h.1, h.2⟩
  | .dptr cs, v, h => by
    rw [G] at h ⊢
    obtain ⟨b, off, e, hB, hc⟩ := h
    refine ⟨b, off, e, hb b hB, fun j hj => ?_⟩
    obtain ⟨u, hu, hr⟩ := hc j hj
    exact ⟨u, by rw [World.cell?_of_block (w := w) (hw b hB)]; exact hu, hr.mono hb hw⟩
  | .agg cs, v, h => by
    rw [G] at h ⊢
    obtain ⟨vs, e, hl, hv⟩ := h
    exact ⟨vs, e, hl, fun i h h2 => G.mono hb hw hn hρ _ _ (hv i h h2)⟩
  | .tup cs, v, h => by
    rw [G] at h ⊢
    obtain ⟨vs, e, hl, hv⟩ := h
    exact ⟨vs, e, hl, fun i h h2 => G.mono hb hw hn hρ _ _ (hv i h h2)⟩
  | .fnc f cs, v, h => by
    rw [G] at h ⊢
    obtain ⟨vs, e, hl, hv⟩ := h
    exact ⟨vs, e, hl, fun i h h2 => G.mono hb hw hn hρ _ _ (hv i h h2)⟩
  | .whn b x, v, h => by rw [G] at h ⊢; exact ⟨fun e => G.mono hb hw hn hρ x v (h.1 e), h.2⟩
  | .top, v, h => by rw [G]; trivial
termination_by x => SizeOf.sizeOf x
decreasing_by
  all_goals first
    | (have h3 := List.sizeOf_lt_of_mem (List.getElem_mem h); simp; omega)
    | (simp; done)
    | (simp; omega)
/-- The cells of a value. -/
def V.cells : V → List V
  | .agg cs => cs
  | v => [v]
/-- What the evaluator keeps in memory: boxes (variables), rows (slices under work). -/
def D.toV : D → Value
  | .int k n => .int k n
  | .bool b => .bool b
  | .str s => .string s
  | _ => .slice none 0 0
def D.simple : D → Bool
  | .int _ _ | .bool _ | .str _ => true
  | _ => false
inductive Raw where
  | iter (s : ByteArray) (pos : Nat)
  | map (kv : List (D × D))
inductive O where
  | box (cs : List V) (e : TypeId)
  | row (rows : List (List D)) (m : Nat) (e : TypeId)
  | raw (K : Raw)
  | arr (rows : List (List D)) (m : Nat) (e : TypeId)
def O.isRow : O → Bool
  | .row _ _ _ => true
  | _ => false
/-- What a row holds, whether it may be appended to or stays where it is. -/
def rowAt : Option O → Option (List (List D) × Nat × TypeId)
  | some (.row rows m e) => some (rows, m, e)
  | some (.arr rows m e) => some (rows, m, e)
  | _ => none
/-- A row with other elements. -/
def reRow : Option O → List (List D) → O
  | some (.row _ m e), rows => .row rows m e
  | some (.arr _ m e), rows => .arr rows m e
  | _, rows => .row rows 0 0
structure St where
  env : Nat → V
  os : Nat → Option O
def upd {α : Type} (f : Nat → α) (i : Nat) (x : α) : Nat → α := fun j => if j = i then x else f j
theorem upd_apply {α : Type} (f : Nat → α) (i j : Nat) (x : α) : upd f i x j = if j = i then x else f j := rfl
theorem upd_same {α : Type} (f : Nat → α) (i : Nat) (x : α) : upd f i x i = x := by simp [upd]
theorem upd_ne {α : Type} (f : Nat → α) {i j : Nat} (x : α) (h : j ≠ i) : upd f i x j = f j := by simp [upd, h]
/-- The blocks that data may lie in: those of no box and no row. -/
def Bk (X : Nat → Prop) (os : Nat → Option O) (ρ : Nat → Value) (w : World) : Nat → Prop := fun b => (b < w.heap.size ∧ X b) ∧ ∀ o, os o ≠ none → blockOf (ρ o) ≠ some b
def rowOk (B : Nat → Prop) (w : World) (rows : List (List D)) (m : Nat) (xs : List Value) : Prop :=
  (∀ i (h : i < rows.length), rows[i].length = m) ∧ ∀ i (h : i < rows.length) j (h2 : j < rows[i].length), ∃ u, xs[i * m + j]? = some u ∧ Rd B w rows[i][j] u
/-- Iterators and maps: the handle, the block's content. -/
def rawOk : Raw → Value → Obj → Prop
  | .iter s pos, v, x => (∃ b, v = .pointer (some ⟨b, 0, none⟩)) ∧ x = .stringIter s pos
  | .map kv, v, x => (∃ b, v = .map (some b)) ∧ ∃ es clock, x = .map es clock ∧ es.toList.map (fun e => (e.key, e.val)) = kv.map (fun q => (q.1.toV, q.2.toV)) ∧ kv.all (fun q => q.1.simple && q.2.simple) = true
def objOk (B : Nat → Prop) (w : World) (ρ : Nat → Value) (L : Nat → Prop) (o : Nat) : O → Prop
  | .box cs e => ∃ b vs, ρ o = .pointer (some ⟨b, 0, none⟩) ∧ w.heap[b]? = some (.cells (vs : List Value).toArray e (0, 0)) ∧ Gs B w ρ L cs vs ∧ ∀ u ∈ vs, u.oneCell' = true
  | .row rows m e => ∃ xs, w.ownsRow 0 e m (ρ o) rows.length xs ∧ rowOk B w rows m xs
  | .arr rows m e => ∃ xs, w.ownsRow 0 e m (ρ o) rows.length xs ∧ rowOk B w rows m xs
  | .raw K => ∃ b x, blockOf (ρ o) = some b ∧ w.heap[b]? = some x ∧ rawOk K (ρ o) x
/-- The boxes and rows that there are. -/
def Lv (os : Nat → Option O) : Nat → Prop := fun o => os o ≠ none
/-- The one package-level variable that may be read: where it lies, that it holds a number. -/
def gIx : Nat := 0
def GWm (m : Int) (w : World) : Prop := w.cell? ⟨gIx, 0, none⟩ = some (.int .i64 m)
def GW (w : World) : Prop := ∃ m, GWm m w
theorem GWm.of_block {m : Int} {w w' : World} (h : GWm m w) (hb : w'.heap[gIx]? = w.heap[gIx]?) : GWm m w' := by
  unfold GWm at h ⊢
  rw [World.cell?_of_block (w := w) hb]
  exact h
theorem GWm.lt {m : Int} {w : World} (h : GWm m w) : gIx < w.heap.size := by
  unfold GWm World.cell? at h
  rcases Nat.lt_or_ge gIx w.heap.size with c | c
  · exact c
  · simp [Array.getElem?_eq_none c] at h
/-- The frame and the world are ones of the abstract state. w0: the world at the call's begin; Pr: the blocks that must stay as they were; X: the blocks that may be read. -/
structure Gam (N : Nat) (w0 : World) (Pr X : Nat → Prop) (Z : Nat → Option Value) (ρ : Nat → Value) (st : St) (a : Act) (w : World) : Prop where
  defers : a.defers = []
  size : a.tmps.size = N
  env : ∀ t, G (Bk X st.os ρ w) w ρ (Lv st.os) (st.env t) (a.tmps.getD t undef)
  obj : ∀ o x, st.os o = some x → objOk (Bk X st.os ρ w) w ρ (Lv st.os) o x
  inj : ∀ o o' b, st.os o ≠ none → st.os o' ≠ none → blockOf (ρ o) = some b → blockOf (ρ o') = some b → o = o'
  one : ∀ o, (ρ o).oneCell' = true
  keep : ∀ b, Pr b → w.heap[b]? = w0.heap[b]?
  prot : ∀ o b, st.os o ≠ none → blockOf (ρ o) = some b → ¬ Pr b
  low : ∀ b, Pr b → b < w0.heap.size
  grow : w0.heap.size ≤ w.heap.size
  os' : w.os = w0.os
  tape : w.tape = w0.tape
  output : w.output = w0.output
  hX : ∀ b, w0.heap.size ≤ b → X b
  xo : ∀ o b, st.os o ≠ none → blockOf (ρ o) = some b → X b
  fix : ∀ o v, Z o = some v → 100000 ≤ o ∧ ρ o = v ∧ ∃ x, st.os o = some x ∧ x.isRow = false
  gp : GW w0 ∧ Pr gIx
theorem Gam.gm {N : Nat} {w0 : World} {Pr X : Nat → Prop} {Z : Nat → Option Value} {ρ : Nat → Value} {st : St} {a : Act} {w : World} (h : Gam N w0 Pr X Z ρ st a w) {m : Int} (hm : GWm m w0) : GWm m w := hm.of_block (h.keep _ h.gp.2)
theorem Gam.gw {N : Nat} {w0 : World} {Pr X : Nat → Prop} {Z : Nat → Option Value} {ρ : Nat → Value} {st : St} {a : Act} {w : World} (h : Gam N w0 Pr X Z ρ st a w) : GW w := let ⟨m, hm⟩ := h.gp.1; ⟨m, h.gm hm⟩
theorem Gam.put {N : Nat} {w0 : World} {Pr X : Nat → Prop} {Z : Nat → Option Value} {ρ : Nat → Value} {st : St} {a : Act} {w : World} (h : Gam N w0 Pr X Z ρ st a w) (t : Nat) (ht : t < N) (x : V) (v : Value) (hv : G (Bk X st.os ρ w) w ρ (Lv st.os) x v) :
    Gam N w0 Pr X Z ρ { st with env := upd st.env t x } (a.put (some t) v) w := by
  refine ⟨h.defers, by simp [Act.put, h.size], fun s => ?_, h.obj, h.inj, h.one, h.keep, h.prot, h.low, h.grow, h.os', h.tape, h.output, h.hX, h.xo, h.fix, h.gp⟩
  simp only [Act.put]
  by_cases c : s = t
  · subst c
    rw [upd_same]
    simpa [Array.getD_eq_getD_getElem?, Array.getElem?_setIfInBounds, h.size, ht] using hv
  · rw [upd_ne _ _ c]
    have := h.env s
    simpa [Array.getD_eq_getD_getElem?, Array.getElem?_setIfInBounds, Ne.symm c] using this
theorem Gam.undef {N : Nat} {w0 : World} {Pr X : Nat → Prop} {Z : Nat → Option Value} {ρ : Nat → Value} {st : St} {a : Act} {w : World} (h : Gam N w0 Pr X Z ρ st a w) (t : Option Nat) (v : Value) :
    Gam N w0 Pr X Z ρ { st with env := match t with | some t => upd st.env t .top | none => st.env } (a.put t v) w := by
  cases t with
  | none => exact h
  | some t =>
    refine ⟨h.defers, by simp [Act.put, h.size], fun s => ?_, h.obj, h.inj, h.one, h.keep, h.prot, h.low, h.grow, h.os', h.tape, h.output, h.hX, h.xo, h.fix, h.gp⟩
    simp only [Act.put]
    by_cases c : s = t
    · subst c; rw [upd_same, G]; trivial
    · rw [upd_ne _ _ c]
      have := h.env s
      simpa [Array.getD_eq_getD_getElem?, Array.getElem?_setIfInBounds, Ne.symm c] using this
/-- A world that has all old blocks as they were. -/
structure More (w w' : World) : Prop where
  size : w.heap.size ≤ w'.heap.size
  block : ∀ b, b < w.heap.size → w'.heap[b]? = w.heap[b]?
  os : w'.os = w.os
  tape : w'.tape = w.tape
  output : w'.output = w.output
theorem Below.more {w w' : World} (h : Below w.heap.size w w') : More w w' := ⟨h.size, h.block, h.os, h.tape, h.output⟩
theorem rowOk.mono {B B' : Nat → Prop} {w w' : World} (hb : ∀ b, B b → B' b) (hw : ∀ b, B b → w'.heap[b]? = w.heap[b]?) {rows : List (List D)} {m : Nat} {xs : List Value} (h : rowOk B w rows m xs) : rowOk B' w' rows m xs :=
  ⟨h.1, fun i hi j hj => let ⟨u, h1, h2⟩ := h.2 i hi j hj; ⟨u, h1, h2.mono hb hw⟩⟩
theorem Gs.mono {B B' : Nat → Prop} {w w' : World} {ρ ρ' : Nat → Value} {L L' : Nat → Prop} (hb : ∀ b, B b → B' b) (hw : ∀ b, B b → w'.heap[b]? = w.heap[b]?) (hn : ∀ o, L o → L' o) (hρ : ∀ o, L o → ρ' o = ρ o) {cs : List V} {vs : List Value} (h : Gs B w ρ L cs vs) : Gs B' w' ρ' L' cs vs :=
  ⟨h.1, fun i h1 h2 => (h.2 i h1 h2).mono hb hw hn hρ⟩
theorem heap_lt {w : World} {b : Nat} {o : Obj} (h : w.heap[b]? = some o) : b < w.heap.size := (Array.getElem?_eq_some_iff.1 h).1
/-- The block of an object, if it has one, is a block of the world. -/
theorem objOk.lt {B : Nat → Prop} {w : World} {ρ : Nat → Value} {L : Nat → Prop} {o : Nat} {x : O} (h : objOk B w ρ L o x) {b : Nat} (hb : blockOf (ρ o) = some b) : b < w.heap.size := by
  cases x with
  | box cs e =>
    obtain ⟨b', vs, e1, e2, _⟩ := h
    rw [e1] at hb
    simp only [blockOf, Option.some.injEq] at hb
    subst hb
    exact heap_lt e2
  | row rows m e =>
    obtain ⟨xs, ⟨_, h2⟩, _⟩ := h
    rcases h2 with ⟨e1, _⟩ | ⟨g, cap, cur, e1, _, e2, _⟩
    · rw [e1] at hb; simp [blockOf] at hb
    · rw [e1] at hb
      simp only [blockOf, Option.some.injEq] at hb
      subst hb
      exact heap_lt e2
  | arr rows m e =>
    obtain ⟨xs, ⟨_, h2⟩, _⟩ := h
    rcases h2 with ⟨e1, _⟩ | ⟨g, cap, cur, e1, _, e2, _⟩
    · rw [e1] at hb; simp [blockOf] at hb
    · rw [e1] at hb
      simp only [blockOf, Option.some.injEq] at hb
      subst hb
      exact heap_lt e2
  | raw K =>
    obtain ⟨b', y, e1, e2, _⟩ := h
    rw [e1] at hb
    simp only [Option.some.injEq] at hb
    subst hb
    exact heap_lt e2
/-- An object is not changed where its block is not. -/
theorem objOk.mono {B B' : Nat → Prop} {w w' : World} {ρ ρ' : Nat → Value} {L L' : Nat → Prop} {o : Nat} {x : O} (h : objOk B w ρ L o x) (hb : ∀ b, B b → B' b) (hw : ∀ b, B b → w'.heap[b]? = w.heap[b]?) (hn : ∀ o, L o → L' o) (hρ : ∀ o, L o → ρ' o = ρ o) (ho : ρ' o = ρ o)
    (hk : ∀ b, blockOf (ρ o) = some b → w'.heap[b]? = w.heap[b]?) : objOk B' w' ρ' L' o x := by
  cases x with
  | box cs e =>
    obtain ⟨b, vs, e1, e2, h3, h4⟩ := h
    exact ⟨b, vs, by rw [ho, e1], by rw [hk b (by rw [e1]; rfl)]; exact e2, h3.mono hb hw hn hρ, h4⟩
  | row rows m e =>
    obtain ⟨xs, ⟨h1, h2⟩, h3⟩ := h
    refine ⟨xs, ⟨h1, ?_⟩, h3.mono hb hw⟩
    rcases h2 with h2 | ⟨g, cap, cur, e1, e0, e2, h4⟩
    · exact .inl (by rw [ho]; exact h2)
    · exact .inr ⟨g, cap, cur, by rw [ho]; exact e1, e0, by rw [hk g (by rw [e1]; rfl)]; exact e2, h4⟩
  | arr rows m e =>
    obtain ⟨xs, ⟨h1, h2⟩, h3⟩ := h
    refine ⟨xs, ⟨h1, ?_⟩, h3.mono hb hw⟩
    rcases h2 with h2 | ⟨g, cap, cur, e1, e0, e2, h4⟩
    · exact .inl (by rw [ho]; exact h2)
    · exact .inr ⟨g, cap, cur, by rw [ho]; exact e1, e0, by rw [hk g (by rw [e1]; rfl)]; exact e2, h4⟩
  | raw K =>
    obtain ⟨b, y, e1, e2, e3⟩ := h
    exact ⟨b, y, by rw [ho]; exact e1, by rw [hk b e1]; exact e2, by rw [ho]; exact e3⟩
theorem Bk.more {X : Nat → Prop} {os : Nat → Option O} {ρ : Nat → Value} {w w' : World} (h : More w w') (b : Nat) (hb : Bk X os ρ w b) : Bk X os ρ w' b := ⟨⟨Nat.lt_of_lt_of_le hb.1.1 h.size, hb.1.2⟩, hb.2⟩
/-- New blocks leave the abstract state as it is. -/
theorem Gam.more {N : Nat} {w0 : World} {Pr X : Nat → Prop} {Z : Nat → Option Value} {ρ : Nat → Value} {st : St} {a : Act} {w w' : World} (h : Gam N w0 Pr X Z ρ st a w) (hm : More w w') : Gam N w0 Pr X Z ρ st a w' := by
  have hb : ∀ b, Bk X st.os ρ w b → Bk X st.os ρ w' b := fun b hb => hb.more hm
  have hw : ∀ b, Bk X st.os ρ w b → w'.heap[b]? = w.heap[b]? := fun b hb => hm.block b hb.1.1
  refine ⟨h.defers, h.size, fun t => (h.env t).mono hb hw (fun _ h => h) (fun _ _ => rfl), fun o x ho => ?_, h.inj, h.one, fun b hp => ?_, h.prot, h.low, Nat.le_trans h.grow hm.size, hm.os.trans h.os', hm.tape.trans h.tape, hm.output.trans h.output, h.hX, h.xo, h.fix, h.gp⟩
  · have hx := h.obj o x ho
    exact hx.mono hb hw (fun _ h => h) (fun _ _ => rfl) rfl (fun b e => hm.block b (hx.lt e))
  · rw [hm.block b (Nat.lt_of_lt_of_le (h.low b hp) h.grow)]
    exact h.keep b hp
end Go.Proofs.YtgnnakibcjonbaaGreatDoor.VE

/- The evaluator's memory: new objects, changed objects, moved rows. -/
namespace Go.Proofs.YtgnnakibcjonbaaGreatDoor.VE
open Go Go.RowKit
set_option linter.unusedVariables false
set_option linter.unusedSimpArgs false
section
variable {N : Nat} {w0 : World} {Pr X : Nat → Prop} {Z : Nat → Option Value} {ρ : Nat → Value} {st : St} {a : Act} {w w' : World}
theorem Gam.newObj (h : Gam N w0 Pr X Z ρ st a w) (hm : More w w') (t : Nat) (ht : st.os t = none) (htl : t < 100000) (v : Value) (x : O) (h1 : v.oneCell' = true) (hblk : ∀ b, blockOf v = some b → w.heap.size ≤ b)
    (hx : objOk (Bk X (upd st.os t (some x)) (upd ρ t v) w') w' (upd ρ t v) (Lv (upd st.os t (some x))) t x) :
    Gam N w0 Pr X Z (upd ρ t v) { env := st.env, os := upd st.os t (some x) } a w' := by
  have hρ : ∀ o, Lv st.os o → upd ρ t v o = ρ o := fun o ho => upd_ne _ _ (fun e => ho (by rw [e]; exact ht))
  have hL : ∀ o, Lv st.os o → Lv (upd st.os t (some x)) o := fun o ho => by
    unfold Lv
    rw [upd_ne _ _ (fun e => ho (by rw [e]; exact ht))]
    exact ho
  have hb : ∀ b, Bk X st.os ρ w b → Bk X (upd st.os t (some x)) (upd ρ t v) w' b := fun b hb => ⟨⟨Nat.lt_of_lt_of_le hb.1.1 hm.size, hb.1.2⟩, fun o ho => by
    by_cases c : o = t
    · subst c
      rw [upd_same]
      intro e
      have := hblk b e
      have := hb.1.1
      omega
    · rw [upd_ne _ _ c] at ho ⊢
      exact hb.2 o ho⟩
  have hw : ∀ b, Bk X st.os ρ w b → w'.heap[b]? = w.heap[b]? := fun b hb => hm.block b hb.1.1
  have onev : ∀ o, (upd ρ t v o).oneCell' = true := fun o => by
    by_cases c : o = t
    · rw [c, upd_same]; exact h1
    · rw [upd_ne _ _ c]; exact h.one o
  refine ⟨h.defers, h.size, fun t => (h.env t).mono hb hw hL hρ, fun o y ho => ?_, fun o o' b ho ho' e e' => ?_, onev, fun b hp => ?_, fun o b ho e => ?_, h.low, Nat.le_trans h.grow hm.size, hm.os.trans h.os', hm.tape.trans h.tape, hm.output.trans h.output, h.hX, fun o b ho e => ?_, fun o u hz => ?_, h.gp⟩
  · by_cases c : o = t
    · subst c
      simp only [upd_same, Option.some.injEq] at ho
      subst ho
      exact hx
    · simp only [upd_ne _ _ c] at ho
      have hy := h.obj o y ho
      exact hy.mono hb hw hL hρ (upd_ne _ _ c) (fun b e => hm.block b (hy.lt e))
  · have nb : ∀ o1 o2, o1 = t → o2 ≠ t → upd st.os t (some x) o2 ≠ none → blockOf (upd ρ t v o1) = some b → blockOf (upd ρ t v o2) = some b → False := by
      intro o1 o2 h1 h2 h3 h4 h5
      subst h1
      rw [upd_same] at h4
      rw [upd_ne _ _ h2] at h3 h5
      obtain ⟨y, hy⟩ := Option.ne_none_iff_exists'.1 h3
      have := (h.obj o2 y hy).lt h5
      have := hblk b h4
      omega
    by_cases c : o = t
    · by_cases c' : o' = t
      · rw [c, c']
      · exact (nb o o' c c' ho' e e').elim
    · by_cases c' : o' = t
      · exact (nb o' o c' c ho e' e).elim
      · simp only [upd_ne _ _ c, upd_ne _ _ c'] at ho ho' e e'
        exact h.inj o o' b ho ho' e e'
  · rw [hm.block b (Nat.lt_of_lt_of_le (h.low b hp) h.grow)]
    exact h.keep b hp
  · by_cases c : o = t
    · subst c
      rw [upd_same] at e
      intro hp
      have := hblk b e
      have := h.low b hp
      have := h.grow
      omega
    · simp only [upd_ne _ _ c] at ho e
      exact h.prot o b ho e
  · by_cases c : o = t
    · subst c
      rw [upd_same] at e
      have := hblk b e
      exact h.hX b (Nat.le_trans h.grow this)
    · simp only [upd_ne _ _ c] at ho e
      exact h.xo o b ho e
  · obtain ⟨h1, h2, y, h3, h4⟩ := h.fix o u hz
    have c : o ≠ t := by omega
    exact ⟨h1, by rw [upd_ne _ _ c]; exact h2, y, by simp only [upd_ne _ _ c]; exact h3, h4⟩
/-- An object is changed in place. -/
theorem Gam.setObj (h : Gam N w0 Pr X Z ρ st a w) (o : Nat) (ho : st.os o ≠ none) (hsz : w.heap.size ≤ w'.heap.size) (hos : w'.os = w.os) (htp : w'.tape = w.tape) (hout : w'.output = w.output)
    (hblk : ∀ b, b < w.heap.size → blockOf (ρ o) ≠ some b → w'.heap[b]? = w.heap[b]?) (x : O) (hk : ∀ y, st.os o = some y → y.isRow = false → x.isRow = false) (hx : objOk (Bk X (upd st.os o (some x)) ρ w') w' ρ (Lv (upd st.os o (some x))) o x) :
    Gam N w0 Pr X Z ρ { st with os := upd st.os o (some x) } a w' := by
  have dom : ∀ o', upd st.os o (some x) o' ≠ none ↔ st.os o' ≠ none := fun o' => by
    by_cases c : o' = o
    · subst c; rw [upd_same]; simp [ho]
    · rw [upd_ne _ _ c]
  have hL : ∀ o', Lv st.os o' → Lv (upd st.os o (some x)) o' := fun o' ho' => (dom o').2 ho'
  have hb : ∀ b, Bk X st.os ρ w b → Bk X (upd st.os o (some x)) ρ w' b := fun b hb => ⟨⟨Nat.lt_of_lt_of_le hb.1.1 hsz, hb.1.2⟩, fun o' ho' => hb.2 o' ((dom o').1 ho')⟩
  have hw : ∀ b, Bk X st.os ρ w b → w'.heap[b]? = w.heap[b]? := fun b hb => hblk b hb.1.1 (hb.2 o ho)
  refine ⟨h.defers, h.size, fun t => (h.env t).mono hb hw hL (fun _ _ => rfl), fun o' y ho' => ?_, fun o1 o2 b h1 h2 e1 e2 => h.inj o1 o2 b ((dom o1).1 h1) ((dom o2).1 h2) e1 e2, h.one, fun b hp => ?_, fun o' b ho' e => h.prot o' b ((dom o').1 ho') e, h.low, Nat.le_trans h.grow hsz, hos.trans h.os', htp.trans h.tape, hout.trans h.output, h.hX, fun o' b ho' e => h.xo o' b ((dom o').1 ho') e, fun o' u hz => ?_, h.gp⟩
  · by_cases c : o' = o
    · subst c
      simp only [upd_same, Option.some.injEq] at ho'
      subst ho'
      exact hx
    · simp only [upd_ne _ _ c] at ho'
      have hy := h.obj o' y ho'
      exact hy.mono hb hw hL (fun _ _ => rfl) rfl (fun b e => hblk b (hy.lt e) (fun e2 => c (h.inj o' o b (by rw [ho']; simp) ho e e2)))
  · rw [hblk b (Nat.lt_of_lt_of_le (h.low b hp) h.grow) (fun e => h.prot o b ho e hp)]
    exact h.keep b hp
  · obtain ⟨h1, h2, y, h3, h4⟩ := h.fix o' u hz
    by_cases c : o' = o
    · subst c
      exact ⟨h1, h2, x, upd_same _ _ _, hk y h3 h4⟩
    · exact ⟨h1, h2, y, by simp only [upd_ne _ _ c]; exact h3, h4⟩
end
mutual
/-- What mentions the object o is forgotten. -/
def V.kill (o : Nat) : V → V
  | .ptr o' c => if o' = o then .top else .ptr o' c
  | .row o' => if o' = o then .top else .row o'
  | .rptr o' m i j => if o' = o then .top else .rptr o' m i j
  | .agg cs => .agg (V.kills o cs)
  | .tup cs => .tup (V.kills o cs)
  | .fnc f cs => .fnc f (V.kills o cs)
  | .whn b x => .whn b (x.kill o)
  | v => v
def V.kills (o : Nat) : List V → List V
  | [] => []
  | y :: r => V.kill o y :: V.kills o r
end
theorem V.kills_eq (o : Nat) : ∀ cs : List V, V.kills o cs = cs.map (V.kill o)
  | [] => rfl
  | y :: r => by rw [V.kills, V.kills_eq o r]; rfl
def O.kill (o : Nat) : O → O
  | .box cs e => .box (cs.map (V.kill o)) e
  | x => x
theorem O.kill_isRow (o : Nat) (x : O) : (x.kill o).isRow = x.isRow := by cases x <;> rfl
theorem G.kill {B : Nat → Prop} {w : World} {ρ ρ' : Nat → Value} {L L' : Nat → Prop} (o : Nat) (hρ : ∀ o', o' ≠ o → L o' → ρ' o' = ρ o') (hL : ∀ o', o' ≠ o → L o' → L' o') : ∀ (x : V) (v : Value), G B w ρ L x v → G B w ρ' L' (x.kill o) v
  | .d x, v, h => by simp only [V.kill, V.kills_eq]; rw [G] at h ⊢; exact h
  | .nil, v, h => by simp only [V.kill, V.kills_eq]; rw [G] at h ⊢; exact h
  | .ptr o' c, v, h => by
    simp only [V.kill, V.kills_eq]
    split
    · rw [G]; trivial
    · rename_i hne; rw [G] at h ⊢; rw [hρ o' hne h.1]; exact ⟨hL o' hne h.1, h.2⟩
  | .row o', v, h => by
    simp only [V.kill, V.kills_eq]
    split
    · rw [G]; trivial
    · rename_i hne; rw [G] at h ⊢; rw [hρ o' hne h.1]; exact ⟨hL o' hne h.1, h.2⟩
  | .rptr o' m i j, v, h => by
    simp only [V.kill, V.kills_eq]
    split
    · rw [G]; trivial
    · rename_i hne; rw [G] at h ⊢; rw [hρ o' hne h.1]; exact ⟨hL o' hne h.1, h.2⟩
  | .dptr cs, v, h => by simp only [V.kill, V.kills_eq]; rw [G] at h ⊢; exact h
  | .agg cs, v, h => by
    simp only [V.kill, V.kills_eq]
    rw [G] at h ⊢
    obtain ⟨vs, e, hl, hv⟩ := h
    exact ⟨vs, e, by simpa using hl, fun i h h2 => by rw [List.getElem_map]; exact G.kill o hρ hL _ _ (hv i (by simpa using h) h2)⟩
  | .tup cs, v, h => by
    simp only [V.kill, V.kills_eq]
    rw [G] at h ⊢
    obtain ⟨vs, e, hl, hv⟩ := h
    exact ⟨vs, e, by simpa using hl, fun i h h2 => by rw [List.getElem_map]; exact G.kill o hρ hL _ _ (hv i (by simpa using h) h2)⟩
  | .fnc f cs, v, h => by
    simp only [V.kill, V.kills_eq]
    rw [G] at h ⊢
    obtain ⟨vs, e, hl, hv⟩ := h
    exact ⟨vs, e, by simpa using hl, fun i h h2 => by rw [List.getElem_map]; exact G.kill o hρ hL _ _ (hv i (by simpa using h) h2)⟩
  | .whn b x, v, h => by simp only [V.kill, V.kills_eq]; rw [G] at h ⊢; exact ⟨fun e => G.kill o hρ hL x v (h.1 e), h.2⟩
  | .top, v, h => by simp only [V.kill, V.kills_eq]; rw [G]; trivial
termination_by x => SizeOf.sizeOf x
decreasing_by
  all_goals first
    | (have h3 := List.sizeOf_lt_of_mem (List.getElem_mem (by simpa using h)); simp; omega)
    | (simp; done)
    | (simp; omega)
theorem Gs.kill {B : Nat → Prop} {w : World} {ρ ρ' : Nat → Value} {L L' : Nat → Prop} (o : Nat) (hρ : ∀ o', o' ≠ o → L o' → ρ' o' = ρ o') (hL : ∀ o', o' ≠ o → L o' → L' o') {cs : List V} {vs : List Value} (h : Gs B w ρ L cs vs) : Gs B w ρ' L' (cs.map (V.kill o)) vs :=
  ⟨by simpa using h.1, fun i h1 h2 => by rw [List.getElem_map]; exact (h.2 i (by simpa using h1) h2).kill o hρ hL⟩
section
variable {N : Nat} {w0 : World} {Pr X : Nat → Prop} {Z : Nat → Option Value} {ρ : Nat → Value} {st : St} {a : Act} {w w' : World}
/-- A row is changed, and may have moved: what mentions it is forgotten. -/
theorem Gam.moveObj (h : Gam N w0 Pr X Z ρ st a w) (o : Nat) (ho : st.os o ≠ none) (hrow : ∀ y, st.os o = some y → y.isRow = true) (hsz : w.heap.size ≤ w'.heap.size) (hos : w'.os = w.os) (htp : w'.tape = w.tape) (hout : w'.output = w.output)
    (hblk : ∀ b, b < w.heap.size → blockOf (ρ o) ≠ some b → w'.heap[b]? = w.heap[b]?) (v : Value) (h1 : v.oneCell' = true) (hv : ∀ b, blockOf v = some b → blockOf (ρ o) = some b ∨ w.heap.size ≤ b) (x : O)
    (hx : objOk (Bk X (fun o' => if o' = o then some x else (st.os o').map (O.kill o)) (upd ρ o v) w') w' (upd ρ o v) (Lv (fun o' => if o' = o then some x else (st.os o').map (O.kill o))) o x) :
    Gam N w0 Pr X Z (upd ρ o v) { st with env := fun t => (st.env t).kill o, os := fun o' => if o' = o then some x else (st.os o').map (O.kill o) } a w' := by
  have hρ : ∀ o', o' ≠ o → Lv st.os o' → upd ρ o v o' = ρ o' := fun o' c _ => upd_ne _ _ c
  have dom : ∀ o', (if o' = o then some x else (st.os o').map (O.kill o)) ≠ none ↔ st.os o' ≠ none := fun o' => by
    by_cases c : o' = o
    · subst c; simp [ho]
    · simp [c]
  have hL : ∀ o', o' ≠ o → Lv st.os o' → Lv (fun o' => if o' = o then some x else (st.os o').map (O.kill o)) o' := fun o' _ l => (dom o').2 l
  have sub : ∀ o', blockOf (upd ρ o v o') = blockOf (ρ o') ∨ (o' = o) := fun o' => by
    by_cases c : o' = o
    · exact .inr c
    · exact .inl (by rw [upd_ne _ _ c])
  have hb : ∀ b, Bk X st.os ρ w b → Bk X (fun o' => if o' = o then some x else (st.os o').map (O.kill o)) (upd ρ o v) w' b := fun b hb => ⟨⟨Nat.lt_of_lt_of_le hb.1.1 hsz, hb.1.2⟩, fun o' ho' e => by
    have hl := (dom o').1 ho'
    rcases sub o' with e2 | c
    · exact hb.2 o' hl (by rw [← e2]; exact e)
    · subst c
      rw [upd_same] at e
      rcases hv b e with e3 | e3
      · exact hb.2 o' hl e3
      · have := hb.1.1; omega⟩
  have hw : ∀ b, Bk X st.os ρ w b → w'.heap[b]? = w.heap[b]? := fun b hb => hblk b hb.1.1 (hb.2 o ho)
  have onev : ∀ o', (upd ρ o v o').oneCell' = true := fun o' => by
    by_cases c : o' = o
    · rw [c, upd_same]; exact h1
    · rw [upd_ne _ _ c]; exact h.one o'
  refine ⟨h.defers, h.size, fun t => ?_, fun o' y ho' => ?_, fun o1 o2 b h1 h2 e1 e2 => ?_, fun o' => onev o', fun b hp => ?_, fun o' b ho' e => ?_, h.low, Nat.le_trans h.grow hsz, hos.trans h.os', htp.trans h.tape, hout.trans h.output, h.hX, fun o' b ho' e => ?_, fun o' u hz => ?_, h.gp⟩
  · exact ((h.env t).kill o hρ hL).mono hb hw (fun _ h => h) (fun _ _ => rfl)
  · by_cases c : o' = o
    · subst c
      simp only [if_true, Option.some.injEq] at ho'
      subst ho'
      exact hx
    · simp only [if_neg c, Option.map_eq_some_iff] at ho'
      obtain ⟨z, hz, rfl⟩ := ho'
      have hy := h.obj o' z hz
      have hk : ∀ b, blockOf (ρ o') = some b → w'.heap[b]? = w.heap[b]? := fun b e => hblk b (hy.lt e) (fun e2 => c (h.inj o' o b (by rw [hz]; simp) ho e e2))
      cases z with
      | box cs e =>
        obtain ⟨b, vs, e1, e2, h3, h4⟩ := hy
        exact ⟨b, vs, by rw [upd_ne _ _ c, e1], by rw [hk b (by rw [e1]; rfl)]; exact e2, (h3.kill o hρ hL).mono hb hw (fun _ h => h) (fun _ _ => rfl), h4⟩
      | row rows m e =>
        obtain ⟨xs, ⟨h1, h2⟩, h3⟩ := hy
        refine ⟨xs, ⟨h1, ?_⟩, h3.mono hb hw⟩
        rcases h2 with h2 | ⟨g, cap, cur, e1, e0, e2, h4⟩
        · exact .inl (by rw [upd_ne _ _ c]; exact h2)
        · exact .inr ⟨g, cap, cur, by rw [upd_ne _ _ c]; exact e1, e0, by rw [hk g (by rw [e1]; rfl)]; exact e2, h4⟩
      | arr rows m e =>
        obtain ⟨xs, ⟨h1, h2⟩, h3⟩ := hy
        refine ⟨xs, ⟨h1, ?_⟩, h3.mono hb hw⟩
        rcases h2 with h2 | ⟨g, cap, cur, e1, e0, e2, h4⟩
        · exact .inl (by rw [upd_ne _ _ c]; exact h2)
        · exact .inr ⟨g, cap, cur, by rw [upd_ne _ _ c]; exact e1, e0, by rw [hk g (by rw [e1]; rfl)]; exact e2, h4⟩
      | raw K =>
        obtain ⟨b, y, e1, e2, e3⟩ := hy
        exact ⟨b, y, by rw [upd_ne _ _ c]; exact e1, by rw [hk b e1]; exact e2, by rw [upd_ne _ _ c]; exact e3⟩
  · have l1 := (dom o1).1 h1
    have l2 := (dom o2).1 h2
    by_cases c1 : o1 = o
    · by_cases c2 : o2 = o
      · rw [c1, c2]
      · subst c1
        rw [upd_same] at e1
        rw [upd_ne _ _ c2] at e2
        rcases hv b e1 with e3 | e3
        · exact h.inj o1 o2 b l1 l2 e3 e2
        · obtain ⟨y, hy⟩ := Option.ne_none_iff_exists'.1 l2
          have := (h.obj o2 y hy).lt e2
          omega
    · by_cases c2 : o2 = o
      · subst c2
        rw [upd_same] at e2
        rw [upd_ne _ _ c1] at e1
        rcases hv b e2 with e3 | e3
        · exact h.inj o1 o2 b l1 l2 e1 e3
        · obtain ⟨y, hy⟩ := Option.ne_none_iff_exists'.1 l1
          have := (h.obj o1 y hy).lt e1
          omega
      · rw [upd_ne _ _ c1] at e1
        rw [upd_ne _ _ c2] at e2
        exact h.inj o1 o2 b l1 l2 e1 e2
  · rw [hblk b (Nat.lt_of_lt_of_le (h.low b hp) h.grow) (fun e => h.prot o b ho e hp)]
    exact h.keep b hp
  · have l := (dom o').1 ho'
    by_cases c : o' = o
    · subst c
      rw [upd_same] at e
      rcases hv b e with e3 | e3
      · exact h.prot o' b l e3
      · intro hp
        have := h.low b hp
        have := h.grow
        omega
    · rw [upd_ne _ _ c] at e
      exact h.prot o' b l e
  · have l := (dom o').1 ho'
    by_cases c : o' = o
    · subst c
      rw [upd_same] at e
      rcases hv b e with e3 | e3
      · exact h.xo o' b l e3
      · exact h.hX b (Nat.le_trans h.grow e3)
    · rw [upd_ne _ _ c] at e
      exact h.xo o' b l e
  · obtain ⟨h1, h2, y, h3, h4⟩ := h.fix o' u hz
    have c : o' ≠ o := fun e2 => by
      have := hrow y (e2 ▸ h3)
      rw [this] at h4
      cases h4
    exact ⟨h1, by rw [upd_ne _ _ c]; exact h2, y.kill o, by simp [c, h3], by rw [O.kill_isRow]; exact h4⟩
/-- An object is forgotten. -/
def dropO (st : St) (o : Nat) : St := { env := fun t => (st.env t).kill o, os := fun o' => if o' = o then none else (st.os o').map (O.kill o) }
theorem Gam.drop (h : Gam N w0 Pr X Z ρ st a w) (o : Nat) (hol : o < 100000) : Gam N w0 Pr X Z ρ (dropO st o) a w := by
  have dom : ∀ o', (if o' = o then none else (st.os o').map (O.kill o)) ≠ none → o' ≠ o ∧ st.os o' ≠ none := fun o' ho' => by
    by_cases c : o' = o
    · simp [c] at ho'
    · simp only [if_neg c] at ho'
      exact ⟨c, by intro e3; rw [e3] at ho'; simp at ho'⟩
  have hL : ∀ o', o' ≠ o → Lv st.os o' → Lv (fun o' => if o' = o then none else (st.os o').map (O.kill o)) o' := fun o' c l => by
    unfold Lv at l ⊢
    simp only [if_neg c]
    intro e
    rw [Option.map_eq_none_iff] at e
    exact l e
  have hρ : ∀ o', o' ≠ o → Lv st.os o' → ρ o' = ρ o' := fun _ _ _ => rfl
  have hb : ∀ b, Bk X st.os ρ w b → Bk X (fun o' => if o' = o then none else (st.os o').map (O.kill o)) ρ w b := fun b hb => ⟨hb.1, fun o' ho' => hb.2 o' (dom o' ho').2⟩
  refine ⟨h.defers, h.size, fun t => ((h.env t).kill o hρ hL).mono hb (fun _ _ => rfl) (fun _ h => h) (fun _ _ => rfl), fun o' y ho' => ?_, fun o1 o2 b h1 h2 => h.inj o1 o2 b (dom o1 h1).2 (dom o2 h2).2, h.one, h.keep, fun o' b ho' => h.prot o' b (dom o' ho').2, h.low, h.grow, h.os', h.tape, h.output, h.hX, fun o' b ho' => h.xo o' b (dom o' ho').2, fun o' u hz => ?_, h.gp⟩
  rotate_left
  · obtain ⟨h1, h2, y, h3, h4⟩ := h.fix o' u hz
    have c : o' ≠ o := by omega
    exact ⟨h1, h2, y.kill o, by simp [dropO, c, h3], by rw [O.kill_isRow]; exact h4⟩
  by_cases c : o' = o
  · simp [dropO, c] at ho'
  · simp only [dropO, if_neg c, Option.map_eq_some_iff] at ho'
    obtain ⟨z, hz, rfl⟩ := ho'
    have hy := h.obj o' z hz
    cases z with
    | box cs e =>
      obtain ⟨b, vs, e1, e2, h3, h4⟩ := hy
      exact ⟨b, vs, e1, e2, (h3.kill o hρ hL).mono hb (fun _ _ => rfl) (fun _ h => h) (fun _ _ => rfl), h4⟩
    | row rows m e =>
      obtain ⟨xs, h1, h3⟩ := hy
      exact ⟨xs, h1, h3.mono hb (fun _ _ => rfl)⟩
    | arr rows m e =>
      obtain ⟨xs, h1, h3⟩ := hy
      exact ⟨xs, h1, h3.mono hb (fun _ _ => rfl)⟩
    | raw K => exact hy
/-- Room for a new object. -/
def fresh (st : St) (o : Nat) : St :=
  match st.os o with
  | none => st
  | some _ => dropO st o
theorem Gam.fresh (h : Gam N w0 Pr X Z ρ st a w) (o : Nat) (hol : o < 100000) : Gam N w0 Pr X Z ρ (VE.fresh st o) a w ∧ (VE.fresh st o).os o = none := by
  unfold VE.fresh
  split
  · exact ⟨h, by assumption⟩
  · exact ⟨h.drop o hol, by simp [dropO]⟩
end
end Go.Proofs.YtgnnakibcjonbaaGreatDoor.VE

/- The evaluator's operations that only give a value. -/
namespace Go.Proofs.YtgnnakibcjonbaaGreatDoor.VE
open Go Go.RowKit
set_option linter.unusedVariables false
set_option linter.unusedSimpArgs false
inductive TK where
  | other
  | bool
  | str
  | int (k : IntKind)
  | slice (e : TypeId)
  | strct (fs : List (Nat × TypeId))
  | array (n : Nat) (e : TypeId)
  | map (k e : TypeId)
/-- What the evaluator must know of a type. -/
structure TI where
  size : Nat
  bytes : Nat
  agg : Bool
  kind : TK
  zero : List V
  eq : Bool
/-- A constant's value. -/
def cst : Value → V
  | .int k n => .d (.int k n)
  | .bool b => .d (.bool b)
  | .string s => .d (.str s)
  | .slice none 0 0 => .nil
  | _ => .top
theorem G.cst {B : Nat → Prop} {w : World} {ρ : Nat → Value} {L : Nat → Prop} (v : Value) : G B w ρ L (cst v) v := by
  unfold VE.cst
  split <;> simp [G, Rd]
def litB : Value → V → Bool
  | .int k n, .d (.int k' n') => decide (k = k') && decide (n = n')
  | .bool b, .d (.bool b') => b == b'
  | .string s, .d (.str s') => s.size == 0 && s'.size == 0
  | .slice none 0 0, .nil => true
  | _, .top => true
  | _, _ => false
theorem size_zero {s : ByteArray} (h : s.size = 0) : s = ⟨#[]⟩ := by
  apply ByteArray.ext
  exact Array.eq_empty_of_size_eq_zero h
theorem G.lit {B : Nat → Prop} {w : World} {ρ : Nat → Value} {L : Nat → Prop} {v : Value} {x : V} (h : litB v x = true) : G B w ρ L x v := by
  unfold litB at h
  split at h <;> simp [G, Rd] at h ⊢
  · exact ⟨h.1, h.2⟩
  · exact h
  · rw [h.1, h.2]
def TK.ok (P : Program) : TK → TypeDesc → Bool
  | .other, _ => true
  | .bool, .bool => true
  | .str, .string => true
  | .int k, .int k' => decide (k = k')
  | .slice e, .slice e' => decide (e = e')
  | .strct fs, .struct gs => decide (gs.toList.map (fun f => (f.offset, f.type)) = fs) && fs.all (fun p => decide ((P.info? p.2).map (·.size) ≠ some 0) && (P.info? p.2).isSome)
  | .array n e, .array n' e' => decide (n = n') && decide (e = e')
  | .map k e, .map k' e' => decide (k = k') && decide (e = e')
  | _, _ => false
def isAggD : TypeDesc → Bool
  | .struct _ | .array _ _ => true
  | _ => false
def zeroB : List Value → List V → Bool
  | [], [] => true
  | v :: vs, x :: xs => litB v x && zeroB vs xs
  | _, _ => false
def zeroOne : Option Value → Bool
  | some (.agg _) | some (.tuple _) => false
  | _ => true
/-- A struct whose values the model compares field by field. -/
def eqOkB (P : Program) (t : TypeId) : Bool :=
  match P.underlying t with
  | some (.struct fs) => fs.toList.all (fun f => f.name != "_") && !P.stoodInHeld t && !P.eqGuardType P.depth t
  | _ => false
def tiA (P : Program) (t : TypeId) (i : TI) : Bool :=
  match P.info? t, P.underlying t with
  | some j, some d => decide (j.size = i.size) && decide (j.bytes = i.bytes) && (isAggD d == i.agg) && i.kind.ok P d && (match j.zero with | some z => zeroB z.cells.toList i.zero && decide (z.cells.size = j.size) && z.cells.toList.all (fun u => u.oneCell') | none => false) && (i.agg || zeroOne j.zero)
  | _, _ => false
def tiB (P : Program) (t : TypeId) (i : TI) : Bool := tiA P t i && (!i.eq || eqOkB P t)
theorem tiB_A {P : Program} {t : TypeId} {i : TI} (h : tiB P t i = true) : tiA P t i = true := by
  unfold tiB at h
  rw [Bool.and_eq_true] at h
  exact h.1
theorem tiB_eq {P : Program} {t : TypeId} {i : TI} (h : tiB P t i = true) (he : i.eq = true) : eqOkB P t = true := by
  unfold tiB at h
  rw [Bool.and_eq_true, he] at h
  simpa using h.2
theorem zeroB_Gs {B : Nat → Prop} {w : World} {ρ : Nat → Value} {L : Nat → Prop} : ∀ {vs : List Value} {xs : List V}, zeroB vs xs = true → Gs B w ρ L xs vs
  | [], [], _ => ⟨rfl, fun i h => by simp at h⟩
  | [], _ :: _, h => by simp [zeroB] at h
  | _ :: _, [], h => by simp [zeroB] at h
  | v :: vs, x :: xs, h => by
    simp only [zeroB, Bool.and_eq_true] at h
    have ih := zeroB_Gs (B := B) (w := w) (ρ := ρ) (L := L) h.2
    refine ⟨by simp [ih.1], fun i h1 h2 => ?_⟩
    match i with
    | 0 => exact G.lit h.1
    | i + 1 => exact ih.2 i (by simpa using h1) (by simpa using h2)
/-- The package-level variable's value; functions without a body that hang on it. -/
structure Gl where
  m : Int
  ext : FuncId → List V → Option (Prop × V)
/-- What the evaluator is given: types, functions that are pure. -/
structure Cx where
  T : TypeId → Option TI
  Γ : FuncId → List V → Option (Prop × V)
  Δ : FuncId → List V → List O → Option (Prop × V × List O)
  pl : Nat → List (Nat × List Nat)
  gm : Gl
def ev (env : Nat → V) : Operand → V
  | .tmp t => env t
  | .const v => cst v
  | .global _ => .top
  | .func f => .d (.fn f)
theorem ev_G {N : Nat} {w0 : World} {Pr X : Nat → Prop} {Z : Nat → Option Value} {ρ : Nat → Value} {st : St} {a : Act} {w : World} (h : Gam N w0 Pr X Z ρ st a w) (x : Operand) : G (Bk X st.os ρ w) w ρ (Lv st.os) (ev st.env x) (a.eval x) := by
  cases x with
  | tmp t => exact h.env t
  | const v => exact G.cst v
  | global g => simp [ev, G]
  | func f => simp [ev, G, Rd, Act.eval]
def sEq (a b : ByteArray) : Bool := a.toList == b.toList
def sLt (a b : ByteArray) : Bool := Op.bytesLess a.toList b.toList
def shlV (k : IntKind) (a b : Int) : Int := k.wrap (a * 2 ^ (min b.toNat k.bits))
def shrV (k : IntKind) (a b : Int) : Int := a.fdiv (2 ^ (min b.toNat k.bits))
def intV (op : BinOp) (k : IntKind) (a b : Int) : Option (Prop × V) :=
  match op with
  | .add => some (True, .d (.int k (k.wrap (a + b))))
  | .sub => some (True, .d (.int k (k.wrap (a - b))))
  | .mul => some (True, .d (.int k (k.wrap (a * b))))
  | .quo => some (b ≠ 0, .d (.int k (k.wrap (a.tdiv b))))
  | .rem => some (b ≠ 0, .d (.int k (a.tmod b)))
  | .and => some (True, .d (.int k (bits .and k a b)))
  | .or => some (True, .d (.int k (bits .or k a b)))
  | .xor => some (True, .d (.int k (bits .xor k a b)))
  | .andNot => some (True, .d (.int k (bits .andNot k a b)))
  | .eql => some (True, .d (.bool (a == b)))
  | .neq => some (True, .d (.bool (a != b)))
  | .lss => some (True, .d (.bool (decide (a < b))))
  | .leq => some (True, .d (.bool (decide (a ≤ b))))
  | .gtr => some (True, .d (.bool (decide (a > b))))
  | .geq => some (True, .d (.bool (decide (a ≥ b))))
  | _ => none
def strV (op : BinOp) (a b : ByteArray) : Option (Prop × V) :=
  match op with
  | .add => some (a.size + b.size ≤ 9223372036854775807, .d (.str (a ++ b)))
  | .eql => some (True, .d (.bool (sEq a b)))
  | .neq => some (True, .d (.bool (!sEq a b)))
  | .lss => some (True, .d (.bool (sLt a b)))
  | .leq => some (True, .d (.bool (sLt a b || sEq a b)))
  | .gtr => some (True, .d (.bool (!(sLt a b || sEq a b))))
  | .geq => some (True, .d (.bool (!sLt a b)))
  | _ => none
/-- Equal cells of a type. -/
def eqL : TK → List V → List V → Option Bool
  | .int q, [.d (.int k a)], [.d (.int k' b)] => if k = q ∧ k' = q then some (a == b) else none
  | .str, [.d (.str a)], [.d (.str b)] => some (sEq a b)
  | .bool, [.d (.bool a)], [.d (.bool b)] => some (a == b)
  | _, _, _ => none
def eqFs (T : TypeId → Option TI) (g : TypeId → List V → List V → Option Bool) : List (Nat × TypeId) → List V → List V → Option Bool
  | [], _, _ => some true
  | (off, ft) :: r, xs, ys => match T ft with
    | some fi => match g ft ((xs.drop off).take fi.size) ((ys.drop off).take fi.size), eqFs T g r xs ys with
      | some a, some b => some (a && b)
      | _, _ => none
    | none => none
def eqF (T : TypeId → Option TI) : Nat → TypeId → List V → List V → Option Bool
  | 0, _, _, _ => none
  | d + 1, t, xs, ys => match T t with
    | some i => match i.kind with
      | .strct fs => if i.eq then eqFs T (eqF T d) fs xs ys else none
      | k => eqL k xs ys
    | none => none
def eqR (op : BinOp) : Option Bool → Option (Prop × V)
  | some b => if op = .eql then some (True, .d (.bool b)) else if op = .neq then some (True, .d (.bool !b)) else none
  | none => none
def binV (C : Cx) (op : BinOp) (xt : TypeId) (x y : V) : Option (Prop × V) :=
  match x, y with
  | .d (.int k a), .d (.int k' b) =>
    if op = .shl then some (0 ≤ b, .d (.int k (shlV k a b)))
    else if op = .shr then some (0 ≤ b, .d (.int k (shrV k a b)))
    else if k = k' then intV op k a b else none
  | .d (.str a), .d (.str b) => strV op a b
  | .d (.bool a), .d (.bool b) =>
    match (C.T xt).map (·.kind) with
    | some TK.bool => if op = .eql then some (True, .d (.bool (a == b))) else if op = .neq then some (True, .d (.bool (!(a == b)))) else none
    | _ => none
  | .agg xs, .agg ys => if (C.T xt).map (·.eq) = some true then eqR op (eqF C.T 6 xt xs ys) else none
  | _, _ => none
def TOK (P : Program) (T : TypeId → Option TI) : Prop := ∀ t i, T t = some i → tiB P t i = true
structure TFacts (P : Program) (t : TypeId) (i : TI) : Prop where
  ex : ∃ j d z, P.info? t = some j ∧ P.underlying t = some d ∧ j.size = i.size ∧ j.bytes = i.bytes ∧ isAggD d = i.agg ∧ i.kind.ok P d = true ∧ j.zero = some z ∧ zeroB z.cells.toList i.zero = true ∧ z.cells.size = i.size ∧ (∀ u ∈ z.cells.toList, u.oneCell' = true)
theorem TOK.facts {P : Program} {T : TypeId → Option TI} (h : TOK P T) {t : TypeId} {i : TI} (ht : T t = some i) :
    ∃ j d z, P.info? t = some j ∧ P.underlying t = some d ∧ j.size = i.size ∧ j.bytes = i.bytes ∧ isAggD d = i.agg ∧ i.kind.ok P d = true ∧ j.zero = some z ∧ zeroB z.cells.toList i.zero = true ∧ z.cells.size = i.size ∧ (∀ u ∈ z.cells.toList, u.oneCell' = true) := by
  have := tiB_A (h t i ht)
  unfold tiA at this
  split at this
  · rename_i j d hj hd
    simp only [Bool.and_eq_true, decide_eq_true_eq, beq_iff_eq] at this
    obtain ⟨⟨⟨⟨⟨h1, h2⟩, h3⟩, h4⟩, h5⟩, _⟩ := this
    split at h5
    · rename_i z hz
      simp only [Bool.and_eq_true, decide_eq_true_eq, List.all_eq_true] at h5
      exact ⟨j, d, z, hj, hd, h1, h2, h3, h4, hz, h5.1.1, by rw [h5.1.2, h1], h5.2⟩
    · simp at h5
  · simp at this
/-- The zero value of a type of one cell. -/
theorem TOK.zero1 {P : Program} {T : TypeId → Option TI} (h : TOK P T) {t : TypeId} {i : TI} (ht : T t = some i) (ha : i.agg = false) {x : V} (hx : i.zero = [x]) : ∃ j z, P.info? t = some j ∧ j.zero = some z ∧ litB z x = true := by
  have := tiB_A (h t i ht)
  unfold tiA at this
  split at this
  · rename_i j d hj hd
    simp only [Bool.and_eq_true, decide_eq_true_eq, beq_iff_eq] at this
    obtain ⟨⟨⟨⟨⟨h1, h2⟩, h3⟩, h4⟩, h5⟩, h6⟩ := this
    split at h5
    · rename_i z hz
      simp only [Bool.and_eq_true, decide_eq_true_eq, List.all_eq_true] at h5
      rw [ha, hz] at h6
      refine ⟨j, z, hj, hz, ?_⟩
      have h7 := h5.1.1
      rw [hx] at h7
      have hc : z.cells = #[z] := by cases z <;> first | rfl | (simp [zeroOne] at h6)
      rw [hc] at h7
      simp only [zeroB, Bool.and_eq_true, and_true] at h7
      exact h7
    · simp at h5
  · simp at this
section
variable {P : Program} {B : Nat → Prop} {w : World} {ρ : Nat → Value} {L : Nat → Prop}
theorem Rd.int {k : IntKind} {m : Int} {v : Value} (h : G B w ρ L (.d (.int k m)) v) : v = .int k m := by rwa [G, Rd] at h
theorem Rd.bool {b : Bool} {v : Value} (h : G B w ρ L (.d (.bool b)) v) : v = .bool b := by rwa [G, Rd] at h
theorem Rd.str {s : ByteArray} {v : Value} (h : G B w ρ L (.d (.str s)) v) : v = .string s := by rwa [G, Rd] at h
theorem intV_run {op : BinOp} {k : IntKind} {a b : Int} {p : Prop} {r : V} (h : intV op k a b = some (p, r)) (hp : p) (t : TypeId) :
    ∃ u, (binOp op t (.int k a) (.int k b)).run P w = .ok u w ∧ G B w ρ L r u := by
  unfold intV at h
  split at h <;> simp only [Option.some.injEq, Prod.mk.injEq, reduceCtorEq] at h
  all_goals
    obtain ⟨rfl, rfl⟩ := h
    refine ⟨_, ?_, by rw [G, Rd]⟩
  all_goals simp [binOp, Op.intArith, Op.intDiv, Op.intCmp, Op.intBits, bits, hp]
theorem strV_run {op : BinOp} {a b : ByteArray} {p : Prop} {r : V} (h : strV op a b = some (p, r)) (hp : p) (t : TypeId) :
    ∃ u, (binOp op t (.string a) (.string b)).run P w = .ok u w ∧ G B w ρ L r u := by
  unfold strV at h
  split at h <;> simp only [Option.some.injEq, Prod.mk.injEq, reduceCtorEq] at h
  all_goals
    obtain ⟨rfl, rfl⟩ := h
    refine ⟨_, ?_, by rw [G, Rd]⟩
  · simp only [binOp, Op.stringOp, Sem.run_ite, IntKind.max_i64]
    rw [if_neg (by omega)]
    rfl
  all_goals simp [binOp, Op.stringOp, sEq, sLt]
/-- Cells and the value that they are. -/
def FitV (i : TI) (us : List Value) (u : Value) : Prop := (i.agg = true → u = .agg us.toArray) ∧ (i.agg = false → us = [u])
theorem gs_sub {xs : List V} {us : List Value} (h : Gs B w ρ L xs us) (off n : Nat) : Gs B w ρ L ((xs.drop off).take n) ((us.drop off).take n) := by
  refine ⟨by simp [h.1], fun i h1 h2 => ?_⟩
  rw [List.getElem_take, List.getElem_drop, List.getElem_take, List.getElem_drop]
  exact h.2 _ _ _
theorem part_run {C : Cx} (hT : TOK P C.T) {t : TypeId} {i : TI} (ht : C.T t = some i) {us : List Value} {off : Nat} (hi : i.agg = false → ∃ u, (us.drop off).take i.size = [u]) :
    ∃ u, (part t us.toArray off).run P w = .ok u w ∧ FitV i ((us.drop off).take i.size) u := by
  obtain ⟨j, d, z, hj, hd, hs, _, ha, _⟩ := hT.facts ht
  have hund : (underlying t).run P w = .ok d w := by simp [underlying, hd]
  have hsz : (sizeOf t).run P w = .ok i.size w := by simp [sizeOf, typeInfo, hj, hs]
  cases hb : i.agg with
  | true =>
    refine ⟨.agg (us.toArray.extract off (off + i.size)), ?_, fun _ => ?_, fun h => by rw [hb] at h; cases h⟩
    · rw [hb] at ha
      unfold part isAgg
      simp only [Sem.run_bind, hund, Result.andThen_ok]
      cases d <;> simp [isAggD] at ha <;> simp [hsz]
    · congr 1
      simp [List.extract_toArray, List.extract_eq_take_drop]
  | false =>
    obtain ⟨u, hu⟩ := hi hb
    have he : us.toArray[off]? = some u := by
      have h0 : ((us.drop off).take i.size)[0]? = some u := by rw [hu]; rfl
      rw [List.getElem?_take] at h0
      split at h0
      · simpa using h0
      · cases h0
    refine ⟨u, ?_, (fun h => by rw [hb] at h; cases h), fun _ => hu⟩
    rw [hb] at ha
    unfold part isAgg
    simp only [Sem.run_bind, hund, Result.andThen_ok]
    cases d <;> simp [isAggD] at ha <;> simp [he]
theorem eqL_one {k : TK} {xs ys : List V} {b : Bool} (h : eqL k xs ys = some b) : (∃ x, xs = [x]) ∧ (∃ y, ys = [y]) := by
  unfold eqL at h
  split at h <;> first | exact ⟨⟨_, rfl⟩, ⟨_, rfl⟩⟩ | cases h
theorem gs_one {x : V} {us : List Value} (h : Gs B w ρ L [x] us) : ∃ u, us = [u] ∧ G B w ρ L x u := by
  obtain ⟨hl, hg⟩ := h
  match us, hl with
  | [u], _ => exact ⟨u, rfl, hg 0 (by simp) (by simp)⟩
theorem eqL_run {C : Cx} (hT : TOK P C.T) {t : TypeId} {i : TI} (ht : C.T t = some i) {xs ys : List V} {b : Bool} (h : eqL i.kind xs ys = some b) {us vs : List Value} (hx : Gs B w ρ L xs us) (hy : Gs B w ρ L ys vs) {u v : Value} (hu : FitV i us u) (hv : FitV i vs v) (e : Nat) :
    (Op.equalIn (e + 1) t u v).run P w = .ok b w := by
  obtain ⟨j, d, z, hj, hd, hs, _, ha, hk, _⟩ := hT.facts ht
  have hund : (underlying t).run P w = .ok d w := by simp [underlying, hd]
  have one : i.agg = false → xs.length = 1 → us = [u] := fun h _ => hu.2 h
  unfold eqL at h
  split at h
  · rename_i q k a k' b' hq
    split at h
    · rename_i c
      obtain ⟨rfl, rfl⟩ := c
      simp only [Option.some.injEq] at h
      subst h
      rw [hq] at hk
      cases d <;> simp [TK.ok] at hk
      subst hk
      have hag : i.agg = false := by rw [← ha]; rfl
      obtain ⟨u', e1, g1⟩ := gs_one hx
      obtain ⟨v', e2, g2⟩ := gs_one hy
      rw [hu.2 hag] at e1
      rw [hv.2 hag] at e2
      obtain rfl : u = u' := by simpa using e1
      obtain rfl : v = v' := by simpa using e2
      rw [Rd.int g1, Rd.int g2, Op.equalIn]
      simp [hund]
    · cases h
  · rename_i a b' hq
    simp only [Option.some.injEq] at h
    subst h
    rw [hq] at hk
    cases d <;> simp [TK.ok] at hk
    have hag : i.agg = false := by rw [← ha]; rfl
    obtain ⟨u', e1, g1⟩ := gs_one hx
    obtain ⟨v', e2, g2⟩ := gs_one hy
    rw [hu.2 hag] at e1
    rw [hv.2 hag] at e2
    obtain rfl : u = u' := by simpa using e1
    obtain rfl : v = v' := by simpa using e2
    rw [Rd.str g1, Rd.str g2, Op.equalIn]
    simp [hund, sEq, beq_toListBytes]
  · rename_i a b' hq
    simp only [Option.some.injEq] at h
    subst h
    rw [hq] at hk
    cases d <;> simp [TK.ok] at hk
    have hag : i.agg = false := by rw [← ha]; rfl
    obtain ⟨u', e1, g1⟩ := gs_one hx
    obtain ⟨v', e2, g2⟩ := gs_one hy
    rw [hu.2 hag] at e1
    rw [hv.2 hag] at e2
    obtain rfl : u = u' := by simpa using e1
    obtain rfl : v = v' := by simpa using e2
    rw [Rd.bool g1, Rd.bool g2, Op.equalIn]
    simp [hund]
  · cases h
theorem eqF_one {T : TypeId → Option TI} {d : Nat} {t : TypeId} {i : TI} (ht : T t = some i) (hs : ∀ fs, i.kind ≠ .strct fs) {xs ys : List V} {b : Bool} (h : eqF T d t xs ys = some b) : eqL i.kind xs ys = some b := by
  cases d with
  | zero => cases h
  | succ d =>
    unfold eqF at h
    rw [ht] at h
    simp only at h
    cases hk : i.kind with
    | strct fs => exact absurd hk (hs fs)
    | _ => rw [hk] at h; exact h
theorem eqF_run {C : Cx} (hT : TOK P C.T) : ∀ (d : Nat) (t : TypeId) (i : TI) (xs ys : List V) (b : Bool), C.T t = some i → eqF C.T d t xs ys = some b → ∀ (us vs : List Value), Gs B w ρ L xs us → Gs B w ρ L ys vs → ∀ (u v : Value), FitV i us u → FitV i vs v → ∀ e, (Op.equalIn (e + d) t u v).run P w = .ok b w
  | 0, t, i, xs, ys, b, ht, h => by cases h
  | d + 1, t, i, xs, ys, b, ht, h => by
    intro us vs hx hy u v hu hv e
    by_cases hs : ∃ fs, i.kind = .strct fs
    · obtain ⟨fs, hs⟩ := hs
      unfold eqF at h
      rw [ht] at h
      simp only [hs] at h
      split at h
      · rename_i he
        obtain ⟨j, dd, z, hj, hd, _, _, ha, hk, _⟩ := hT.facts ht
        have heq := tiB_eq (hT t i ht) he
        rw [hs] at hk
        cases dd <;> simp [TK.ok] at hk
        rename_i gs
        obtain ⟨hk, _⟩ := hk
        unfold eqOkB at heq
        rw [hd] at heq
        simp only [Bool.and_eq_true, Bool.not_eq_true'] at heq
        obtain ⟨⟨hn, hst⟩, _⟩ := heq
        have hag : i.agg = true := by rw [← ha]; rfl
        rw [hu.1 hag, hv.1 hag]
        have hfo : P.fieldsOf t = gs := by simp [Program.fieldsOf, hd]
        have key : ∀ (l : List Field) (fl : List (Nat × TypeId)) (b : Bool), l.map (fun f => (f.offset, f.type)) = fl → (∀ f ∈ l, f.name ≠ "_") → eqFs C.T (eqF C.T d) fl xs ys = some b → (Op.eqFields (e + d) us.toArray vs.toArray l).run P w = .ok b w := by
          intro l
          induction l with
          | nil =>
            intro fl b hfl _ hq
            subst hfl
            simp only [List.map_nil, eqFs, Option.some.injEq] at hq
            subst hq
            simp [Op.eqFields]
          | cons f r ih =>
            intro fl b hfl hnm hq
            subst hfl
            simp only [List.map_cons, eqFs] at hq
            split at hq
            · rename_i fi hfi
              split at hq
              · rename_i a b2 h1 h2
                simp only [Option.some.injEq] at hq
                subst hq
                have hxs := gs_sub hx f.offset fi.size
                have hys := gs_sub hy f.offset fi.size
                obtain ⟨_, dd2, _, _, hd2, _, _, ha2, hk2, _⟩ := hT.facts hfi
                have ones : fi.agg = false → (∃ u, (us.drop f.offset).take fi.size = [u]) ∧ ∃ u, (vs.drop f.offset).take fi.size = [u] := fun hf => by
                  have hl := eqF_one hfi (fun fs' hf' => by
                    rw [hf'] at hk2
                    cases dd2 <;> simp [TK.ok] at hk2
                    rw [hf] at ha2
                    cases ha2) h1
                  obtain ⟨⟨x, ex⟩, ⟨y, ey⟩⟩ := eqL_one hl
                  rw [ex] at hxs
                  rw [ey] at hys
                  obtain ⟨u', e1, _⟩ := gs_one hxs
                  obtain ⟨v', e2, _⟩ := gs_one hys
                  exact ⟨⟨u', e1⟩, ⟨v', e2⟩⟩
                obtain ⟨p, hp, fp⟩ := part_run (w := w) hT hfi (us := us) (off := f.offset) (fun hf => (ones hf).1)
                obtain ⟨q, hq2, fq⟩ := part_run (w := w) hT hfi (us := vs) (off := f.offset) (fun hf => (ones hf).2)
                have hr := eqF_run hT d f.type fi _ _ a hfi h1 _ _ hxs hys p q fp fq e
                have ih2 := ih _ b2 rfl (fun g hg => hnm g (by simp [hg])) h2
                have hne := hnm f (by simp)
                simp only [Op.eqFields, hne, ne_eq, not_false_eq_true, if_true, Sem.run_bind, hp, hq2, hr, Result.andThen_ok]
                cases a
                · simp
                · simpa using ih2
              · cases hq
            · cases hq
        rw [show e + (d + 1) = (e + d) + 1 from rfl, run_equalIn_struct w (e + d) t us.toArray vs.toArray (by rw [hfo]; exact hd) hst, hfo]
        exact key gs.toList fs b hk (fun f hf => by
          have := List.all_eq_true.1 hn f hf
          simpa using this) h
      · cases h
    · have hl := eqF_one ht (fun fs hf => hs ⟨fs, hf⟩) h
      exact eqL_run hT ht hl hx hy hu hv (e + d)
theorem eqGuard_run (op : BinOp) (t : TypeId) (x y : Operand) (u v : Value) (h : (∃ k m, u = .int k m) ∨ (∃ s, u = .string s) ∨ ∃ b, u = .bool b) : (eqGuard op t x y u v).run P w = .ok () w := by
  unfold eqGuard
  rcases h with ⟨k, m, rfl⟩ | ⟨s, rfl⟩ | ⟨b, rfl⟩ <;> (split <;> simp)
theorem binV_run {C : Cx} (hT : TOK P C.T) {op : BinOp} {t : TypeId} {x y : V} {p : Prop} {r : V} (h : binV C op t x y = some (p, r)) (hp : p) (xo yo : Operand) {u v : Value} (hu : G B w ρ L x u) (hv : G B w ρ L y v) :
    ∃ z, (do eqGuard op t xo yo u v; binOp op t u v : Sem Value).run P w = .ok z w ∧ G B w ρ L r z := by
  unfold binV at h
  split at h
  · rename_i k a k' b
    rw [Rd.int hu, Rd.int hv] at *
    have e := eqGuard_run (P := P) (w := w) op t xo yo (.int k a) (.int k' b) (.inl ⟨k, a, rfl⟩)
    simp only [Sem.run_bind, e, Result.andThen_ok]
    split at h
    · rename_i c; subst c
      simp only [Option.some.injEq, Prod.mk.injEq] at h
      obtain ⟨rfl, rfl⟩ := h
      refine ⟨_, ?_, by rw [G, Rd]⟩
      simp only [binOp, Op.shift, Sem.run_ite]
      rw [if_neg (by omega)]
      rfl
    · split at h
      · rename_i c; subst c
        simp only [Option.some.injEq, Prod.mk.injEq] at h
        obtain ⟨rfl, rfl⟩ := h
        refine ⟨_, ?_, by rw [G, Rd]⟩
        simp only [binOp, Op.shift, Sem.run_ite]
        rw [if_neg (by omega)]
        rfl
      · split at h
        · rename_i c; subst c
          exact intV_run h hp t
        · simp at h
  · rename_i a b
    rw [Rd.str hu, Rd.str hv] at *
    have e := eqGuard_run (P := P) (w := w) op t xo yo (.string a) (.string b) (.inr (.inl ⟨a, rfl⟩))
    simp only [Sem.run_bind, e, Result.andThen_ok]
    exact strV_run h hp t
  · rename_i a b
    rw [Rd.bool hu, Rd.bool hv] at *
    have e := eqGuard_run (P := P) (w := w) op t xo yo (.bool a) (.bool b) (.inr (.inr ⟨a, rfl⟩))
    simp only [Sem.run_bind, e, Result.andThen_ok]
    split at h
    · rename_i hk
      obtain ⟨i, hi, hk⟩ := Option.map_eq_some_iff.1 hk
      obtain ⟨j, d, z, _, hd, _, _, _, hok, _⟩ := hT.facts hi
      rw [hk] at hok
      have hdb : d = .bool := by cases d <;> simp [TK.ok] at hok ⊢
      subst hdb
      have hund : (underlying t).run P w = .ok .bool w := by simp [underlying, hd]
      have heq : (Op.equal t (.bool a) (.bool b)).run P w = .ok (a == b) w := by
        unfold Op.equal Op.maxDepth
        rw [Op.equalIn]
        simp [hund]
      split at h
      · rename_i c; subst c
        simp only [Option.some.injEq, Prod.mk.injEq] at h
        obtain ⟨rfl, rfl⟩ := h
        exact ⟨.bool (a == b), by simp [binOp, heq], by rw [G, Rd]⟩
      · split at h
        · rename_i c; subst c
          simp only [Option.some.injEq, Prod.mk.injEq] at h
          obtain ⟨rfl, rfl⟩ := h
          exact ⟨.bool (!(a == b)), by simp [binOp, heq], by rw [G, Rd]⟩
        · simp at h
    · simp at h
  · rename_i xs ys
    split at h
    · rename_i he
      obtain ⟨i, hi, he⟩ := Option.map_eq_some_iff.1 he
      have heq := tiB_eq (hT t i hi) he
      obtain ⟨j, dd, z, hj, hd, _, _, ha, hk, _⟩ := hT.facts hi
      unfold eqOkB at heq
      rw [hd] at heq
      cases dd <;> simp at heq
      rename_i gs
      have hag : i.agg = true := by rw [← ha]; rfl
      unfold eqR at h
      split at h
      · rename_i b hb
        rw [G] at hu hv
        obtain ⟨us, rfl, gu⟩ := hu
        obtain ⟨vs, rfl, gv⟩ := hv
        have hr : (Op.equal t (.agg us.toArray) (.agg vs.toArray)).run P w = .ok b w := eqF_run hT 6 t i xs ys b hi hb us vs gu gv _ _ ⟨fun _ => rfl, fun h => by rw [hag] at h; cases h⟩ ⟨fun _ => rfl, fun h => by rw [hag] at h; cases h⟩ 9994
        have hg : (eqGuard op t xo yo (.agg us.toArray) (.agg vs.toArray)).run P w = .ok () w := by
          unfold eqGuard
          split <;> simp [heq.2]
        simp only [Sem.run_bind, hg, Result.andThen_ok]
        split at h
        · rename_i c; subst c
          simp only [Option.some.injEq, Prod.mk.injEq] at h
          obtain ⟨rfl, rfl⟩ := h
          exact ⟨.bool b, by simp [binOp, hr], by rw [G, Rd]⟩
        · split at h
          · rename_i c; subst c
            simp only [Option.some.injEq, Prod.mk.injEq] at h
            obtain ⟨rfl, rfl⟩ := h
            exact ⟨.bool !b, by simp [binOp, hr], by rw [G, Rd]⟩
          · cases h
      · cases h
    · cases h
  · simp at h
end
end Go.Proofs.YtgnnakibcjonbaaGreatDoor.VE

/- The evaluator's operations that only give a value, second part: addresses, loads, pieces, lengths, conversions. -/
namespace Go.Proofs.YtgnnakibcjonbaaGreatDoor.VE
open Go Go.RowKit
set_option linter.unusedVariables false
set_option linter.unusedSimpArgs false
def pickV (t : Bool) (x y : V) : Option (Prop × V) :=
  match x, y with
  | .d (.bool x), .d (.bool y) => some (True, .d (.bool (cond t x y)))
  | .whn q (.d (.bool x)), .d (.bool y) => some (t = true → q = true, .d (.bool (cond t x y)))
  | .d (.bool x), .whn q (.d (.bool y)) => some (t = false → q = true, .d (.bool (cond t x y)))
  | .whn q (.d (.bool x)), .whn q' (.d (.bool y)) => some ((t = true → q = true) ∧ (t = false → q' = true), .d (.bool (cond t x y)))
  | .top, .d (.bool y) => some (t = false, .d (.bool y))
  | .d (.bool x), .top => some (t = true, .d (.bool x))
  | .top, .whn q (.d (.bool y)) => some (t = false ∧ q = true, .d (.bool y))
  | .whn q (.d (.bool x)), .top => some (t = true ∧ q = true, .d (.bool x))
  | _, _ => none
def unV (op : UnOp) (x : V) : Option (Prop × V) :=
  match op, x with
  | .not, .d (.bool b) => some (True, .d (.bool (!b)))
  | .neg, .d (.int k n) => some (True, .d (.int k (k.wrap (0 - n))))
  | .xor, .d (.int k n) => some (True, .d (.int k (bits .xor k (if k.signed then -1 else k.max) n)))
  | _, _ => none
def sizeT (C : Cx) (t : TypeId) : Nat := ((C.T t).map (·.size)).getD 0
def elemT (C : Cx) (t : TypeId) : Option (TypeId × Nat) :=
  match C.T t with
  | some i => match i.kind with
    | .slice e => (C.T e).map fun j => (e, j.size)
    | _ => none
  | none => none
def fieldV (C : Cx) (s : TypeId) (x : V) (f : Nat) : Option (Prop × V) :=
  match C.T s with
  | some i => match i.kind with
    | .strct fs => match fs[f]? with
      | some p => match x with
        | .ptr o c => some (True, .ptr o (c + p.1))
        | .rptr o m i j => some (True, .rptr o m i (j + p.1))
        | .dptr cs => some (True, .dptr (cs.drop p.1))
        | _ => none
      | none => none
    | _ => none
  | none => none
def idxV (C : Cx) (os : Nat → Option O) (t : TypeId) (x i : V) : Option (Prop × V) :=
  match i with
  | .d (.int k n) => match C.T t with
    | some ti => match ti.kind with
      | .slice e => match C.T e with
        | some te => match x with
          | .d (.sl m rows) => if te.size = m then some (0 ≤ n ∧ n < rows.length, .dptr (rows.getD n.toNat [])) else none
          | .row o => match rowAt (os o) with
            | some (rows, m, _) => if te.size = m then some (0 ≤ n ∧ n < rows.length, .rptr o m n.toNat 0) else none
            | _ => none
          | _ => none
        | none => none
      | .array len e => match C.T e with
        | some te => match x with
          | .ptr o c => some (0 ≤ n ∧ n < len, .ptr o (c + n.toNat * te.size))
          | _ => none
        | none => none
      | _ => none
    | none => none
  | _ => none
section
variable {P : Program} {B : Nat → Prop} {w : World} {ρ : Nat → Value} {L : Nat → Prop}
theorem run_und {t : TypeId} {d : TypeDesc} (h : P.underlying t = some d) : (underlying t).run P w = .ok d w := by simp [underlying, h]
theorem run_inf {t : TypeId} {i : TypeInfo} (h : P.info? t = some i) : (typeInfo t).run P w = .ok i w := by simp [typeInfo, h]
theorem run_siz {t : TypeId} {i : TypeInfo} (h : P.info? t = some i) : (Go.sizeOf t).run P w = .ok i.size w := by simp [Go.sizeOf, run_inf h]
theorem G.whn {b : Bool} {x : V} {v : Value} (h : G B w ρ L (.whn b x) v) (hb : b = true) : G B w ρ L x v := by rw [G] at h; exact h.1 hb
theorem pickV_run {t : Bool} {x y : V} {p : Prop} {r : V} (h : pickV t x y = some (p, r)) (hp : p) {u v : Value} (hu : G B w ρ L x u) (hv : G B w ρ L y v) : G B w ρ L r (if t then u else v) := by
  unfold pickV at h
  split at h <;> simp only [Option.some.injEq, Prod.mk.injEq, reduceCtorEq] at h
  all_goals
    obtain ⟨rfl, rfl⟩ := h
    rw [G, Rd]
    cases t
  · simpa using Rd.bool hv
  · simpa using Rd.bool hu
  · simpa using Rd.bool hv
  · simpa using Rd.bool (hu.whn (hp rfl))
  · simpa using Rd.bool (hv.whn (hp rfl))
  · simpa using Rd.bool hu
  · simpa using Rd.bool (hv.whn (hp.2 rfl))
  · simpa using Rd.bool (hu.whn (hp.1 rfl))
  · simpa using Rd.bool hv
  · cases hp
  · cases hp
  · simpa using Rd.bool hu
  · simpa using Rd.bool (hv.whn hp.2)
  · cases hp.1
  · cases hp.1
  · simpa using Rd.bool (hu.whn hp.2)
theorem unV_run {op : UnOp} {x : V} {p : Prop} {r : V} (h : unV op x = some (p, r)) {u : Value} (hu : G B w ρ L x u) : ∃ z, (Op.unary op u).run P w = .ok z w ∧ G B w ρ L r z := by
  unfold unV at h
  split at h <;> simp only [Option.some.injEq, Prod.mk.injEq, reduceCtorEq] at h
  · obtain ⟨rfl, rfl⟩ := h
    rw [Rd.bool hu]
    exact ⟨_, by simp only [Op.unary, Sem.run_pure]; rfl, by rw [G, Rd]⟩
  · obtain ⟨rfl, rfl⟩ := h
    rw [Rd.int hu]
    exact ⟨_, by simp only [Op.unary, Op.intArith, Sem.run_pure]; rfl, by rw [G, Rd]⟩
  · obtain ⟨rfl, rfl⟩ := h
    rw [Rd.int hu]
    exact ⟨_, by simp only [Op.unary, intBits_xor, Sem.run_pure]; rfl, by rw [G, Rd]⟩
theorem add_off (b c k : Nat) : (⟨b, c, none⟩ : Addr).add k = ⟨b, c + k, none⟩ := by
  unfold Addr.add
  split
  · rename_i h; rw [h]; rfl
  · rfl
theorem run_fieldAt {s : TypeId} {fields : Array Field} {f : Nat} {fd : Field} {j : TypeInfo} (hs : P.underlying s = some (.struct fields)) (hf : fields[f]? = some fd) (hj : P.info? fd.type = some j) (hz : j.size ≠ 0) (b c : Nat) :
    (Instr.fieldAt s (.pointer (some ⟨b, c, none⟩)) f).run P w = .ok (.pointer (some ⟨b, c + fd.offset, none⟩)) w := by
  simp [Instr.fieldAt, run_und hs, hf, Instr.sureAddr, fieldPlace, run_siz hj, hz, add_off]
theorem fieldV_run {C : Cx} (hT : TOK P C.T) {s : TypeId} {x : V} {f : Nat} {p : Prop} {r : V} (h : fieldV C s x f = some (p, r)) {u : Value} (hu : G B w ρ L x u) : ∃ z, (Instr.fieldAt s u f).run P w = .ok z w ∧ G B w ρ L r z := by
  unfold fieldV at h
  split at h
  · rename_i i hi
    split at h
    · rename_i fs hk
      split at h
      · rename_i q hq
        obtain ⟨j, d, z, _, hd, _, _, _, hok, _⟩ := hT.facts hi
        rw [hk] at hok
        have hds : ∃ gs, d = .struct gs := by cases d <;> simp [TK.ok] at hok ⊢
        obtain ⟨gs, rfl⟩ := hds
        simp only [TK.ok, Bool.and_eq_true, decide_eq_true_eq, List.all_eq_true] at hok
        obtain ⟨e1, e2⟩ := hok
        have hq2 : fs[f]? = some q := hq
        rw [← e1, List.getElem?_map, Option.map_eq_some_iff] at hq2
        obtain ⟨fd, hfd, rfl⟩ := hq2
        have hmem : (fd.offset, fd.type) ∈ fs := List.mem_of_getElem? hq
        obtain ⟨m1, m2⟩ := e2 _ hmem
        obtain ⟨jj, hjj⟩ := Option.isSome_iff_exists.1 m2
        have hz : jj.size ≠ 0 := by
          intro e
          apply m1
          simp [hjj, e]
        have hfa : gs[f]? = some fd := by rw [← Array.getElem?_toList]; exact hfd
        split at h <;> simp only [Option.some.injEq, Prod.mk.injEq, reduceCtorEq] at h
        · obtain ⟨rfl, rfl⟩ := h
          rw [G] at hu
          obtain ⟨ho, b, hb, rfl⟩ := hu
          exact ⟨_, run_fieldAt hd hfa hjj hz b _, by rw [G]; exact ⟨ho, b, hb, rfl⟩⟩
        · obtain ⟨rfl, rfl⟩ := h
          rw [G] at hu
          obtain ⟨ho, b, hb, rfl⟩ := hu
          exact ⟨_, run_fieldAt hd hfa hjj hz b _, by rw [G]; exact ⟨ho, b, hb, by rw [Nat.add_assoc]⟩⟩
        · obtain ⟨rfl, rfl⟩ := h
          rw [G] at hu
          obtain ⟨b, off, rfl, hB, hc⟩ := hu
          refine ⟨_, run_fieldAt hd hfa hjj hz b _, ?_⟩
          rw [G]
          refine ⟨b, _, rfl, hB, fun k hk => ?_⟩
          rw [List.length_drop] at hk
          obtain ⟨u, hu, hr⟩ := hc (fd.offset + k) (by omega)
          refine ⟨u, by rw [← hu]; congr 2; omega, ?_⟩
          rw [List.getElem_drop]
          exact hr
      · simp at h
    · simp at h
  · simp at h
theorem slice_facts {C : Cx} (hT : TOK P C.T) {t : TypeId} {i : TI} (hi : C.T t = some i) {e : TypeId} (hk : i.kind = .slice e) : P.underlying t = some (.slice e) := by
  obtain ⟨j, d, z, _, hd, _, _, _, hok, _⟩ := hT.facts hi
  rw [hk] at hok
  cases d <;> simp [TK.ok] at hok
  rw [hd, hok]
theorem array_facts {C : Cx} (hT : TOK P C.T) {t : TypeId} {i : TI} (hi : C.T t = some i) {m : Nat} {e : TypeId} (hk : i.kind = .array m e) : P.underlying t = some (.array m e) := by
  obtain ⟨j, d, z, _, hd, _, _, _, hok, _⟩ := hT.facts hi
  rw [hk] at hok
  cases d <;> simp [TK.ok] at hok
  rw [hd, hok.1, hok.2]
theorem size_facts {C : Cx} (hT : TOK P C.T) {t : TypeId} {i : TI} (hi : C.T t = some i) : ∃ j, P.info? t = some j ∧ j.size = i.size := by
  obtain ⟨j, d, z, hj, _, hs, _⟩ := hT.facts hi
  exact ⟨j, hj, hs⟩
theorem run_indexAt_s {t e : TypeId} {j : TypeInfo} (ht : P.underlying t = some (.slice e)) (hj : P.info? e = some j) (b off len cap : Nat) (k : IntKind) (i : Int) (h0 : 0 ≤ i) (h1 : i < len) :
    (Instr.indexAt t (.slice (some ⟨b, off, none⟩) len cap) (.int k i)).run P w = .ok (.pointer (some ⟨b, off + i.toNat * j.size, none⟩)) w := by
  simp [Instr.indexAt, asIntOf, run_und ht, run_siz hj, h0, h1, add_off]
theorem run_indexAt_a {t e : TypeId} {j : TypeInfo} {m : Nat} (ht : P.underlying t = some (.array m e)) (hj : P.info? e = some j) (b off : Nat) (k : IntKind) (i : Int) (h0 : 0 ≤ i) (h1 : i < m) :
    (Instr.indexAt t (.pointer (some ⟨b, off, none⟩)) (.int k i)).run P w = .ok (.pointer (some ⟨b, off + i.toNat * j.size, none⟩)) w := by
  simp [Instr.indexAt, Instr.sureAddr, asIntOf, run_und ht, run_siz hj, h0, h1, add_off]
end
section
variable {P : Program} {N : Nat} {w0 : World} {Pr X : Nat → Prop} {Z : Nat → Option Value} {ρ : Nat → Value} {st : St} {a : Act} {w : World}
theorem row_shape {B : Nat → Prop} {L : Nat → Prop} {o : Nat} {rows : List (List D)} {m : Nat} {e : TypeId} (h : objOk B w ρ L o (.row rows m e)) :
    (∀ i (h : i < rows.length), rows[i].length = m) ∧ ((rows = [] ∧ ρ o = .slice none 0 0) ∨ ∃ b cap, ρ o = .slice (some ⟨b, 0, none⟩) rows.length cap ∧ rows.length ≤ cap ∧ cap ≤ maxLen ∧ blockOf (ρ o) = some b ∧ ∀ i (h : i < rows.length) j (h2 : j < rows[i].length), ∃ u, w.cell? ⟨b, i * m + j, none⟩ = some u ∧ w.frozen? ⟨b, i * m + j, none⟩ = false ∧ Rd B w rows[i][j] u) := by
  obtain ⟨xs, ⟨hl, h2⟩, h3, h4⟩ := h
  refine ⟨h3, ?_⟩
  rcases h2 with ⟨e1, e2⟩ | ⟨g, cap, cur, e1, _, e2, hc1, hc2, hsz, htk⟩
  · exact .inl ⟨List.eq_nil_of_length_eq_zero e2, e1⟩
  · refine .inr ⟨g, cap, e1, hc1, hc2, by rw [e1]; rfl, fun i hi j hj => ?_⟩
    obtain ⟨u, hu, hr⟩ := h4 i hi j hj
    refine ⟨u, ?_, by simp [World.frozen?, e2], hr⟩
    rw [← htk] at hu
    rw [List.getElem?_take] at hu
    split at hu
    · simp [World.cell?, e2]
      rw [← Array.getElem?_toList]; exact hu
    · simp at hu
theorem rowAt_some {os : Nat → Option O} {o : Nat} {q : List (List D) × Nat × TypeId} (h : rowAt (os o) = some q) : ∃ x, os o = some x ∧ rowAt (some x) = some q := by
  cases hx : os o with
  | none => rw [hx] at h; cases h
  | some x => rw [hx] at h; exact ⟨x, rfl, h⟩
theorem row_own {B : Nat → Prop} {L : Nat → Prop} {o : Nat} {x : O} {rows : List (List D)} {m : Nat} {e : TypeId} (h : objOk B w ρ L o x) (hx : rowAt (some x) = some (rows, m, e)) : objOk B w ρ L o (.row rows m e) := by
  cases x with
  | row r k t => cases hx; exact h
  | arr r k t => cases hx; exact h
  | box cs t => cases hx
  | raw K => cases hx
theorem row_shape' {B : Nat → Prop} {L : Nat → Prop} {o : Nat} {x : O} {rows : List (List D)} {m : Nat} {e : TypeId} (h : objOk B w ρ L o x) (hx : rowAt (some x) = some (rows, m, e)) :
    (∀ i (h : i < rows.length), rows[i].length = m) ∧ ((rows = [] ∧ ρ o = .slice none 0 0) ∨ ∃ b cap, ρ o = .slice (some ⟨b, 0, none⟩) rows.length cap ∧ rows.length ≤ cap ∧ cap ≤ maxLen ∧ blockOf (ρ o) = some b ∧ ∀ i (h : i < rows.length) j (h2 : j < rows[i].length), ∃ u, w.cell? ⟨b, i * m + j, none⟩ = some u ∧ w.frozen? ⟨b, i * m + j, none⟩ = false ∧ Rd B w rows[i][j] u) := row_shape (row_own h hx)
theorem idxV_run {C : Cx} (hT : TOK P C.T) (hg : Gam N w0 Pr X Z ρ st a w) {t : TypeId} {x i : V} {p : Prop} {r : V} (h : idxV C st.os t x i = some (p, r)) (hp : p) {u v : Value} (hu : G (Bk X st.os ρ w) w ρ (Lv st.os) x u) (hv : G (Bk X st.os ρ w) w ρ (Lv st.os) i v) :
    ∃ z, (Instr.indexAt t u v).run P w = .ok z w ∧ G (Bk X st.os ρ w) w ρ (Lv st.os) r z := by
  unfold idxV at h
  split at h
  · rename_i k n
    rw [Rd.int hv]
    split at h
    · rename_i ti hti
      split at h
      · rename_i e hk
        have hs := slice_facts hT hti hk
        split at h
        · rename_i te hte
          obtain ⟨j, hj, hjs⟩ := size_facts hT hte
          split at h
          · rename_i m rows
            split at h
            · rename_i hm
              simp only [Option.some.injEq, Prod.mk.injEq] at h
              obtain ⟨rfl, rfl⟩ := h
              rw [G, Rd] at hu
              obtain ⟨A, c, rfl, h1, h2, h0, h3, h4⟩ := hu
              have hlt : n.toNat < rows.length := by omega
              obtain ⟨b, off, rfl, hB, hc⟩ := h4 (by rintro rfl; simp at hlt)
              refine ⟨_, run_indexAt_s hs hj b off _ c k n hp.1 hp.2, ?_⟩
              rw [G]
              have hget : rows.getD n.toNat [] = rows[n.toNat] := by rw [List.getD_eq_getElem?_getD, List.getElem?_eq_getElem hlt]; rfl
              refine ⟨b, _, rfl, hB, fun q hq => ?_⟩
              rw [hget] at hq
              obtain ⟨u, hu, hr⟩ := hc _ hlt q hq
              refine ⟨u, by rw [← hu, hjs, hm], ?_⟩
              simp only [hget]
              exact hr
            · simp at h
          · rename_i o
            split at h
            · rename_i rows m e' ho
              split at h
              · rename_i hm
                simp only [Option.some.injEq, Prod.mk.injEq] at h
                obtain ⟨rfl, rfl⟩ := h
                rw [G] at hu
                obtain ⟨hon, rfl⟩ := hu
                obtain ⟨y, hy, hyr⟩ := rowAt_some ho
                obtain ⟨hrl, hsh⟩ := row_shape' (hg.obj o y hy) hyr
                rcases hsh with ⟨rfl, e1⟩ | ⟨b, cap, e1, hc1, hc2, hb, hc⟩
                · simp at hp; omega
                · refine ⟨.pointer (some ⟨b, n.toNat * m, none⟩), ?_, ?_⟩
                  · rw [e1, run_indexAt_s hs hj b 0 _ cap k n hp.1 hp.2, hjs, hm, Nat.zero_add]
                  · rw [G]; exact ⟨hon, b, hb, by simp⟩
              · simp at h
            · simp at h
          · simp at h
        · simp at h
      · rename_i len e hk
        have hs := array_facts hT hti hk
        split at h
        · rename_i te hte
          obtain ⟨j, hj, hjs⟩ := size_facts hT hte
          split at h
          · rename_i o c
            simp only [Option.some.injEq, Prod.mk.injEq] at h
            obtain ⟨rfl, rfl⟩ := h
            rw [G] at hu
            obtain ⟨ho, b, hb, rfl⟩ := hu
            refine ⟨_, run_indexAt_a hs hj b c k n hp.1 hp.2, ?_⟩
            rw [G]
            exact ⟨ho, b, hb, by rw [hjs]⟩
          · simp at h
        · simp at h
      · simp at h
    · simp at h
  · simp at h
end
end Go.Proofs.YtgnnakibcjonbaaGreatDoor.VE

/- The evaluator's operations that only give a value, third part: loads, pieces, lengths, conversions; all of them as one. -/
namespace Go.Proofs.YtgnnakibcjonbaaGreatDoor.VE
open Go Go.RowKit
set_option linter.unusedVariables false
set_option linter.unusedSimpArgs false
/-- What a variable of n cells (a struct, if agg) at some cells holds. -/
def takeV (agg : Bool) (n : Nat) (cs : List V) : Option V :=
  if agg then (if n ≤ cs.length then some (.agg (cs.take n)) else none) else if n = 1 then cs.head? else none
def loadV (C : Cx) (os : Nat → Option O) (t : TypeId) (x : V) : Option (Prop × V) :=
  match C.T t with
  | some i => match x with
    | .ptr o c => match os o with
      | some (.box cs _) => (takeV i.agg i.size (cs.drop c)).map fun v => (True, v)
      | _ => none
    | .rptr o m k j => match rowAt (os o) with
      | some (rows, m', _) => if m = m' then (takeV i.agg i.size (((rows.getD k []).drop j).map .d)).map fun v => (k < rows.length, v) else none
      | _ => none
    | .dptr cs => (takeV i.agg i.size (cs.map .d)).map fun v => (True, v)
    | _ => none
  | none => none
/-- A bound of a piece: a number, or what stands for it. -/
def bndV (C : Cx) (e : Operand → V) (x : Option Operand) (d : Nat) : Option (Prop × Nat) :=
  match x with
  | none => some (True, d)
  | some x => match e x with
    | .d (.int _ n) => some (0 ≤ n, n.toNat)
    | _ => none
def sliceV (C : Cx) (e : Operand → V) (t : TypeId) (x : Operand) (lo hi mx : Option Operand) : Option (Prop × V) :=
  match mx, C.T t with
  | none, some i => match i.kind, e x with
    | .str, .d (.str s) => match bndV C e lo 0, bndV C e hi s.size with
      | some (p, l), some (q, h) => some (p ∧ q ∧ l ≤ h ∧ h ≤ s.size, .d (.str (s.extract l h)))
      | _, _ => none
    | .slice el, .d (.sl m rows) => match C.T el with
      | some te => if te.size = m then (match bndV C e lo 0, bndV C e hi rows.length with
        | some (p, l), some (q, h) => some (p ∧ q ∧ l ≤ h ∧ h ≤ rows.length, .d (.sl m ((rows.take h).drop l)))
        | _, _ => none) else none
      | none => none
    | _, _ => none
  | _, _ => none
def byteAt (s : ByteArray) (i : Nat) : Int := if h : i < s.size then (s[i].toNat : Int) else 0
def indexV (C : Cx) (t : TypeId) (x i : V) : Option (Prop × V) :=
  match C.T t with
  | some ti => match ti.kind, x, i with
    | .str, .d (.str s), .d (.int _ n) => some (0 ≤ n ∧ n < s.size, .d (.int .u8 (byteAt s n.toNat)))
    | _, _, _ => none
  | none => none
def lenV (C : Cx) (os : Nat → Option O) (t : TypeId) (x : V) : Option (Prop × V) :=
  match C.T t with
  | some ti => match ti.kind, x with
    | .str, .d (.str s) => some (True, .d (.int .i64 s.size))
    | .slice _, .d (.sl _ rows) => some (True, .d (.int .i64 rows.length))
    | .slice _, .nil => some (True, .d (.int .i64 0))
    | .slice _, .row o => match rowAt (os o) with
      | some (rows, _, _) => some (True, .d (.int .i64 rows.length))
      | _ => none
    | _, _ => none
  | none => none
section
variable {P : Program} {N : Nat} {w0 : World} {Pr X : Nat → Prop} {Z : Nat → Option Value} {ρ : Nat → Value} {st : St} {a : Act} {w : World}
theorem run_isAgg {t : TypeId} {d : TypeDesc} (h : P.underlying t = some d) : (Go.isAgg t).run P w = .ok (isAggD d) w := by
  unfold Go.isAgg isAggD
  simp only [Sem.run_bind, run_und h, Result.andThen_ok]
  split <;> simp_all
/-- Cells one behind the other, read as values. -/
theorem run_cells (b off : Nat) (vs : List Value) (h : ∀ j (hj : j < vs.length), w.cell? ⟨b, off + j, none⟩ = some vs[j]) : (loadCells ⟨b, off, none⟩ vs.length).run P w = .ok vs.toArray w :=
  run_loadCells_list w ⟨b, off, none⟩ vs fun j v hv => by
    obtain ⟨hj, rfl⟩ := List.getElem?_eq_some_iff.1 hv
    rw [add_off]
    exact h j hj
theorem loadVar_run {C : Cx} (hT : TOK P C.T) {t : TypeId} {i : TI} (hi : C.T t = some i) {B : Nat → Prop} {L : Nat → Prop} {cs : List V} {r : V} (h : takeV i.agg i.size cs = some r) (b off : Nat)
    (hc : ∀ j (hj : j < cs.length), ∃ u, w.cell? ⟨b, off + j, none⟩ = some u ∧ G B w ρ L cs[j] u) :
    ∃ z, (Instr.loadAt t (.pointer (some ⟨b, off, none⟩))).run P w = .ok z w ∧ G B w ρ L r z := by
  obtain ⟨j, d, z, hj, hd, hs, _, hag, _⟩ := hT.facts hi
  unfold takeV at h
  split at h
  · rename_i hagg
    split at h
    · rename_i hle
      simp only [Option.some.injEq] at h
      subst h
      have hex : ∃ vs : List Value, vs.length = i.size ∧ ∀ q (h1 : q < vs.length) (h2 : q < cs.length), w.cell? ⟨b, off + q, none⟩ = some vs[q] ∧ G B w ρ L cs[q] vs[q] := by
        refine ⟨(List.range i.size).map fun q => (w.cell? ⟨b, off + q, none⟩).getD undef, by simp, fun q h1 h2 => ?_⟩
        obtain ⟨u, hu, hg⟩ := hc q h2
        simp only [List.getElem_map, List.getElem_range, hu, Option.getD_some]
        exact ⟨trivial, hg⟩
      obtain ⟨vs, hl, hv⟩ := hex
      refine ⟨.agg vs.toArray, ?_, ?_⟩
      · have hr := run_cells (P := P) (w := w) b off vs (fun q hq => (hv q hq (by omega)).1)
        rw [hl, ← hs] at hr
        simp [Instr.loadAt, Instr.sureAddr, loadVar, run_isAgg hd, hag, hagg, run_siz hj, hr]
      · rw [G]
        refine ⟨vs, rfl, by rw [List.length_take]; omega, fun q h1 h2 => ?_⟩
        rw [List.getElem_take]
        exact (hv q h2 (by rw [List.length_take] at h1; omega)).2
    · simp at h
  · rename_i hagg
    split at h
    · rename_i h1
      cases cs with
      | nil => simp at h
      | cons x xs =>
        simp only [List.head?_cons, Option.some.injEq] at h
        subst h
        obtain ⟨u, hu, hg⟩ := hc 0 (by simp)
        refine ⟨u, ?_, hg⟩
        have hu' : w.cell? ⟨b, off, none⟩ = some u := hu
        have hf : isAggD d = false := by rw [hag]; simpa using hagg
        simp [Instr.loadAt, Instr.sureAddr, loadVar, run_isAgg hd, hf, hu']
    · simp at h
theorem box_cells {B : Nat → Prop} {L : Nat → Prop} {o : Nat} {cs : List V} {e : TypeId} (h : objOk B w ρ L o (.box cs e)) : ∃ b, ρ o = .pointer (some ⟨b, 0, none⟩) ∧ blockOf (ρ o) = some b ∧ ∀ j (hj : j < cs.length), ∃ u, w.cell? ⟨b, j, none⟩ = some u ∧ w.frozen? ⟨b, j, none⟩ = false ∧ G B w ρ L cs[j] u := by
  obtain ⟨b, vs, e1, e2, ⟨h3, h4⟩, h5⟩ := h
  refine ⟨b, e1, by rw [e1]; rfl, fun j hj => ?_⟩
  refine ⟨vs[j]'(by omega), ?_, by simp [World.frozen?, e2], h4 j hj (by omega)⟩
  simp [World.cell?, e2]
theorem loadV_run {C : Cx} (hT : TOK P C.T) (hg : Gam N w0 Pr X Z ρ st a w) {t : TypeId} {x : V} {p : Prop} {r : V} (h : loadV C st.os t x = some (p, r)) (hp : p) {u : Value} (hu : G (Bk X st.os ρ w) w ρ (Lv st.os) x u) :
    ∃ z, (Instr.loadAt t u).run P w = .ok z w ∧ G (Bk X st.os ρ w) w ρ (Lv st.os) r z := by
  unfold loadV at h
  split at h
  · rename_i i hi
    split at h
    · rename_i o c
      split at h
      · rename_i cs e ho
        obtain ⟨v, hv, hr⟩ := Option.map_eq_some_iff.1 h
        simp only [Prod.mk.injEq] at hr
        obtain ⟨rfl, rfl⟩ := hr
        obtain ⟨b, e1, hb, hc⟩ := box_cells (hg.obj o _ ho)
        rw [G] at hu
        obtain ⟨_, b', hb', rfl⟩ := hu
        rw [hb] at hb'
        simp only [Option.some.injEq] at hb'
        subst hb'
        refine loadVar_run hT hi hv b c (fun j hj => ?_)
        rw [List.length_drop] at hj
        obtain ⟨u, h1, _, h2⟩ := hc (c + j) (by omega)
        exact ⟨u, h1, by rw [List.getElem_drop]; exact h2⟩
      · simp at h
    · rename_i o m k j
      split at h
      · rename_i rows m' e ho
        split at h
        · rename_i hm
          subst hm
          obtain ⟨v, hv, hr⟩ := Option.map_eq_some_iff.1 h
          simp only [Prod.mk.injEq] at hr
          obtain ⟨rfl, rfl⟩ := hr
          obtain ⟨y, hy, hyr⟩ := rowAt_some ho
          obtain ⟨hrl, hsh⟩ := row_shape' (hg.obj o y hy) hyr
          rcases hsh with ⟨rfl, e1⟩ | ⟨b, cap, e1, hc1, hc2, hb, hc⟩
          · simp at hp
          · rw [G] at hu
            obtain ⟨_, b', hb', rfl⟩ := hu
            rw [hb] at hb'
            simp only [Option.some.injEq] at hb'
            subst hb'
            have hget : rows.getD k [] = rows[k] := by rw [List.getD_eq_getElem?_getD, List.getElem?_eq_getElem hp]; rfl
            refine loadVar_run hT hi hv b _ (fun q hq => ?_)
            rw [List.length_map, List.length_drop, hget] at hq
            obtain ⟨u, h1, _, h2⟩ := hc k hp (j + q) (by omega)
            refine ⟨u, by rw [← h1]; congr 2; omega, ?_⟩
            rw [List.getElem_map, List.getElem_drop, G]
            simp only [hget]
            exact h2
        · simp at h
      · simp at h
    · rename_i cs
      obtain ⟨v, hv, hr⟩ := Option.map_eq_some_iff.1 h
      simp only [Prod.mk.injEq] at hr
      obtain ⟨rfl, rfl⟩ := hr
      rw [G] at hu
      obtain ⟨b, off, rfl, hB, hc⟩ := hu
      refine loadVar_run hT hi hv b off (fun q hq => ?_)
      rw [List.length_map] at hq
      obtain ⟨u, h1, h2⟩ := hc q hq
      exact ⟨u, h1, by rw [List.getElem_map, G]; exact h2⟩
    · simp at h
  · simp at h
theorem bnd_run {C : Cx} (hg : Gam N w0 Pr X Z ρ st a w) {x : Option Operand} {d y : Nat} {p : Prop} {l : Nat} (h : bndV C (ev st.env) x d = some (p, l)) (hp : p) (hy : l ≤ y) (code : BoundsCode) :
    (match x.map a.eval with | some v => Instr.sliceBound v y code | none => pure d : Sem Nat).run P w = .ok l w := by
  unfold bndV at h
  cases x with
  | none =>
    simp only [Option.some.injEq, Prod.mk.injEq] at h
    simp [h.2]
  | some x =>
    simp only at h
    split at h
    · rename_i k m hx
      simp only [Option.some.injEq, Prod.mk.injEq] at h
      obtain ⟨rfl, rfl⟩ := h
      have := ev_G hg x
      rw [hx] at this
      have := Rd.int this
      simp only [Option.map_some, this, Instr.sliceBound, asIntOf, Sem.run_bind, Sem.run_pure, Result.andThen_ok, Sem.run_ite]
      rw [if_pos ⟨hp, by omega⟩]
    · simp at h
theorem str_facts {C : Cx} (hT : TOK P C.T) {t : TypeId} {i : TI} (hi : C.T t = some i) (hk : i.kind = .str) : P.underlying t = some .string := by
  obtain ⟨j, d, z, _, hd, _, _, _, hok, _⟩ := hT.facts hi
  rw [hk] at hok
  cases d <;> simp [TK.ok] at hok
  rw [hd]
theorem sizeT_facts {C : Cx} (hT : TOK P C.T) {t : TypeId} {m : Nat} (h : sizeT C t = m) (hm : m ≠ 0) : ∃ j, P.info? t = some j ∧ j.size = m := by
  unfold sizeT at h
  cases ht : C.T t with
  | none => rw [ht] at h; exact absurd h.symm hm
  | some i =>
    obtain ⟨j, hj, hs⟩ := size_facts hT ht
    rw [ht] at h
    exact ⟨j, hj, by rw [hs]; exact h⟩
end
end Go.Proofs.YtgnnakibcjonbaaGreatDoor.VE

/- The evaluator's operations that only give a value: pieces, lengths, conversions; all of them as one. -/
namespace Go.Proofs.YtgnnakibcjonbaaGreatDoor.VE
open Go Go.RowKit
set_option linter.unusedVariables false
set_option linter.unusedSimpArgs false
def byteRow : List D → Int
  | [.int .u8 n] => n
  | _ => 0
def ByteRows (rows : List (List D)) : Prop := ∀ r ∈ rows, ∃ n, r = [D.int .u8 n]
def rowsStr (rows : List (List D)) : ByteArray := strOfNums (rows.map byteRow)
def isU8 (C : Cx) (t : TypeId) : Bool :=
  match C.T t with
  | some i => match i.kind with
    | .slice e => match (C.T e).map (·.kind) with
      | some (TK.int .u8) => true
      | _ => false
    | _ => false
  | none => false
def convV (C : Cx) (os : Nat → Option O) (src dst : TypeId) (x : V) : Option (Prop × V) :=
  match C.T src, C.T dst with
  | some _, some j => match j.kind, x with
    | .int k, .d (.int _ n) => some (True, .d (.int k (k.wrap n)))
    | .str, .d (.str s) => some (True, .d (.str s))
    | .str, .nil => if isU8 C src then some (True, .d (.str ByteArray.empty)) else none
    | .str, .d (.sl m rows) => if isU8 C src && m == 1 then some (ByteRows rows, .d (.str (rowsStr rows))) else none
    | .str, .row o => match os o with
      | some (.row rows m _) => if isU8 C src && m == 1 then some (ByteRows rows, .d (.str (rowsStr rows))) else none
      | _ => none
    | _, _ => none
  | _, _ => none
def partV (C : Cx) (s : TypeId) (x : V) (f : Nat) : Option (Prop × V) :=
  match C.T s with
  | some i => match i.kind with
    | .strct fs => match fs[f]? with
      | some p => match C.T p.2, x with
        | some j, .agg cs => (takeV j.agg j.size (cs.drop p.1)).map fun v => (True, v)
        | _, _ => none
      | none => none
    | _ => none
  | none => none
def minV (mx : Bool) (x y : V) : Option (Prop × V) :=
  match x, y with
  | .d (.int k a), .d (.int _ b) => some (True, .d (.int k (if mx then (if a < b then b else a) else (if b < a then b else a))))
  | _, _ => none
/-- The value of an operation that only gives one, and what must hold. -/
def val (C : Cx) (st : St) : Op → Option (Prop × V)
  | .move x => some (True, ev st.env x)
  | .assign x => some (True, ev st.env x)
  | .pick c a b => match ev st.env c with
    | .d (.bool t) => pickV t (ev st.env a) (ev st.env b)
    | _ => none
  | .binOp op t x y _ => binV C op t (ev st.env x) (ev st.env y)
  | .unOp op _ x => unV op (ev st.env x)
  | .extract x i => match ev st.env x with
    | .tup cs => (cs[i]?).map fun v => (True, v)
    | _ => none
  | .nilCheck x => match ev st.env x with
    | .ptr o c => some (True, .ptr o c)
    | .rptr o m i j => some (True, .rptr o m i j)
    | .dptr cs => some (True, .dptr cs)
    | .d (.fn f) => some (True, .d (.fn f))
    | .fnc f cs => some (True, .fnc f cs)
    | _ => none
  | .fieldAddr s x f => fieldV C s (ev st.env x) f
  | .field s x f => partV C s (ev st.env x) f
  | .indexAddr t x i => idxV C st.os t (ev st.env x) (ev st.env i)
  | .index t x i => indexV C t (ev st.env x) (ev st.env i)
  | .load t x => loadV C st.os t (ev st.env x)
  | .slice t x lo hi mx => sliceV C (ev st.env) t x lo hi mx
  | .convert s d x => convV C st.os s d (ev st.env x)
  | .makeFunc (.func f) first caps => if first.size = 0 then some (True, if caps.size = 0 then .d (.fn f) else .fnc f (caps.toList.map (ev st.env))) else none
  | .call { callee := .builtin .len, args, argTypes } => match args.toList, argTypes.toList with
    | [x], [t] => lenV C st.os t (ev st.env x)
    | _, _ => none
  | .call { callee := .builtin .min, args, argTypes } => match args.toList with
    | [x, y] => minV false (ev st.env x) (ev st.env y)
    | _ => none
  | .call { callee := .builtin .max, args, argTypes } => match args.toList with
    | [x, y] => minV true (ev st.env x) (ev st.env y)
    | _ => none
  | _ => none
section
variable {P : Program} {N : Nat} {w0 : World} {Pr X : Nat → Prop} {Z : Nat → Option Value} {ρ : Nat → Value} {st : St} {a : Act} {w : World}
theorem isU8_facts {C : Cx} (hT : TOK P C.T) {t : TypeId} (h : isU8 C t = true) : ∃ e, P.underlying t = some (.slice e) ∧ P.underlying e = some (.int .u8) := by
  unfold isU8 at h
  split at h
  · rename_i i hi
    split at h
    · rename_i e hk
      refine ⟨e, slice_facts hT hi hk, ?_⟩
      split at h
      · rename_i hek
        obtain ⟨j, hj, hjk⟩ := Option.map_eq_some_iff.1 hek
        obtain ⟨jj, d, z, _, hd, _, _, _, hok, _⟩ := hT.facts hj
        rw [hjk] at hok
        cases d <;> simp [TK.ok] at hok
        rw [hd, hok]
      · simp at h
    · simp at h
  · simp at h
theorem int_facts {C : Cx} (hT : TOK P C.T) {t : TypeId} {i : TI} (hi : C.T t = some i) {k : IntKind} (hk : i.kind = .int k) : P.underlying t = some (.int k) := by
  obtain ⟨j, d, z, _, hd, _, _, _, hok, _⟩ := hT.facts hi
  rw [hk] at hok
  cases d <;> simp [TK.ok] at hok
  rw [hd, hok]
theorem und_facts {C : Cx} (hT : TOK P C.T) {t : TypeId} {i : TI} (hi : C.T t = some i) : ∃ d, P.underlying t = some d := by
  obtain ⟨j, d, z, _, hd, _⟩ := hT.facts hi
  exact ⟨d, hd⟩
theorem bytes_conv {B : Nat → Prop} {src dst e : TypeId} (hs : P.underlying src = some (.slice e)) (he : P.underlying e = some (.int .u8)) (hd : P.underlying dst = some .string) {rows : List (List D)} (hb : ByteRows rows) (b off cap : Nat)
    (hc : ∀ i (h : i < rows.length) j (h2 : j < rows[i].length), ∃ u, w.cell? ⟨b, off + i * 1 + j, none⟩ = some u ∧ Rd B w rows[i][j] u) :
    (convert src dst (.slice (some ⟨b, off, none⟩) rows.length cap)).run P w = .ok (.string (rowsStr rows)) w := by
  refine run_convert_bytes_arg (P := P) (w := w) src e hs he b off rows.length cap (rows.map byteRow) (by simp) (fun i hi => ?_) dst hd
  obtain ⟨n, hr⟩ := hb rows[i] (List.getElem_mem hi)
  obtain ⟨u, hu, hrd⟩ := hc i hi 0 (by rw [hr]; simp)
  rw [List.getD_eq_getElem?_getD, List.getElem?_map, List.getElem?_eq_getElem hi, Option.map_some, Option.getD_some]
  have hx : rows[i][0]'(by rw [hr]; simp) = D.int .u8 n := by simp only [hr]; rfl
  have hy : byteRow rows[i] = n := by rw [hr]; rfl
  rw [hx, Rd] at hrd
  rw [hy]
  rw [← hrd, ← hu]
  congr 2
  omega
theorem convV_run {C : Cx} (hT : TOK P C.T) (hg : Gam N w0 Pr X Z ρ st a w) {src dst : TypeId} {x : V} {p : Prop} {r : V} (h : convV C st.os src dst x = some (p, r)) (hp : p) {u : Value} (hu : G (Bk X st.os ρ w) w ρ (Lv st.os) x u) :
    ∃ z, (convert src dst u).run P w = .ok z w ∧ G (Bk X st.os ρ w) w ρ (Lv st.os) r z := by
  unfold convV at h
  split at h
  · rename_i i j hi hj
    obtain ⟨ds, hds⟩ := und_facts hT hi
    split at h
    · rename_i k k' n hk
      simp only [Option.some.injEq, Prod.mk.injEq] at h
      obtain ⟨rfl, rfl⟩ := h
      have hd := int_facts hT hj hk
      rw [Rd.int hu]
      exact ⟨.int k (k.wrap n), by simp [convert, run_und hds, run_und hd, Conv.intToInt], by rw [G, Rd]⟩
    · rename_i s hk
      simp only [Option.some.injEq, Prod.mk.injEq] at h
      obtain ⟨rfl, rfl⟩ := h
      have hd := str_facts hT hj hk
      rw [Rd.str hu]
      exact ⟨.string s, by simp [convert, run_und hds, run_und hd], by rw [G, Rd]⟩
    · rename_i hk
      split at h
      · rename_i h8
        simp only [Option.some.injEq, Prod.mk.injEq] at h
        obtain ⟨rfl, rfl⟩ := h
        obtain ⟨e, he1, he2⟩ := isU8_facts hT h8
        rw [G] at hu
        subst hu
        exact ⟨_, run_convert_bytes_nil (P := P) (w := w) src e he1 he2 0 0 dst (str_facts hT hj hk), by rw [G, Rd]⟩
      · simp at h
    · rename_i m rows hk
      split at h
      · rename_i h8
        simp only [Bool.and_eq_true, beq_iff_eq] at h8
        obtain ⟨h8, rfl⟩ := h8
        simp only [Option.some.injEq, Prod.mk.injEq] at h
        obtain ⟨rfl, rfl⟩ := h
        obtain ⟨e, he1, he2⟩ := isU8_facts hT h8
        rw [G, Rd] at hu
        obtain ⟨A, c, rfl, h1, h2, h0, h3, h4⟩ := hu
        by_cases hne : rows = []
        · subst hne
          refine ⟨.string ByteArray.empty, ?_, by rw [G, Rd]; rfl⟩
          cases A with
          | none => exact run_convert_bytes_nil (P := P) (w := w) src e he1 he2 0 c dst (str_facts hT hj hk)
          | some A =>
            rw [run_convert_bytes_string w src dst e _ _ c he1 he2 (str_facts hT hj hk)]
            simp [Conv.bytesToString, loadCells, loadCellsFrom]
        · obtain ⟨b, off, rfl, hB, hc⟩ := h4 hne
          exact ⟨_, bytes_conv he1 he2 (str_facts hT hj hk) hp b off c hc, by rw [G, Rd]⟩
      · simp at h
    · rename_i o hk
      split at h
      · rename_i rows m e' ho
        split at h
        · rename_i h8
          simp only [Bool.and_eq_true, beq_iff_eq] at h8
          obtain ⟨h8, rfl⟩ := h8
          simp only [Option.some.injEq, Prod.mk.injEq] at h
          obtain ⟨rfl, rfl⟩ := h
          obtain ⟨e, he1, he2⟩ := isU8_facts hT h8
          rw [G] at hu
          obtain ⟨_, rfl⟩ := hu
          obtain ⟨hrl, hsh⟩ := row_shape (hg.obj o _ ho)
          rcases hsh with ⟨rfl, e1⟩ | ⟨b, cap, e1, hc1, hc2, hb, hc⟩
          · rw [e1]
            exact ⟨_, run_convert_bytes_nil (P := P) (w := w) src e he1 he2 0 0 dst (str_facts hT hj hk), by rw [G, Rd]; rfl⟩
          · rw [e1]
            refine ⟨_, bytes_conv (B := Bk X st.os ρ w) he1 he2 (str_facts hT hj hk) hp b 0 cap (fun i hi j hj => ?_), by rw [G, Rd]⟩
            obtain ⟨u, h1, _, h2⟩ := hc i hi j hj
            exact ⟨u, by rw [← h1]; congr 2; omega, h2⟩
        · simp at h
      · simp at h
    · simp at h
  · simp at h
theorem lenV_run {C : Cx} (hT : TOK P C.T) (hg : Gam N w0 Pr X Z ρ st a w) {t ty : TypeId} {x : V} {p : Prop} {r : V} (h : lenV C st.os t x = some (p, r)) {u : Value} (hu : G (Bk X st.os ρ w) w ρ (Lv st.os) x u) :
    ∃ z, (Builtin.len_ #[t] ty #[u]).run P w = .ok z w ∧ G (Bk X st.os ρ w) w ρ (Lv st.os) r z := by
  unfold lenV at h
  split at h
  · rename_i ti hi
    split at h
    · rename_i s hk
      simp only [Option.some.injEq, Prod.mk.injEq] at h
      obtain ⟨rfl, rfl⟩ := h
      rw [Rd.str hu]
      exact ⟨_, by simp [Builtin.len_, run_und (str_facts hT hi hk)]; rfl, by rw [G, Rd]; rfl⟩
    · rename_i e m rows hk
      simp only [Option.some.injEq, Prod.mk.injEq] at h
      obtain ⟨rfl, rfl⟩ := h
      rw [G, Rd] at hu
      obtain ⟨A, c, rfl, _⟩ := hu
      exact ⟨_, by simp [Builtin.len_, run_und (slice_facts hT hi hk)]; rfl, by rw [G, Rd]; rfl⟩
    · rename_i e hk
      simp only [Option.some.injEq, Prod.mk.injEq] at h
      obtain ⟨rfl, rfl⟩ := h
      rw [G] at hu
      subst hu
      exact ⟨_, by simp [Builtin.len_, run_und (slice_facts hT hi hk)]; rfl, by rw [G, Rd]; rfl⟩
    · rename_i e o hk
      split at h
      · rename_i rows m e' ho
        simp only [Option.some.injEq, Prod.mk.injEq] at h
        obtain ⟨rfl, rfl⟩ := h
        rw [G] at hu
        obtain ⟨_, rfl⟩ := hu
        obtain ⟨y, hy, hyr⟩ := rowAt_some ho
        obtain ⟨hrl, hsh⟩ := row_shape' (hg.obj o y hy) hyr
        rcases hsh with ⟨rfl, e1⟩ | ⟨b, cap, e1, _⟩
        · rw [e1]
          exact ⟨_, by simp [Builtin.len_, run_und (slice_facts hT hi hk)]; rfl, by rw [G, Rd]; rfl⟩
        · rw [e1]
          exact ⟨_, by simp [Builtin.len_, run_und (slice_facts hT hi hk)]; rfl, by rw [G, Rd]; rfl⟩
      · simp at h
    · simp at h
  · simp at h
theorem minV_run {mx : Bool} {x y : V} {p : Prop} {r : V} (h : minV mx x y = some (p, r)) {B : Nat → Prop} {L : Nat → Prop} {u v : Value} (hu : G B w ρ L x u) (hv : G B w ρ L y v) (ts : Array TypeId) (ty : TypeId) :
    ∃ z, (if mx then Builtin.max_ ts ty #[u, v] else Builtin.min_ ts ty #[u, v]).run P w = .ok z w ∧ G B w ρ L r z := by
  unfold minV at h
  split at h
  · simp only [Option.some.injEq, Prod.mk.injEq] at h
    obtain ⟨rfl, rfl⟩ := h
    rw [Rd.int hu, Rd.int hv]
    cases mx
    · exact ⟨_, by simp [Builtin.min_, Builtin.min2]; rfl, by rw [G, Rd]; simp⟩
    · exact ⟨_, by simp [Builtin.max_, Builtin.max2]; rfl, by rw [G, Rd]; simp⟩
  · simp at h
theorem indexV_run {C : Cx} (hT : TOK P C.T) {B : Nat → Prop} {L : Nat → Prop} {t : TypeId} {x i : V} {p : Prop} {r : V} (h : indexV C t x i = some (p, r)) (hp : p) {u v : Value} (hu : G B w ρ L x u) (hv : G B w ρ L i v) :
    ∃ z, (Instr.index t u v).run P w = .ok z w ∧ G B w ρ L r z := by
  unfold indexV at h
  split at h
  · rename_i ti hi
    split at h
    · rename_i s k m hk
      simp only [Option.some.injEq, Prod.mk.injEq] at h
      obtain ⟨rfl, rfl⟩ := h
      rw [Rd.str hu, Rd.int hv]
      refine ⟨.int .u8 (byteAt s m.toNat), ?_, by rw [G, Rd]⟩
      have hlt : m.toNat < s.size := by omega
      simp [Instr.index, asIntOf, run_und (str_facts hT hi hk), hp.1, byteAt, hlt, getElem?_pos]
    · simp at h
  · simp at h
theorem sliceV_run {C : Cx} (hT : TOK P C.T) (hg : Gam N w0 Pr X Z ρ st a w) {t : TypeId} {x : Operand} {lo hi mx : Option Operand} {p : Prop} {r : V} (h : sliceV C (ev st.env) t x lo hi mx = some (p, r)) (hp : p) :
    ∃ z, (Instr.sliceAt t (a.eval x) (lo.map a.eval) (hi.map a.eval) (mx.map a.eval)).run P w = .ok z w ∧ G (Bk X st.os ρ w) w ρ (Lv st.os) r z := by
  unfold sliceV at h
  have hx := ev_G hg x
  split at h
  · rename_i i hi'
    split at h
    · rename_i s hk hxs
      rw [hxs] at hx
      rw [Rd.str hx]
      have hs := str_facts hT hi' hk
      split at h
      · rename_i p1 l q1 hh hl hhh
        simp only [Option.some.injEq, Prod.mk.injEq] at h
        obtain ⟨rfl, rfl⟩ := h
        obtain ⟨hp1, hq1, h1, h2⟩ := hp
        refine ⟨.string (s.extract l hh), ?_, by rw [G, Rd]⟩
        have b1 := fun code => bnd_run (P := P) hg hl hp1 h1 code
        have b2 := fun code => bnd_run (P := P) hg hhh hq1 h2 code
        cases lo <;> cases hi <;> simp_all [Instr.sliceAt, Instr.slice, run_und hs, Instr.sliceBounds]
      · simp at h
    · rename_i el m rows hk hxs
      rw [hxs] at hx
      rw [G, Rd] at hx
      obtain ⟨A, c, hA, h1, h2, h0, h3, h4⟩ := hx
      have hs := slice_facts hT hi' hk
      split at h
      · rename_i te hte
        obtain ⟨j, hj, hjs⟩ := size_facts hT hte
        split at h
        · rename_i hm
          split at h
          · rename_i p1 l q1 hh hl hhh
            simp only [Option.some.injEq, Prod.mk.injEq] at h
            obtain ⟨rfl, rfl⟩ := h
            obtain ⟨hp1, hq1, g1, g2⟩ := hp
            have b1 := fun code => bnd_run (P := P) hg hl hp1 g1 code
            have b2 := fun code => bnd_run (P := P) hg hhh hq1 (Nat.le_trans g2 h1) code
            refine ⟨.slice (if c = l then A else A.map (·.add (l * te.size))) (hh - l) (c - l), ?_, ?_⟩
            · rw [hA]
              cases lo <;> cases hi <;> simp_all [Instr.sliceAt, Instr.slice, run_und hs, Instr.sliceBounds, run_siz hj]
            · rw [G, Rd]
              have hlen : ((rows.take hh).drop l).length = hh - l := by rw [List.length_drop, List.length_take]; omega
              refine ⟨if c = l then A else A.map (·.add (l * te.size)), c - l, by rw [hlen], by rw [hlen]; omega, by omega, fun e0 => ?_, fun i hi => ?_, fun hne => ?_⟩
              · split at e0
                · rw [h0 e0]; omega
                · rw [h0 (by simpa using e0)]; omega
              · rw [List.getElem_drop, List.getElem_take]
                exact h3 _ _
              · have hlt : l < hh := by
                  rcases Nat.lt_or_ge l hh with q | q
                  · exact q
                  · exact absurd (List.eq_nil_of_length_eq_zero (by rw [hlen]; omega)) hne
                have hrne : rows ≠ [] := by rintro rfl; simp at g2; omega
                obtain ⟨b, off, rfl, hB, hc⟩ := h4 hrne
                refine ⟨b, off + l * m, by rw [if_neg (by omega), Option.map_some, add_off, hm], hB, fun i hi k hk => ?_⟩
                have hi' : l + i < rows.length := by rw [hlen] at hi; omega
                have he : ((rows.take hh).drop l)[i] = rows[l + i] := by rw [List.getElem_drop, List.getElem_take]
                have hk' : k < rows[l + i].length := by rw [← he]; exact hk
                obtain ⟨u, hu, hr⟩ := hc (l + i) hi' k hk'
                refine ⟨u, by rw [← hu]; congr 2; rw [Nat.add_mul]; omega, ?_⟩
                simp only [he]
                exact hr
          · simp at h
        · simp at h
      · simp at h
    · simp at h
  · simp at h
end
end Go.Proofs.YtgnnakibcjonbaaGreatDoor.VE

/- The evaluator's operations that only give a value: one theorem for all. -/
namespace Go.Proofs.YtgnnakibcjonbaaGreatDoor.VE
open Go Go.RowKit
set_option linter.unusedVariables false
set_option linter.unusedSimpArgs false
section
variable {P : Program} {N : Nat} {w0 : World} {Pr X : Nat → Prop} {Z : Nat → Option Value} {ρ : Nat → Value} {st : St} {a : Act} {w : World}
theorem partV_run {C : Cx} (hT : TOK P C.T) {B : Nat → Prop} {L : Nat → Prop} {s : TypeId} {x : V} {f : Nat} {p : Prop} {r : V} (h : partV C s x f = some (p, r)) {u : Value} (hu : G B w ρ L x u) : ∃ z, (Instr.field s u f).run P w = .ok z w ∧ G B w ρ L r z := by
  unfold partV at h
  split at h
  · rename_i i hi
    split at h
    · rename_i fs hk
      split at h
      · rename_i q hq
        obtain ⟨j, d, z, _, hd, _, _, _, hok, _⟩ := hT.facts hi
        rw [hk] at hok
        have hds : ∃ gs, d = .struct gs := by cases d <;> simp [TK.ok] at hok ⊢
        obtain ⟨gs, rfl⟩ := hds
        simp only [TK.ok, Bool.and_eq_true, decide_eq_true_eq, List.all_eq_true] at hok
        obtain ⟨e1, e2⟩ := hok
        have hq2 : fs[f]? = some q := hq
        rw [← e1, List.getElem?_map, Option.map_eq_some_iff] at hq2
        obtain ⟨fd, hfd, rfl⟩ := hq2
        have hfa : gs[f]? = some fd := by rw [← Array.getElem?_toList]; exact hfd
        split at h
        · rename_i jt cs hjt
          obtain ⟨v, hv, hr⟩ := Option.map_eq_some_iff.1 h
          simp only [Prod.mk.injEq] at hr
          obtain ⟨rfl, rfl⟩ := hr
          rw [G] at hu
          obtain ⟨vs, rfl, hl, hvs⟩ := hu
          obtain ⟨jj, dd, zz, hjj, hdd, hss, _, hag, _⟩ := hT.facts hjt
          simp only at hv
          unfold takeV at hv
          have hfield : (Instr.field s (.agg vs.toArray) f).run P w = (part fd.type vs.toArray fd.offset).run P w := by
            simp [Instr.field, run_und hd, hfa, asAgg]
          rw [hfield]
          split at hv
          · rename_i hagg
            split at hv
            · rename_i hle
              simp only [Option.some.injEq] at hv
              subst hv
              rw [List.length_drop] at hle
              refine ⟨.agg ((vs.drop fd.offset).take jt.size).toArray, ?_, ?_⟩
              · simp [part, run_isAgg hdd, hag, hagg, run_siz hjj, hss, List.extract_eq_take_drop]
              · rw [G]
                refine ⟨_, rfl, by simp [hl], fun q h1 h2 => ?_⟩
                rw [List.getElem_take, List.getElem_drop, List.getElem_take, List.getElem_drop]
                exact hvs _ _ _
            · simp at hv
          · rename_i hagg
            split at hv
            · cases hcs : cs.drop fd.offset with
              | nil => rw [hcs] at hv; simp at hv
              | cons y ys =>
                rw [hcs] at hv
                simp only [List.head?_cons, Option.some.injEq] at hv
                subst hv
                have hlt : fd.offset < cs.length := by
                  rcases Nat.lt_or_ge fd.offset cs.length with q | q
                  · exact q
                  · rw [List.drop_eq_nil_of_le q] at hcs; simp at hcs
                rw [List.drop_eq_getElem_cons hlt] at hcs
                obtain ⟨rfl, _⟩ := List.cons.inj hcs
                have hlt2 : fd.offset < vs.length := by omega
                refine ⟨vs[fd.offset], ?_, hvs _ hlt hlt2⟩
                have hf : isAggD dd = false := by rw [hag]; simpa using hagg
                simp [part, run_isAgg hdd, hf, hlt2]
            · simp at hv
        · simp at h
      · simp at h
    · simp at h
  · simp at h
theorem val_run {C : Cx} (hT : TOK P C.T) (hg : Gam N w0 Pr X Z ρ st a w) {o : Oper} {p : Prop} {r : V} (h : val C st o.op = some (p, r)) (hp : p) :
    ∃ z, (execOp a.eval o).run P w = .ok (.value z) w ∧ G (Bk X st.os ρ w) w ρ (Lv st.os) r z := by
  have E := fun x => ev_G hg x
  have fin : ∀ (s : Sem Value), (execOp a.eval o = do pure (.value (← s))) → (∃ z, s.run P w = .ok z w ∧ G (Bk X st.os ρ w) w ρ (Lv st.os) r z) → ∃ z, (execOp a.eval o).run P w = .ok (.value z) w ∧ G (Bk X st.os ρ w) w ρ (Lv st.os) r z := by
    rintro s hs ⟨z, hz, hr⟩
    exact ⟨z, by rw [hs]; simp [hz], hr⟩
  obtain ⟨dst, op, ty, pos, after, guard⟩ := o
  simp only at h
  unfold val at h
  split at h
  · simp only [Option.some.injEq, Prod.mk.injEq] at h
    obtain ⟨rfl, rfl⟩ := h
    exact ⟨_, by simp [execOp], E _⟩
  · simp only [Option.some.injEq, Prod.mk.injEq] at h
    obtain ⟨rfl, rfl⟩ := h
    exact ⟨_, by simp [execOp], E _⟩
  · rename_i c x y
    split at h
    · rename_i t ht
      have hc := E c
      rw [ht] at hc
      have hc := Rd.bool hc
      refine ⟨if t then a.eval x else a.eval y, ?_, pickV_run h hp (E x) (E y)⟩
      simp [execOp, hc, asBool]
    · simp at h
  · rename_i op t x y yt
    exact fin _ rfl (binV_run hT h hp x y (E x) (E y))
  · exact fin _ rfl (unV_run h (E _))
  · rename_i x i
    split at h
    · rename_i cs hx
      obtain ⟨v, hv, hr⟩ := Option.map_eq_some_iff.1 h
      simp only [Prod.mk.injEq] at hr
      obtain ⟨rfl, rfl⟩ := hr
      have hu := E x
      rw [hx, G] at hu
      obtain ⟨vs, hvs, hl, hg'⟩ := hu
      obtain ⟨hi, rfl⟩ := List.getElem?_eq_some_iff.1 hv
      refine fin (Instr.extract (a.eval x) i) rfl ⟨vs[i]'(by omega), ?_, hg' _ _ _⟩
      rw [hvs]
      simp [Instr.extract, show i < vs.length by omega]
    · simp at h
  · rename_i x
    have hu := E x
    split at h
    all_goals first
      | (rename_i hx
         simp only [Option.some.injEq, Prod.mk.injEq] at h
         obtain ⟨rfl, rfl⟩ := h
         rw [hx] at hu
         refine ⟨a.eval x, ?_, hu⟩
         try rw [G] at hu
         try rw [Rd] at hu
         first
           | (obtain ⟨_, b, _, e⟩ := hu; simp [execOp, e]; done)
           | (obtain ⟨b, off, e, _⟩ := hu; simp [execOp, e]; done)
           | (obtain ⟨vs, e, _⟩ := hu; simp [execOp, e]; done)
           | (simp [execOp, hu]; done))
      | simp at h
  · exact fin _ rfl (fieldV_run hT h (E _))
  · exact fin _ rfl (partV_run hT h (E _))
  · exact fin _ rfl (idxV_run hT hg h hp (E _) (E _))
  · exact fin _ rfl (indexV_run hT h hp (E _) (E _))
  · exact fin _ rfl (loadV_run hT hg h hp (E _))
  · exact fin _ rfl (sliceV_run hT hg h hp)
  · exact fin _ rfl (convV_run hT hg h hp (E _))
  · rename_i f first caps
    split at h
    · rename_i h0
      simp only [Option.some.injEq, Prod.mk.injEq] at h
      obtain ⟨rfl, rfl⟩ := h
      have hfe : first = #[] := Array.eq_empty_of_size_eq_zero h0
      subst hfe
      refine fin _ rfl ⟨.func (.func f) #[] (caps.map a.eval), by simp [Instr.makeFunc], ?_⟩
      split
      · rename_i h1
        have hce : caps = #[] := Array.eq_empty_of_size_eq_zero h1
        subst hce
        rw [G, Rd]
        simp
      · rw [G]
        refine ⟨caps.toList.map a.eval, congrArg (Value.func (.func f) #[]) (Array.ext' (by simp)), by simp, fun i h1 h2 => ?_⟩
        rw [List.getElem_map, List.getElem_map]
        exact E _
    · simp at h
  · rename_i args ats
    split at h
    · rename_i x t hx ht
      have ha : args = #[x] := by cases args; simp_all
      have hts : ats = #[t] := by cases ats; simp_all
      subst ha hts
      obtain ⟨z, hz, hr⟩ := lenV_run (ty := ty) hT hg h (E x)
      exact ⟨z, by simp [execOp, resolve, invoke, builtin, hz], hr⟩
    · simp at h
  · rename_i args ats
    split at h
    · rename_i x y hx
      have ha : args = #[x, y] := by cases args; simp_all
      subst ha
      obtain ⟨z, hz, hr⟩ := minV_run (P := P) h (E x) (E y) ats ty
      exact ⟨z, by simp [execOp, resolve, invoke, builtin] at hz ⊢; simp [hz], hr⟩
    · simp at h
  · rename_i args ats
    split at h
    · rename_i x y hx
      have ha : args = #[x, y] := by cases args; simp_all
      subst ha
      obtain ⟨z, hz, hr⟩ := minV_run (P := P) h (E x) (E y) ats ty
      exact ⟨z, by simp [execOp, resolve, invoke, builtin] at hz ⊢; simp [hz], hr⟩
    · simp at h
  · simp at h
end
end Go.Proofs.YtgnnakibcjonbaaGreatDoor.VE
