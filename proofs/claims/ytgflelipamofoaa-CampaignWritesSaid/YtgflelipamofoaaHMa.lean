/- Maps with strings as keys, made by the call itself, whatever their elements: laws over any program. -/
import Derived.Maps.OwnSet
import Derived.Lib.Hide
namespace Go.Proofs.Ytgflelipamofoaa.Own
open Go Go.RowKit Go.Maps
/-- An element as its own datum. -/
def heldR (v : Value) : Option (DataW Value × List MemPlace) := some (.held v, [])
def keyL (s : ByteArray) : Lit := .string s.data.toList
theorem keyL_ne {s t : ByteArray} (h : s ≠ t) : keyL s ≠ keyL t := by
  intro e
  injection e with e
  exact h (ByteArray.ext (Array.ext' e))
/-- Block b is a map that holds, at each key s, what f says. -/
def MapIs (w : World) (P : Program) (k : TypeId) (b n : Nat) (f : ByteArray → Option Value) : Prop :=
  ∃ D : DataW Value, w.ownsMap P k heldR b n D ∧ IsMap D ∧ ∀ s z, D.atKey (keyL s) z = ((f s).map DataW.held).getD z
section
variable {P : Program} {k : TypeId} {w w' : World} {b n : Nat} {f : ByteArray → Option Value}
theorem MapIs.made (w : World) (P : Program) (k : TypeId) : MapIs (w.alloc (.map #[] 0)) P k w.heap.size 0 (fun _ => none) :=
  ⟨.map [], World.ownsMap_made w P k heldR, isMap_empty, fun _ _ => rfl⟩
theorem MapIs.kept (h : MapIs w P k b n f) {row : Option Nat} (hg : w.grownBy w' row) (hne : some b ≠ row) : MapIs w' P k b n f := by
  obtain ⟨D, h1, h2⟩ := h
  exact ⟨D, h1.kept hg hne, h2⟩
theorem MapIs.lt (h : MapIs w P k b n f) : b < w.heap.size := by
  obtain ⟨D, h1, h2⟩ := h
  exact h1.lt
theorem MapIs.block (h : MapIs w P k b n f) (hb : w'.heap[b]? = w.heap[b]?) : MapIs w' P k b n f := by
  obtain ⟨D, ⟨es, clock, hb0, r⟩, h2⟩ := h
  exact ⟨D, ⟨es, clock, hb.trans hb0, r⟩, h2⟩
theorem MapIs.below (h : MapIs w P k b n f) (hb : Below w.heap.size w w') : MapIs w' P k b n f := h.block (hb.block b h.lt)
theorem MapIs.mono (h : MapIs w P k b n f) {n' : Nat} (hn : n ≤ n') : MapIs w P k b n' f := by
  obtain ⟨D, h1, h2⟩ := h
  exact ⟨D, h1.mono hn, h2⟩
theorem MapIs.congr {g : ByteArray → Option Value} (h : MapIs w P k b n f) (e : ∀ s, f s = g s) : MapIs w P k b n g := by
  obtain rfl : f = g := funext e
  exact h
theorem MapIs.has_ {D : DataW Value} (h : ∀ s z, D.atKey (keyL s) z = ((f s).map DataW.held).getD z) (s : ByteArray) : Maps.has D (keyL s) = (f s).isSome := by
  cases e : f s with
  | none => exact has_false_of_atKey (fun z => by rw [h, e]; rfl)
  | some v => exact has_true_of_atKey (y := .held v) (fun z => by rw [h, e]; rfl)
end
section
variable {P : Program} (w : World) {ops : Array Oper} {rest : List Oper} {o : Oper} {a : Act} {Q : Exit → Act → World → Prop}
theorem wpList_map_ok (hg : o.guard = none) (m x : Operand) (t : TypeId) (hop : o.op = Op.lookup t m x true) (k e : TypeId) (K : Keyed P k) (ht : P.underlying t = some (.map k e)) {z : Value} (hz : (zeroValue e).run P w = .ok z w) (b n : Nat) (f : ByteArray → Option Value)
    (hm : a.eval m = .map (some b)) (hmap : MapIs w P k b n f) (s : ByteArray) (hx : a.eval x = .string s) (hkey : keyOf P k (.string s) = some (keyL s))
    (hK : wpList P ops Q rest (a.put o.dst (.tuple #[(f s).getD z, .bool (f s).isSome])) w) : wpList P ops Q (o :: rest) a w := by
  obtain ⟨D, hown, _, hD⟩ := hmap
  refine wpList_lookup_own_ok w hg m x t hop k e K ht heldR hz (.held z) [] rfl b n D hm hown _ _ hx hkey ?_
  intro v ps hv
  rw [MapIs.has_ hD s]
  have hv' : DataW.held v = D.atKey (keyL s) (.held z) := by
    have := Option.some.inj hv
    exact (Prod.mk.inj this).1
  rw [hD s] at hv'
  have : v = (f s).getD z := by
    cases e : f s with
    | none => rw [e] at hv'; injection hv'
    | some u => rw [e] at hv'; injection hv'
  rw [this]
  exact hK
theorem wpList_map_at (hg : o.guard = none) (m x : Operand) (t : TypeId) (hop : o.op = Op.lookup t m x false) (k e : TypeId) (K : Keyed P k) (ht : P.underlying t = some (.map k e)) {z : Value} (hz : (zeroValue e).run P w = .ok z w) (b n : Nat) (f : ByteArray → Option Value)
    (hm : a.eval m = .map (some b)) (hmap : MapIs w P k b n f) (s : ByteArray) (hx : a.eval x = .string s) (hkey : keyOf P k (.string s) = some (keyL s))
    (hK : wpList P ops Q rest (a.put o.dst ((f s).getD z)) w) : wpList P ops Q (o :: rest) a w := by
  obtain ⟨D, hown, _, hD⟩ := hmap
  refine wpList_plain hg fun K' hK' => ?_
  obtain ⟨v, ps, hrun, hv⟩ := hown.lookup K ht hz (zd := .held z) (zp := []) rfl hkey
  have hv' : DataW.held v = D.atKey (keyL s) (.held z) := by
    have := Option.some.inj hv
    exact (Prod.mk.inj this).1
  rw [hD s] at hv'
  have : v = (f s).getD z := by
    cases e : f s with
    | none => rw [e] at hv'; injection hv'
    | some u => rw [e] at hv'; injection hv'
  subst this
  unfold Oper.wp
  simp [execOp, hop, hm, hx, hrun, Result.andThen]
  exact hK' _ _ hK
theorem wpList_map_put (hg : o.guard = none) (m x v : Operand) (t : TypeId) (hop : o.op = Op.mapUpdate t m x v) (k e : TypeId) (K : Keyed P k) (ht : P.underlying t = some (.map k e)) (b n : Nat) (f : ByteArray → Option Value)
    (hm : a.eval m = .map (some b)) (hmap : MapIs w P k b n f) (hn : n < maxLen) (s : ByteArray) (val : Value) (hx : a.eval x = .string s) (hv : a.eval v = val) (hkey : keyOf P k (.string s) = some (keyL s)) (hlit : WideAt.IsKeyLit (keyL s))
    (hK : ∀ w', MapIs w' P k b (n + 1) (fun s' => if s' = s then some val else f s') → w.grownBy w' (some b) → wpList P ops Q rest (a.put o.dst undef) w') : wpList P ops Q (o :: rest) a w := by
  obtain ⟨D, hown, hD0, hD⟩ := hmap
  refine wpList_mapUpdate_own w hg m x v t hop k e K ht heldR b n D hm hown hn _ val (keyL s) hx hv hkey (.held val) [] rfl ?_
  intro w' h1 h2
  refine hK w' ⟨_, h1, hD0.put _ _, fun s' z => ?_⟩ h2
  by_cases e : s' = s
  · subst e
    rw [atKey_put_same hD0 hlit]
    simp
  · rw [atKey_put_other (keyL_ne e)]
    simp only [if_neg e]
    exact hD s' z
end
end Go.Proofs.Ytgflelipamofoaa.Own
