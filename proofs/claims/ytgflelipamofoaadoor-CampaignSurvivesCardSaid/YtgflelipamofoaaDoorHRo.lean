/- append and copy within a block that is known whole, whatever its type's mark (an array's, too): laws of the model alone. -/
import Derived.Deep.RegionLaw
import Derived.Lib.AppendStr
import Derived.Laws.CopyOwn
import Derived.Laws.BytesString
import Derived.Lib.Hide
import Derived.Test.YtgflelipamofoaaDoorWWords
namespace Go.Proofs.YtgflelipamofoaaDoor.Own
open Go Go.RowKit Go.Proofs.YtgflelipamofoaaDoorW.PrintWords
section
variable {P : Program} (w : World)
theorem run_append_row (t ty e : TypeId) (i : TypeInfo) (ht : P.underlying t = some (.slice e)) (hi : P.info? e = some i) (hs1 : i.size = 1)
    (g sLen sCap : Nat) (L : List Value) (T : TypeId) (hg : w.heap[g]? = some (.cells L.toArray T (0, 0))) (a : Addr) (m c : Nat) (news : List Value) (hl : news.length = m)
    (hnews : ∀ j u, news[j]? = some u → w.cell? (a.add j) = some u) (h1 : ∀ u ∈ news, u.oneCell' = true) (hroom : sLen + m ≤ sCap) (hfit : sLen + m ≤ L.length) :
    (Builtin.append_ #[t, t] ty #[.slice (some ⟨g, 0, none⟩) sLen sCap, .slice (some a) m c]).run P w = .ok (.slice (some ⟨g, 0, none⟩) (sLen + m) sCap) (w.setRow g (splice L sLen news).toArray) := by
  have hfc := run_firstCells_some (P := P) w i.size m a m c news (by rw [hl, hs1, Nat.mul_one]) hnews
  have hst := run_storeCells_at P g sLen T news 0 L.toArray w hg (by simpa [hl] using hfit) h1
  simp only [Nat.add_zero, hl] at hst
  rw [hs1] at hfc
  simp [Builtin.append_, run_underlying ht, sizeOf, typeInfo, hi, hs1, Builtin.lenOf, hroom, hfc, Addr.add_lit, hst, splice, hl]
theorem run_append_row_string (t u ty e : TypeId) (i : TypeInfo) (ht : P.underlying t = some (.slice e)) (hu : P.underlying u = some .string) (hi : P.info? e = some i) (hs1 : i.size = 1)
    (g sLen sCap : Nat) (L : List Value) (T : TypeId) (hg : w.heap[g]? = some (.cells L.toArray T (0, 0))) (s : ByteArray) (hroom : sLen + s.size ≤ sCap) (hfit : sLen + s.size ≤ L.length) :
    (Builtin.append_ #[t, u] ty #[.slice (some ⟨g, 0, none⟩) sLen sCap, .string s]).run P w = .ok (.slice (some ⟨g, 0, none⟩) (sLen + s.size) sCap) (w.setRow g (splice L sLen (Lib.strCells s)).toArray) := by
  have hf := Lib.run_firstCells_string (P := P) w 1 s
  have hst := run_storeCells_at P g sLen T (Lib.strCells s) 0 L.toArray w hg (by simpa [Lib.strCells_length] using hfit) (Lib.strCells_oneCell s)
  simp only [Nat.add_zero, Lib.strCells_length] at hst
  simp [Builtin.append_, run_underlying ht, run_underlying hu, sizeOf, typeInfo, hi, hs1, Builtin.lenOf, hroom, hf, Addr.add_lit, hst, splice, Lib.strCells_length]
end
theorem wp_append_row {P : Program} {w : World} {o : Oper} {a : Act} {K : Act → World → Prop} {Q : Exit → Act → World → Prop} (s x : Operand) (t : TypeId) (ho : o.op = .call { callee := .builtin .append, args := #[s, x], argTypes := #[t, t] })
    (e : TypeId) (i : TypeInfo) (ht : P.underlying t = some (.slice e)) (hi : P.info? e = some i) (hs1 : i.size = 1)
    (g sLen sCap : Nat) (L : List Value) (T : TypeId) (hg : w.heap[g]? = some (.cells L.toArray T (0, 0))) (hs : a.eval s = .slice (some ⟨g, 0, none⟩) sLen sCap) (ad : Addr) (m c : Nat) (hx : a.eval x = .slice (some ad) m c) (news : List Value) (hl : news.length = m)
    (hnews : ∀ j u, news[j]? = some u → w.cell? (ad.add j) = some u) (h1 : ∀ u ∈ news, u.oneCell' = true) (hroom : sLen + m ≤ sCap) (hfit : sLen + m ≤ L.length) (B : Nat) (w0 : World) (hb : Below B w0 w) (hBg : B ≤ g)
    (h : ∀ w', Hid (w'.heap[g]? = some (.cells (splice L sLen news).toArray T (0, 0))) → Hid (∀ k, k ≠ g → w'.heap[k]? = w.heap[k]?) → Below B w0 w' → K (a.put o.dst (.slice (some ⟨g, 0, none⟩) (sLen + m) sCap)) w') : o.wp P a w K Q := by
  have hr := run_append_row (P := P) w t o.type e i ht hi hs1 g sLen sCap L T hg ad m c news hl hnews h1 hroom hfit
  unfold Oper.wp execOp
  simp only [ho, resolve, invoke, builtin, Sem.run_bind, Sem.run_pure, Result.andThen_ok, List.map_toArray, List.map_cons, List.map_nil, hs, hx, hr]
  exact h _ (Lib.hid (setRow_heap w g _ _ T _ hg)) (Lib.hid (fun k hk => by simp [World.setRow, Array.getElem?_modify, Ne.symm hk])) (below_setRow hb hBg _)
theorem wpList_append_row {P : Program} {w : World} {ops : Array Oper} {rest : List Oper} {o : Oper} {a : Act} {Q : Exit → Act → World → Prop} (hgd : o.guard = none) (s x : Operand) (t : TypeId) (ho : o.op = .call { callee := .builtin .append, args := #[s, x], argTypes := #[t, t] })
    (e : TypeId) (i : TypeInfo) (ht : P.underlying t = some (.slice e)) (hi : P.info? e = some i) (hs1 : i.size = 1)
    (g sLen sCap : Nat) (L : List Value) (T : TypeId) (hg : w.heap[g]? = some (.cells L.toArray T (0, 0))) (hs : a.eval s = .slice (some ⟨g, 0, none⟩) sLen sCap) (ad : Addr) (m c : Nat) (hx : a.eval x = .slice (some ad) m c) (news : List Value) (hl : news.length = m)
    (hnews : ∀ j u, news[j]? = some u → w.cell? (ad.add j) = some u) (h1 : ∀ u ∈ news, u.oneCell' = true) (hroom : sLen + m ≤ sCap) (hfit : sLen + m ≤ L.length) (B : Nat) (w0 : World) (hb : Below B w0 w) (hBg : B ≤ g)
    (h : ∀ w', Hid (w'.heap[g]? = some (.cells (splice L sLen news).toArray T (0, 0))) → Hid (∀ k, k ≠ g → w'.heap[k]? = w.heap[k]?) → Below B w0 w' → wpList P ops Q rest (a.put o.dst (.slice (some ⟨g, 0, none⟩) (sLen + m) sCap)) w') : wpList P ops Q (o :: rest) a w :=
  wpList_plain hgd fun _ hK => wp_append_row s x t ho e i ht hi hs1 g sLen sCap L T hg hs ad m c hx news hl hnews h1 hroom hfit B w0 hb hBg fun w' h2 h3 h4 => hK _ _ (h w' h2 h3 h4)
theorem wpList_append_row_string {P : Program} {w : World} {ops : Array Oper} {rest : List Oper} {o : Oper} {a : Act} {Q : Exit → Act → World → Prop} (hgd : o.guard = none) (s x : Operand) (t u : TypeId) (ho : o.op = .call { callee := .builtin .append, args := #[s, x], argTypes := #[t, u] })
    (e : TypeId) (i : TypeInfo) (ht : P.underlying t = some (.slice e)) (hu : P.underlying u = some .string) (hi : P.info? e = some i) (hs1 : i.size = 1)
    (g sLen sCap : Nat) (L : List Value) (T : TypeId) (hg : w.heap[g]? = some (.cells L.toArray T (0, 0))) (hs : a.eval s = .slice (some ⟨g, 0, none⟩) sLen sCap) (str : ByteArray) (hx : a.eval x = .string str)
    (hroom : sLen + str.size ≤ sCap) (hfit : sLen + str.size ≤ L.length) (B : Nat) (w0 : World) (hb : Below B w0 w) (hBg : B ≤ g)
    (h : ∀ w', Hid (w'.heap[g]? = some (.cells (splice L sLen (Lib.strCells str)).toArray T (0, 0))) → Hid (∀ k, k ≠ g → w'.heap[k]? = w.heap[k]?) → Below B w0 w' → wpList P ops Q rest (a.put o.dst (.slice (some ⟨g, 0, none⟩) (sLen + str.size) sCap)) w') : wpList P ops Q (o :: rest) a w := by
  refine wpList_plain hgd fun K hK => ?_
  have hr := run_append_row_string (P := P) w t u o.type e i ht hu hi hs1 g sLen sCap L T hg str hroom hfit
  unfold Oper.wp execOp
  simp only [ho, resolve, invoke, builtin, Sem.run_bind, Sem.run_pure, Result.andThen_ok, List.map_toArray, List.map_cons, List.map_nil, hs, hx, hr]
  exact hK _ _ (h _ (Lib.hid (setRow_heap w g _ _ T _ hg)) (Lib.hid (fun k hk => by simp [World.setRow, Array.getElem?_modify, Ne.symm hk])) (below_setRow hb hBg _))
end Go.Proofs.YtgflelipamofoaaDoor.Own
