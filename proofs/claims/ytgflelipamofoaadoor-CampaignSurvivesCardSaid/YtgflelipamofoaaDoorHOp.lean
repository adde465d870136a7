/- What can be read as data reads by a kind: integers, bools, strings, slices, structs. -/
import Derived.Test.YtgflelipamofoaaDoorWWords
import Derived.ChangeSlices
import Derived.SizedLaws
namespace Go.Proofs.YtgflelipamofoaaDoor.Own
open Go Go.RowKit Go.Proofs.YtgflelipamofoaaDoorW.PrintWords
variable {H : Type} {enc : TypeId × Value → H} {P : Program}
/-- Whatever reads as data of type t is of the kind k, and well formed. -/
def Opn (enc : TypeId × Value → H) (P : Program) (t : TypeId) {α : Type} (k : Kd α) (wf : α → Prop) : Prop :=
  ∀ (w : World) (base : Nat) (sp : Nat → Bool) (held : Bool) (fuel : Nat) (cs : List Value) (d : DataW H) (ps : List MemPlace), DataW.trod enc P w base sp held fuel t cs = some (d, ps) → ∃ x, k.K w x cs ∧ wf x
theorem Opn.int {t : TypeId} {q : IntKind} (h : P.underlying t = some (.int q)) : Opn enc P t (Kd.int q) (fun n => (Lit.int q n).wf = true) := by
  intro w base sp held fuel cs d ps ht
  cases fuel with
  | zero => simp [DataW.trod] at ht
  | succ m =>
    unfold DataW.trod at ht
    rw [h] at ht
    split at ht <;> simp_all
    exact ⟨_, by obtain ⟨⟨rfl, _⟩, _⟩ := ht; rfl, by obtain ⟨⟨rfl, h⟩, _⟩ := ht; exact h⟩
theorem Opn.bool {t : TypeId} (h : P.underlying t = some .bool) : Opn enc P t Kd.bool (fun _ => True) := by
  intro w base sp held fuel cs d ps ht
  cases fuel with
  | zero => simp [DataW.trod] at ht
  | succ m =>
    unfold DataW.trod at ht
    rw [h] at ht
    split at ht <;> simp_all
    rename_i b
    cases b
    · exact .inl rfl
    · exact .inr rfl
theorem Opn.string {t : TypeId} (h : P.underlying t = some .string) : Opn enc P t Kd.string (fun s => s.size ≤ maxLen) := by
  intro w base sp held fuel cs d ps ht
  cases fuel with
  | zero => simp [DataW.trod] at ht
  | succ m =>
    unfold DataW.trod at ht
    rw [h] at ht
    split at ht <;> simp_all
    exact ⟨_, rfl, ht.1⟩
theorem mapM_get {α β : Type} {f : α → Option β} : ∀ {l : List α} {r : List β}, l.mapM f = some r → r.length = l.length ∧ ∀ (i : Nat) x, l[i]? = some x → ∃ y, f x = some y ∧ r[i]? = some y := by
  intro l
  induction l with
  | nil => intro r h; simp at h; subst h; exact ⟨rfl, fun i x hx => by simp at hx⟩
  | cons a l ih =>
    intro r h
    rw [List.mapM_cons] at h
    cases ha : f a with
    | none => rw [ha] at h; simp at h
    | some b =>
      rw [ha] at h
      cases hl : l.mapM f with
      | none => rw [hl] at h; simp at h
      | some r' =>
        rw [hl] at h
        simp at h
        subst h
        obtain ⟨h1, h2⟩ := ih hl
        refine ⟨by simp [h1], fun i x hx => ?_⟩
        cases i with
        | zero => simp at hx; subst hx; exact ⟨b, ha, by simp⟩
        | succ i => simp at hx; obtain ⟨y, hy1, hy2⟩ := h2 i x hx; exact ⟨y, hy1, by simpa using hy2⟩
theorem exists_list {α : Type} {p : Nat → α → Prop} : ∀ n : Nat, (∀ i, i < n → ∃ x, p i x) → ∃ l : List α, l.length = n ∧ ∀ i x, l[i]? = some x → p i x
  | 0, _ => ⟨[], rfl, fun i x h => by simp at h⟩
  | n + 1, h => by
    obtain ⟨l, hl, hp⟩ := exists_list n (fun i hi => h i (by omega))
    obtain ⟨x, hx⟩ := h n (by omega)
    refine ⟨l ++ [x], by simp [hl], fun i y hy => ?_⟩
    rcases Nat.lt_or_ge i n with hi | hi
    · rw [List.getElem?_append_left (by omega)] at hy
      exact hp i y hy
    · have hi' : i = n := by
        have := (List.getElem?_eq_some_iff.1 hy).1
        simp [hl] at this
        omega
      subst hi'
      have : x = y := by simpa [← hl] using hy
      subst this
      exact hx
theorem cells_some {w : World} {base : Nat} {a : Addr} {n : Nat} {cs : List Value} (h : w.cells? base a n = some cs) : cs.length = n ∧ ∀ i u, cs[i]? = some u → w.cell? (a.add i) = some u := by
  unfold World.cells? at h
  split at h
  · obtain ⟨h1, h2⟩ := mapM_get h
    refine ⟨by simpa using h1, fun i u hu => ?_⟩
    have hi := (List.getElem?_eq_some_iff.1 hu).1
    obtain ⟨y, hy1, hy2⟩ := h2 i i (by simp at h1; rw [List.getElem?_range (by omega)])
    rw [hy2] at hu
    cases hu
    exact hy1
  · cases h
theorem add_add (a : Addr) (i j : Nat) : (a.add i).add j = a.add (i + j) := by
  unfold Addr.add
  by_cases hi : i = 0 <;> by_cases hj : j = 0 <;> simp [hi, hj, Nat.add_assoc]
theorem Opn.slice {t e : TypeId} {α : Type} {k : Kd α} {wf : α → Prop} (h : P.underlying t = some (.slice e)) (hc : P.cellsOf e = k.sz) (he : Opn enc P e k wf) : Opn enc P t (Kd.slice e k) (fun l => l.length ≤ maxLen ∧ ∀ x ∈ l, wf x) := by
  intro w base sp held fuel cs d ps ht
  cases fuel with
  | zero => simp [DataW.trod] at ht
  | succ m =>
    unfold DataW.trod at ht
    rw [h] at ht
    split at ht <;> try (exfalso; simp_all; done)
    · exact ⟨[], ⟨none, 0, rfl, Nat.le_refl _, rfl, by simp, fun h => absurd h (by simp)⟩, by simp, by simp⟩
    · rename_i e' a len cap heq
      cases heq
      dsimp only at ht
      split at ht
      · rename_i hb
        obtain ⟨hb1, hb2, hb3⟩ := hb
        obtain ⟨es, hes, ht⟩ := Option.bind_eq_some_iff.1 ht
        obtain ⟨_, hget⟩ := mapM_get hes
        have hel : ∀ i, i < len → ∃ x, (∃ c, c.length = k.sz ∧ k.K w x c ∧ ∀ j u, c[j]? = some u → w.cell? (a.add (i * k.sz + j)) = some u) ∧ wf x := by
          intro i hi
          obtain ⟨y, hy, _⟩ := hget i i (by rw [List.getElem?_range hi])
          obtain ⟨c, hcs, hy⟩ := Option.bind_eq_some_iff.1 hy
          obtain ⟨hl, hcell⟩ := cells_some hcs
          obtain ⟨x, hx, hw⟩ := he w base sp held m c _ _ hy
          rw [hc] at hl hcell
          exact ⟨x, ⟨c, hl, hx, fun j u hu => by rw [← add_add]; exact hcell j u hu⟩, hw⟩
        obtain ⟨l, hl, hp⟩ := exists_list len hel
        have hm : maxLen ≤ 9223372036854775807 := by decide
        refine ⟨l, ⟨some a, cap, by rw [hl], by omega, hl.symm ▸ rfl, by omega, fun _ => ⟨a, rfl, fun j p hj => (hp j p hj).1⟩⟩, by omega, fun x hx => ?_⟩
        obtain ⟨j, hj⟩ := List.mem_iff_getElem?.1 hx
        exact (hp j x hj).2
      · cases ht
/-- The fields of a struct, from a place on. -/
def OpnF (enc : TypeId × Value → H) (P : Program) (fs : List Field) (off : Nat) {α : Type} (k : Kd α) (wf : α → Prop) : Prop :=
  ∀ (w : World) (base : Nat) (sp : Nat → Bool) (held : Bool) (fuel : Nat) (cs : List Value) (xs : List (DataW H × List MemPlace)), fs.mapM (fun f => DataW.trod enc P w base sp held fuel f.type ((cs.drop f.offset).take (P.cellsOf f.type))) = some xs → ∃ x, k.K w x ((cs.drop off).take k.sz) ∧ wf x
theorem OpnF.one {f : Field} {off : Nat} {α : Type} {k : Kd α} {wf : α → Prop} (h1 : f.offset = off) (h2 : P.cellsOf f.type = k.sz) (h : Opn enc P f.type k wf) : OpnF enc P [f] off k wf := by
  intro w base sp held fuel cs xs hx
  obtain ⟨_, hg⟩ := mapM_get hx
  obtain ⟨y, hy, _⟩ := hg 0 f rfl
  obtain ⟨d, ps⟩ := y
  obtain ⟨x, hk, hw⟩ := h w base sp held fuel _ d ps hy
  rw [h1, h2] at hk
  exact ⟨x, hk, hw⟩
theorem OpnF.cons {f : Field} {fs : List Field} {off off' : Nat} {α β : Type} {k : Kd α} {wf : α → Prop} {k' : Kd β} {wf' : β → Prop} (h1 : f.offset = off) (h2 : P.cellsOf f.type = k.sz) (h : Opn enc P f.type k wf) (ho : off' = off + k.sz) (hr : OpnF enc P fs off' k' wf') :
    OpnF enc P (f :: fs) off (Kd.pair k k') (fun x => wf x.1 ∧ wf' x.2) := by
  intro w base sp held fuel cs xs hx
  obtain ⟨_, hg⟩ := mapM_get hx
  obtain ⟨⟨d, ps⟩, hy, _⟩ := hg 0 f rfl
  obtain ⟨x, hk, hw⟩ := h w base sp held fuel _ d ps hy
  rw [h1, h2] at hk
  rw [List.mapM_cons] at hx
  cases ha : DataW.trod enc P w base sp held fuel f.type ((cs.drop f.offset).take (P.cellsOf f.type)) with
  | none => rw [ha] at hx; simp at hx
  | some b =>
    rw [ha] at hx
    cases hl : fs.mapM (fun f => DataW.trod enc P w base sp held fuel f.type ((cs.drop f.offset).take (P.cellsOf f.type))) with
    | none => rw [hl] at hx; simp at hx
    | some r' =>
      obtain ⟨y, hk', hw'⟩ := hr w base sp held fuel cs r' hl
      refine ⟨(x, y), ⟨_, _, ?_, hk, hk'⟩, hw, hw'⟩
      show (cs.drop off).take (k.sz + k'.sz) = _
      rw [List.take_add, ho, List.drop_drop]
theorem Opn.struct {t : TypeId} {fs : Array Field} {α : Type} {k : Kd α} {wf : α → Prop} (h : P.underlying t = some (.struct fs)) (hc : P.cellsOf t = k.sz) (hf : OpnF enc P fs.toList 0 k wf) : Opn enc P t k wf := by
  intro w base sp held fuel cs d ps ht
  cases fuel with
  | zero => simp [DataW.trod] at ht
  | succ m =>
    unfold DataW.trod at ht
    rw [h] at ht
    dsimp only at ht
    split at ht
    · rename_i hl
      obtain ⟨xs, hx, _⟩ := Option.map_eq_some_iff.1 ht
      obtain ⟨x, hk, hw⟩ := hf w base sp held m cs xs hx
      rw [List.drop_zero, ← hc, ← hl, List.take_length] at hk
      exact ⟨x, hk, hw⟩
    · cases ht
theorem Opn.iso {t : TypeId} {α β : Type} {k : Kd α} {wf : α → Prop} (f : β → α) (g : α → β) (hfg : ∀ y, f (g y) = y) (h : Opn enc P t k wf) : Opn enc P t (Kd.iso k f) (fun x => wf (f x)) := by
  intro w base sp held fuel cs d ps ht
  obtain ⟨x, hk, hw⟩ := h w base sp held fuel cs d ps ht
  exact ⟨g x, by show k.K w (f (g x)) cs; rw [hfg]; exact hk, by show wf (f (g x)); rw [hfg]; exact hw⟩
/-- What reads as data, as an argument does. -/
theorem Opn.trod {t : TypeId} {α : Type} {k : Kd α} {wf : α → Prop} (h : Opn enc P t k wf) {w : World} {base : Nat} {sp : Nat → Bool} {held : Bool} {v : Value} {d : DataW H} {ps : List MemPlace} (ht : DataW.Trod enc P w base sp held t v d ps) : ∃ x, k.K w x v.cells.toList ∧ wf x := by
  obtain ⟨fuel, hf⟩ := ht
  exact h w base sp held fuel _ d ps hf
/-- A struct's value is an aggregate. -/
theorem agg_of {r : Reach} {b0 : Nat} {t : TypeId} {fs : Array Field} {v : Value} {w : World} (ht : P.underlying t = some (.struct fs)) (hval : Value.okWide P w r b0 t v) : ∃ cs, v = .agg cs := by
  unfold Value.okWide at hval
  rw [ht] at hval
  obtain ⟨cs, rfl, _⟩ := hval
  exact ⟨cs, rfl⟩
end Go.Proofs.YtgflelipamofoaaDoor.Own
