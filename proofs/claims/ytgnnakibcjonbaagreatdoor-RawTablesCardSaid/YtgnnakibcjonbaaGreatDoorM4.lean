/- Texts put together (merge.py). -/
import Derived.Test.YtgnnakibcjonbaaGreatDoorM3
/- The evaluator: what an operation does hangs on what it reads alone, and a further box does not disturb it. -/
namespace Go.Proofs.YtgnnakibcjonbaaGreatDoor.VE
open Go Go.RowKit
set_option linter.unusedVariables false
set_option linter.unusedSimpArgs false
/-- A further box. -/
structure Ex where
  t : Nat
  z : List V
  e : TypeId
def ext (os : Nat → Option O) : Option Ex → Nat → Option O
  | none => os
  | some x => upd os x.t (some (.box x.z x.e))
def V.inert : V → Bool
  | .d _ | .nil | .top => true
  | _ => false
/-- A name that is a variable's, and not d. (Names from 20000 on are those of rows that calls leave.) -/
def Off (t d : Nat) : Prop := t ≠ d ∧ t < 20000
def XOk (os : Nat → Option O) (d : Nat) : Option Ex → Prop
  | none => True
  | some x => os x.t = none ∧ Off x.t d ∧ x.z.all V.inert = true
def KeepsNone (os os' : Nat → Option O) (d : Nat) : Prop := ∀ t, os t = none → Off t d → os' t = none
structure PhiOk (os : Nat → Option O) (dd : Nat) (φ : V → V) : Prop where
  d : ∀ x, φ (.d x) = .d x
  nil : φ .nil = .nil
  top : φ .top = .top
  ptr : ∀ t c, os t = none → Off t dd → φ (.ptr t c) = .ptr t c
theorem PhiOk.id (os : Nat → Option O) (d : Nat) : PhiOk os d fun v => v := ⟨fun _ => rfl, rfl, rfl, fun _ _ _ _ => rfl⟩
theorem KeepsNone.refl (os : Nat → Option O) (d : Nat) : KeepsNone os os d := fun _ h _ => h
section
variable {os os' : Nat → Option O} {d o : Nat} {ex : Option Ex}
theorem ext_at (hx : XOk os d ex) (ho : os o ≠ none) : ext os ex o = os o := by
  cases ex with
  | none => rfl
  | some x => exact upd_ne _ _ fun e => ho (by rw [e]; exact hx.1)
theorem ext_d (hx : XOk os d ex) : ext os ex d = os d := by
  cases ex with
  | none => rfl
  | some x => exact upd_ne _ _ fun e => hx.2.1.1 e.symm
theorem ext_some (hx : XOk os d ex) {x : O} (ho : os o = some x) : ext os ex o = some x := by rw [ext_at hx (by rw [ho]; simp), ho]
theorem ext_not (ho : os o = none) : ext os ex o = none ∨ ∃ z e, ext os ex o = some (.box z e) := by
  cases ex with
  | none => exact .inl ho
  | some x =>
    by_cases c : o = x.t
    · exact .inr ⟨x.z, x.e, by simp only [ext, c, upd_same]⟩
    · exact .inl (by simp only [ext, upd_ne _ _ c, ho])
theorem XOk.ne (hx : XOk os d ex) {x : Ex} (e : ex = some x) (ho : os o ≠ none ∨ o = d) : o ≠ x.t := by
  subst e
  rcases ho with ho | ho
  · exact fun e => ho (by rw [e]; exact hx.1)
  · exact fun e => hx.2.1.1 (by rw [← e, ho])
theorem XOk.keep (hx : XOk os d ex) (h : KeepsNone os os' d) : XOk os' d ex := by
  cases ex with
  | none => trivial
  | some x => exact ⟨h _ hx.1 hx.2.1, hx.2⟩
theorem ext_upd (hx : XOk os d ex) (ho : os o ≠ none ∨ o = d) (x : Option O) : upd (ext os ex) o x = ext (upd os o x) ex := by
  cases ex with
  | none => rfl
  | some y =>
    have hne := hx.ne rfl ho
    simp only [ext]
    funext q
    simp only [upd]
    by_cases c : q = o
    · simp only [if_pos c, c, if_neg hne]
    · simp only [if_neg c]
theorem inert_map {g : V → V} (h1 : ∀ x, g (.d x) = .d x) (h2 : g .nil = .nil) (h3 : g .top = .top) {z : List V} (hz : z.all V.inert = true) : z.map g = z := by
  conv => rhs; rw [← List.map_id z]
  refine List.map_congr_left fun v hv => ?_
  have := List.all_eq_true.1 hz v hv
  cases v <;> simp [V.inert] at this <;> simp [h1, h2, h3]
theorem ext_map (hx : XOk os d ex) (ho : os o ≠ none ∨ o = d) (a : Option O) {f : O → O} (hf : ∀ z e, z.all V.inert = true → f (.box z e) = .box z e) :
    (fun o' => if o' = o then a else (ext os ex o').map f) = ext (fun o' => if o' = o then a else (os o').map f) ex := by
  cases ex with
  | none => rfl
  | some y =>
    have hne := hx.ne rfl ho
    simp only [ext]
    funext q
    simp only [upd]
    by_cases c : q = y.t
    · rw [if_pos c, if_neg (by rw [c]; exact fun e => hne e.symm), Option.map_some, hf _ _ hx.2.2, if_pos c]
    · simp only [if_neg c]
theorem ev_upto {env env' : Nat → V} {x : Operand} (φ : V → V) (h : ev env' x = ev env x) : ev (fun t => φ (env' t)) x = ev (fun t => φ (env t)) x := by
  cases x with
  | tmp t => simp only [ev] at h ⊢; rw [h]
  | _ => rfl
/-- A change of the state that is alike for all that the frame holds, and leaves a further box alone. -/
def Moves (os : Nat → Option O) (d : Nat) (f : St → St) : Prop :=
  ∃ (φ : V → V) (os' : Nat → Option O), PhiOk os d φ ∧ KeepsNone os os' d ∧ ∀ (st : St) (ex : Option Ex), XOk os d ex → st.os = ext os ex → f st = ⟨fun t => φ (st.env t), ext os' ex⟩
theorem Moves.id : Moves os d fun st => st := ⟨_, os, PhiOk.id _ _, KeepsNone.refl _ _, fun st ex _ h => by cases st; simp only at h; subst h; rfl⟩
theorem Moves.comp {f g : St → St} (h1 : Moves os d f) (h2 : ∀ os', KeepsNone os os' d → Moves os' d g) : Moves os d fun st => g (f st) := by
  obtain ⟨φ, o1, p1, k1, e1⟩ := h1
  obtain ⟨ψ, o2, p2, k2, e2⟩ := h2 o1 k1
  refine ⟨fun v => ψ (φ v), o2, ⟨fun x => by rw [p1.d, p2.d], by rw [p1.nil, p2.nil], by rw [p1.top, p2.top], fun t c h hd => by rw [p1.ptr t c h hd, p2.ptr t c (k1 t h hd) hd]⟩, fun t h hd => k2 t (k1 t h hd) hd, fun st ex hx hs => ?_⟩
  show g (f st) = _
  rw [e1 st ex hx hs, e2 _ ex (hx.keep k1) rfl]
theorem Moves.frz (o : Nat) : Moves os d fun st => st.frz o := by
  have same : (∀ rows m e, os o ≠ some (.row rows m e)) → Moves os d fun st => st.frz o := fun hn => by
    refine ⟨_, os, PhiOk.id _ _, KeepsNone.refl _ _, fun st ex hx hs => ?_⟩
    have hno : ∀ rows m e, st.os o ≠ some (.row rows m e) := fun rows m e he => by
      rw [hs] at he
      cases ho : os o with
      | none => rcases ext_not (ex := ex) ho with h | ⟨z, e2, h⟩ <;> rw [h] at he <;> cases he
      | some y => rw [ext_some hx ho] at he; exact hn rows m e (by rw [ho]; exact he)
    show st.frz o = _
    unfold St.frz
    split
    · rename_i rows m e he; exact (hno _ _ _ he).elim
    · cases st; simp only at hs; subst hs; rfl
  cases ho : os o with
  | none => exact same fun _ _ _ h => by rw [ho] at h; cases h
  | some y =>
    cases y with
    | box cs e => exact same fun _ _ _ h => by rw [ho] at h; cases h
    | raw K => exact same fun _ _ _ h => by rw [ho] at h; cases h
    | arr r k t => exact same fun _ _ _ h => by rw [ho] at h; cases h
    | row rows m e =>
      have hne : os o ≠ none ∨ o = d := .inl (by rw [ho]; simp)
      refine ⟨V.frz o (.sl m rows), fun o' => if o' = o then none else (os o').map (O.frz o (.sl m rows)), ⟨fun _ => by simp only [V.frz, V.frzs_eq], by simp only [V.frz, V.frzs_eq], by simp only [V.frz, V.frzs_eq], fun t c h _ => ?_⟩, fun t h _ => ?_, fun st ex hx hs => ?_⟩
      · rw [V.frz, if_neg fun e => by rw [e, ho] at h; cases h]
      · simp only [h]; split <;> rfl
      · show st.frz o = _
        unfold St.frz
        rw [hs, ext_some hx ho]
        simp only
        rw [ext_map hx hne none fun z e hz => by rw [O.frz, inert_map (fun _ => by simp only [V.frz]) (by simp only [V.frz]) (by simp only [V.frz]) hz]]
theorem Moves.frzAll : ∀ (l : List Nat) {os : Nat → Option O}, Moves os d fun st => frzAll st l
  | [], _ => Moves.id
  | o :: r, _ => Moves.comp (Moves.frz o) fun _ _ => Moves.frzAll r
theorem Moves.drop : Moves os d fun st => dropO st d := by
  refine ⟨V.kill d, fun o' => if o' = d then none else (os o').map (O.kill d), ⟨fun _ => by simp only [V.kill, V.kills_eq], by simp only [V.kill, V.kills_eq], by simp only [V.kill, V.kills_eq], fun t c h hd => by rw [V.kill, if_neg hd.1]⟩, fun t h _ => by simp only [h]; split <;> rfl, fun st ex hx hs => ?_⟩
  show dropO st d = _
  unfold dropO
  rw [hs, ext_map hx (.inr rfl) none fun z e hz => by rw [O.kill, inert_map (fun _ => by simp only [V.kill]) (by simp only [V.kill]) (by simp only [V.kill]) hz]]
theorem Moves.fresh : Moves os d fun st => fresh st d := by
  cases hd : os d with
  | none =>
    refine ⟨_, os, PhiOk.id _ _, KeepsNone.refl _ _, fun st ex hx hs => ?_⟩
    show VE.fresh st d = _
    unfold VE.fresh
    rw [hs, ext_d hx, hd]
    cases st; simp only at hs; subst hs; rfl
  | some y =>
    obtain ⟨φ, o1, p1, k1, e1⟩ := Moves.drop (os := os) (d := d)
    refine ⟨φ, o1, p1, k1, fun st ex hx hs => ?_⟩
    rw [← e1 st ex hx hs]
    show VE.fresh st d = _
    unfold VE.fresh
    rw [hs, ext_d hx, hd]
theorem Moves.put (ho : os o ≠ none ∨ o = d) (x : O) : Moves os d fun st => { st with os := upd st.os o (some x) } :=
  ⟨_, upd os o (some x), PhiOk.id _ _, fun t h hd => by
    rw [upd_ne]
    · exact h
    · rintro rfl
      rcases ho with ho | ho
      · exact ho h
      · exact hd.1 ho, fun st ex hx hs => by show St.mk st.env (upd st.os o (some x)) = _; rw [hs, ext_upd hx ho]⟩
theorem Moves.toArr (o : Nat) : Moves os d fun st => st.toArr o := by
  have same : (∀ rows m e, os o ≠ some (.row rows m e)) → Moves os d fun st => st.toArr o := fun hn => by
    refine ⟨_, os, PhiOk.id _ _, KeepsNone.refl _ _, fun st ex hx hs => ?_⟩
    have hno : ∀ rows m e, st.os o ≠ some (.row rows m e) := fun rows m e he => by
      rw [hs] at he
      cases ho : os o with
      | none => rcases ext_not (ex := ex) ho with h | ⟨z, e2, h⟩ <;> rw [h] at he <;> cases he
      | some y => rw [ext_some hx ho] at he; exact hn rows m e (by rw [ho]; exact he)
    show st.toArr o = _
    unfold St.toArr
    split
    · rename_i rows m e he; exact (hno _ _ _ he).elim
    · cases st; simp only at hs; subst hs; rfl
  cases ho : os o with
  | none => exact same fun _ _ _ h => by rw [ho] at h; cases h
  | some y =>
    cases y with
    | box cs e => exact same fun _ _ _ h => by rw [ho] at h; cases h
    | raw K => exact same fun _ _ _ h => by rw [ho] at h; cases h
    | arr r k t => exact same fun _ _ _ h => by rw [ho] at h; cases h
    | row rows m e =>
      obtain ⟨φ, o1, p1, k1, e1⟩ := Moves.put (os := os) (d := d) (o := o) (.inl (by rw [ho]; simp)) (.arr rows m e)
      refine ⟨φ, o1, p1, k1, fun st ex hx hs => ?_⟩
      rw [← e1 st ex hx hs]
      show st.toArr o = _
      unfold St.toArr
      have h2 : st.os o = some (.row rows m e) := by rw [hs, ext_some hx ho]
      rw [h2]
theorem Moves.arrAll : ∀ (l : List Nat) {os : Nat → Option O}, Moves os d fun st => VE.arrAll st l
  | [], _ => Moves.id
  | o :: r, _ => Moves.comp (Moves.toArr o) fun _ _ => Moves.arrAll r
theorem Moves.toRow (o : Nat) : Moves os d fun st => st.toRow o := by
  have same : (∀ rows m e, os o ≠ some (.arr rows m e)) → Moves os d fun st => st.toRow o := fun hn => by
    refine ⟨_, os, PhiOk.id _ _, KeepsNone.refl _ _, fun st ex hx hs => ?_⟩
    have hno : ∀ rows m e, st.os o ≠ some (.arr rows m e) := fun rows m e he => by
      rw [hs] at he
      cases ho : os o with
      | none => rcases ext_not (ex := ex) ho with h | ⟨z, e2, h⟩ <;> rw [h] at he <;> cases he
      | some y => rw [ext_some hx ho] at he; exact hn rows m e (by rw [ho]; exact he)
    show st.toRow o = _
    unfold St.toRow
    split
    · rename_i rows m e he; exact (hno _ _ _ he).elim
    · cases st; simp only at hs; subst hs; rfl
  cases ho : os o with
  | none => exact same fun _ _ _ h => by rw [ho] at h; cases h
  | some y =>
    cases y with
    | box cs e => exact same fun _ _ _ h => by rw [ho] at h; cases h
    | raw K => exact same fun _ _ _ h => by rw [ho] at h; cases h
    | row r k t => exact same fun _ _ _ h => by rw [ho] at h; cases h
    | arr rows m e =>
      obtain ⟨φ, o1, p1, k1, e1⟩ := Moves.put (os := os) (d := d) (o := o) (.inl (by rw [ho]; simp)) (.row rows m e)
      refine ⟨φ, o1, p1, k1, fun st ex hx hs => ?_⟩
      rw [← e1 st ex hx hs]
      show st.toRow o = _
      unfold St.toRow
      have h2 : st.os o = some (.arr rows m e) := by rw [hs, ext_some hx ho]
      rw [h2]
theorem Moves.rowAll : ∀ (l : List Nat) {os : Nat → Option O}, Moves os d fun st => VE.rowAll st l
  | [], _ => Moves.id
  | o :: r, _ => Moves.comp (Moves.toRow o) fun _ _ => Moves.rowAll r
theorem Moves.killAll (ho : os o ≠ none) (x : O) : Moves os d fun st => killAll st o x := by
  refine ⟨V.kill o, fun o' => if o' = o then some x else (os o').map (O.kill o), ⟨fun _ => by simp only [V.kill, V.kills_eq], by simp only [V.kill, V.kills_eq], by simp only [V.kill, V.kills_eq], fun t c h hd => by rw [V.kill, if_neg fun e => ho (by rw [← e]; exact h)]⟩, fun t h _ => ?_, fun st ex hx hs => ?_⟩
  · simp only [h]
    rw [if_neg fun e => ho (by rw [← e]; exact h)]
    rfl
  · show VE.killAll st o x = _
    unfold VE.killAll
    rw [hs, ext_map hx (.inl ho) (some x) fun z e hz => by rw [O.kill, inert_map (fun _ => by simp only [V.kill]) (by simp only [V.kill]) (by simp only [V.kill]) hz]]
/-- A new object in room made for it. -/
theorem Moves.new (x : O) : Moves os d fun st => { VE.fresh st d with os := upd (VE.fresh st d).os d (some x) } := Moves.comp Moves.fresh fun _ _ => Moves.put (.inr rfl) x
end
end Go.Proofs.YtgnnakibcjonbaaGreatDoor.VE

/- The evaluator: each operation hangs on what it reads alone, and a further box does not disturb it. -/
namespace Go.Proofs.YtgnnakibcjonbaaGreatDoor.VE
open Go Go.RowKit
set_option linter.unusedVariables false
set_option linter.unusedSimpArgs false
theorem Moves.use {st st' : St} {d : Nat} {ex : Option Ex} {f : St → St} (h : Moves st.os d f) (hx : XOk st.os d ex) (hos : st'.os = ext st.os ex) :
    ∃ φ, PhiOk st.os d φ ∧ KeepsNone st.os (f st).os d ∧ (∀ t, (f st).env t = φ (st.env t)) ∧ f st' = ⟨fun t => φ (st'.env t), ext (f st).os ex⟩ := by
  obtain ⟨φ, o1, h1, h2, h3⟩ := h
  have e := h3 st none trivial rfl
  rw [e]
  exact ⟨φ, h1, h2, fun _ => rfl, h3 st' ex hx hos⟩
theorem St.ext' {a b : St} (h1 : a.env = b.env) (h2 : a.os = b.os) : a = b := by cases a; cases b; simp only at h1 h2; rw [h1, h2]
section
variable {os : Nat → Option O} {d : Nat} {ex : Option Ex} {C : Cx}
theorem idxV_ext (hx : XOk os d ex) {t : TypeId} {x i : V} {q : Prop × V} (h : idxV C os t x i = some q) : idxV C (ext os ex) t x i = some q := by
  cases x with
  | row o =>
    cases ho : os o with
    | none => exfalso; unfold idxV at h; simp only [ho, rowAt] at h; (repeat' split at h) <;> simp_all
    | some y => unfold idxV at h ⊢; simp only [ho, ext_some hx ho] at h ⊢; exact h
  | d y => cases y <;> (unfold idxV at h ⊢; (repeat' split at h) <;> simp_all)
  | _ => unfold idxV at h ⊢; (repeat' split at h) <;> simp_all
theorem loadV_ext (hx : XOk os d ex) {t : TypeId} {x : V} {q : Prop × V} (h : loadV C os t x = some q) : loadV C (ext os ex) t x = some q := by
  cases x with
  | ptr o c =>
    cases ho : os o with
    | none => exfalso; unfold loadV at h; simp only [ho] at h; (repeat' split at h) <;> cases h
    | some y => unfold loadV at h ⊢; simp only [ho, ext_some hx ho] at h ⊢; exact h
  | rptr o m k j =>
    cases ho : os o with
    | none => exfalso; unfold loadV at h; simp only [ho, rowAt] at h; (repeat' split at h) <;> simp_all
    | some y => unfold loadV at h ⊢; simp only [ho, ext_some hx ho] at h ⊢; exact h
  | _ => exact h
theorem convV_ext (hx : XOk os d ex) {s t : TypeId} {x : V} : convV C (ext os ex) s t x = convV C os s t x := by
  unfold convV
  cases C.T s with
  | none => rfl
  | some a =>
    cases C.T t with
    | none => rfl
    | some j =>
      simp only
      generalize j.kind = k
      cases k <;> cases x <;> try rfl
      · rename_i y; cases y <;> rfl
      · rename_i o
        simp only
        cases ho : os o with
        | none => rcases ext_not (ex := ex) ho with h | ⟨z, e, h⟩ <;> simp only [h]
        | some y => simp only [ext_some hx ho]
      · rename_i y; cases y <;> rfl
theorem lenV_ext (hx : XOk os d ex) {t : TypeId} {x : V} {q : Prop × V} (h : lenV C os t x = some q) : lenV C (ext os ex) t x = some q := by
  unfold lenV at h ⊢
  cases ht : C.T t with
  | none => rw [ht] at h; cases h
  | some ti =>
    rw [ht] at h
    simp only at h ⊢
    generalize ti.kind = k at h ⊢
    cases k <;> cases x <;> try (first | exact h | cases h)
    · rename_i y; cases y <;> first | exact h | cases h
    · rename_i y; cases y <;> first | exact h | cases h
    · rename_i o
      simp only at h ⊢
      cases ho : os o with
      | none => rw [ho] at h; cases h
      | some y => rw [ho] at h; simp only [ext_some hx ho]; exact h
theorem argRows_ext (hx : XOk os d ex) {m : Nat} {x : V} {q : List (List D)} (h : argRows os m x = some q) : argRows (ext os ex) m x = some q := by
  cases x with
  | row o =>
    cases ho : os o with
    | none => exfalso; unfold argRows at h; simp only [ho] at h; cases h
    | some y => unfold argRows at h ⊢; simp only [ho, ext_some hx ho] at h ⊢; exact h
  | d y => cases y <;> first | exact h | cases h
  | _ => first | exact h | cases h
theorem cellD_ext (hx : XOk os d ex) (x : V) : cellD (ext os ex) x = cellD os x := by
  cases x with
  | row o =>
    cases ho : os o with
    | none =>
      unfold cellD
      rcases ext_not (ex := ex) ho with h | ⟨z, e, h⟩ <;> simp only [ho, h]
    | some y => unfold cellD; simp only [ho, ext_some hx ho]
  | _ => rfl
theorem cellDs_ext (hx : XOk os d ex) : ∀ l : List V, cellDs (ext os ex) l = cellDs os l
  | [] => rfl
  | x :: r => by unfold cellDs; rw [cellD_ext hx, cellDs_ext hx r]
theorem asD1_ext (hx : XOk os d ex) {x : V} (h : ptrOk1 os x = true) : asD1 (ext os ex) x = asD1 os x := by
  cases x with
  | row o =>
    cases ho : os o with
    | none =>
      unfold asD1
      rcases ext_not (ex := ex) ho with h | ⟨z, e, h⟩ <;> simp only [ho, h]
    | some y => unfold asD1; simp only [ho, ext_some hx ho]
  | ptr o c =>
    obtain ⟨y, ho⟩ := Option.isSome_iff_exists.1 (show (os o).isSome = true from h)
    unfold asD1
    simp only [ho, ext_some hx ho, cellDs_ext hx]
  | _ => rfl
theorem ptrOk2_1 {x : V} (h : ptrOk2 os x = true) : ptrOk1 os x = true := by cases x <;> first | exact h | rfl
theorem asD_ext2 (hx : XOk os d ex) {x : V} (h : ptrOk2 os x = true) : asD (ext os ex) x = asD os x := by
  have all : ∀ cs : List V, cs.all (ptrOk1 os) = true → cs.map (asD1 (ext os ex)) = cs.map (asD1 os) := fun cs hc => List.map_congr_left fun v hv => asD1_ext hx (List.all_eq_true.1 hc v hv)
  cases x with
  | agg cs => exact congrArg V.agg (all cs h)
  | fnc f cs => exact congrArg (V.fnc f) (all cs h)
  | _ => exact asD1_ext hx (ptrOk2_1 h)
theorem ptrOk_2 {x : V} (h : ptrOk os x = true) : ptrOk2 os x = true := by
  cases x with
  | fnc f cs => exact List.all_eq_true.2 fun v hv => ptrOk2_1 (List.all_eq_true.1 h v hv)
  | _ => exact h
theorem ptrOk1_ext (hx : XOk os d ex) {x : V} (h : ptrOk1 os x = true) : ptrOk1 (ext os ex) x = true := by
  cases x with
  | ptr o c =>
    obtain ⟨y, ho⟩ := Option.isSome_iff_exists.1 (show (os o).isSome = true from h)
    unfold ptrOk1
    simp only [ext_some hx ho, Option.isSome_some]
  | _ => rfl
theorem ptrOk2_ext (hx : XOk os d ex) {x : V} (h : ptrOk2 os x = true) : ptrOk2 (ext os ex) x = true := by
  cases x with
  | agg cs => exact List.all_eq_true.2 fun v hv => ptrOk1_ext hx (List.all_eq_true.1 h v hv)
  | fnc f cs => exact List.all_eq_true.2 fun v hv => ptrOk1_ext hx (List.all_eq_true.1 h v hv)
  | _ => exact ptrOk1_ext hx (ptrOk2_1 h)
theorem ptrOk_ext (hx : XOk os d ex) {x : V} (h : ptrOk os x = true) : ptrOk (ext os ex) x = true := by
  cases x with
  | fnc f cs => exact List.all_eq_true.2 fun v hv => ptrOk2_ext hx (List.all_eq_true.1 h v hv)
  | _ => exact ptrOk2_ext hx (ptrOk_2 h)
theorem calleeV_caps {x : V} {f : FuncId} {caps : List V} (hc : calleeV x = some (f, caps)) (h : ptrOk os x = true) : caps.all (ptrOk2 os) = true := by
  cases x <;> simp only [calleeV, reduceCtorEq] at hc
  case d y =>
    cases y <;> simp only [reduceCtorEq] at hc
    simp only [Option.some.injEq, Prod.mk.injEq] at hc
    rw [← hc.2]
    rfl
  case fnc g cs =>
    simp only [Option.some.injEq, Prod.mk.injEq] at hc
    rw [← hc.2]
    exact h
/-- Arguments as data. -/
theorem asDs_ext (hx : XOk os d ex) {x : V} {l : List V} {f : FuncId} {caps : List V} (hc : calleeV x = some (f, caps)) (h : (x :: l).all (ptrOk os) = true) : (l ++ caps).map (asD (ext os ex)) = (l ++ caps).map (asD os) := by
  rw [List.all_cons, Bool.and_eq_true] at h
  refine List.map_congr_left fun v hv => asD_ext2 hx ?_
  rcases List.mem_append.1 hv with hv | hv
  · exact ptrOk_2 (List.all_eq_true.1 h.2 v hv)
  · exact List.all_eq_true.1 (calleeV_caps hc h.1) v hv
theorem ptrsOk_ext (hx : XOk os d ex) {l : List V} (h : l.all (ptrOk os) = true) : l.all (ptrOk (ext os ex)) = true := List.all_eq_true.2 fun v hv => ptrOk_ext hx (List.all_eq_true.1 h v hv)
end
section
variable {C : Cx} {st st' : St} {d : Nat} {ex : Option Ex}
theorem val_ext (hx : XOk st.os d ex) (hos : st'.os = ext st.os ex) {op : Op} (hop : ∀ x ∈ op.operands, ev st'.env x = ev st.env x) {q : Prop × V} (h : val C st op = some q) : val C st' op = some q := by
  have e : val C st' op = val C ⟨st.env, st'.os⟩ op := val_congr (st := st') (st' := ⟨st.env, st'.os⟩) rfl hop
  rw [e, hos]
  cases op with
  | indexAddr t x i => simp only [val] at h ⊢; exact idxV_ext hx h
  | load t x => simp only [val] at h ⊢; exact loadV_ext hx h
  | convert s t x => simp only [val] at h ⊢; rw [convV_ext hx]; exact h
  | call c =>
    obtain ⟨callee, args, ats⟩ := c
    cases callee with
    | builtin b =>
      cases b with
      | len =>
        simp only [val] at h ⊢
        split at h
        · exact lenV_ext hx h
        · cases h
      | _ => exact h
    | _ => exact h
  | makeFunc fn first caps => cases fn <;> exact h
  | _ => exact h
/-- What no value comes of, but an action, has no value in a larger state either. -/
theorem val_none_ext (hx : XOk st.os d ex) (hos : st'.os = ext st.os ex) {op : Op} (hop : ∀ x ∈ op.operands, ev st'.env x = ev st.env x) {q : Prop × V × St} (h : val C st op = none) (ha : act C st d op = some q) : val C st' op = none := by
  have e : val C st' op = val C ⟨st.env, st'.os⟩ op := val_congr (st := st') (st' := ⟨st.env, st'.os⟩) rfl hop
  rw [e, hos]
  cases op with
  | convert s t x => simp only [val] at h ⊢; rw [convV_ext hx]; exact h
  | call c =>
    obtain ⟨callee, args, ats⟩ := c
    cases callee with
    | builtin b => cases b <;> first | exact h | (simp only [act, reduceCtorEq] at ha; done) | rfl
    | _ => exact h
  | _ => first | exact h | (simp only [act, reduceCtorEq] at ha)
theorem ev_moves {f : St → St} (hm : Moves st.os d f) (hx : XOk st.os d ex) (hos : st'.os = ext st.os ex) {x : Operand} (h : ev st'.env x = ev st.env x) : ev (f st').env x = ev (f st).env x := by
  obtain ⟨φ, _, _, h3, h4⟩ := hm.use hx hos
  rw [h4, show (f st).env = fun t => φ (st.env t) from funext h3]
  exact ev_upto φ h
theorem pcall_ext (hx : XOk st.os d ex) (hos : st'.os = ext st.os ex) {fo : Operand} {xs : List Operand} (hf : ev st'.env fo = ev st.env fo) (hxs : xs.map (ev st'.env) = xs.map (ev st.env)) {q : Prop × V} (h : pcall C st fo xs = some q) : pcall C st' fo xs = some q := by
  unfold pcall at h ⊢
  rw [hf, hxs, hos]
  split at h
  · rename_i hp
    rw [if_pos (ptrsOk_ext hx hp)]
    split at h
    · rename_i f caps hc
      rw [asDs_ext hx hc hp]
      exact h
    · cases h
  · cases h
theorem callV_nat (hx : XOk st.os d ex) (hos : st'.os = ext st.os ex) {fo : Operand} {xs : List Operand} (hf : ev st'.env fo = ev st.env fo) (hxs : ∀ x ∈ xs, ev st'.env x = ev st.env x) (hp : (ev st.env fo :: xs.map (ev st.env)).all (ptrOk st.os) = true) :
    (callV C st fo xs = none → callV C st' fo xs = none) ∧ ∀ p r s, callV C st fo xs = some (p, r, s) → ∃ φ, PhiOk st.os d φ ∧ KeepsNone st.os s.os d ∧ (∀ t, s.env t = φ (st.env t)) ∧ callV C st' fo xs = some (p, r, ⟨fun t => φ (st'.env t), ext s.os ex⟩) := by
  have hl : xs.map (ev st'.env) = xs.map (ev st.env) := List.map_congr_left hxs
  have hst : st' = ⟨st'.env, ext st.os ex⟩ := by cases st'; simp only at hos; rw [hos]
  unfold callV
  rw [hf, hl, hos]
  cases hc : calleeV (ev st.env fo) with
  | none => exact ⟨fun _ => rfl, fun p r s h => by cases h⟩
  | some q =>
    obtain ⟨f, caps⟩ := q
    simp only
    rw [asDs_ext hx hc hp]
    split
    · cases C.Γ f (xs.map (ev st.env) ++ caps) with
      | none => exact ⟨fun _ => rfl, fun p r s h => by cases h⟩
      | some q =>
        refine ⟨fun h => by (cases h), fun p r s h => ?_⟩
        simp only [Option.map_some, Option.some.injEq, Prod.mk.injEq] at h
        obtain ⟨rfl, rfl, rfl⟩ := h
        exact ⟨_, PhiOk.id _ _, KeepsNone.refl _ _, fun _ => rfl, by simp only [Option.map_some]; rw [← hst]⟩
    · cases C.Γ f ((xs.map (ev st.env) ++ caps).map (asD st.os)) with
      | none => exact ⟨fun _ => rfl, fun p r s h => by cases h⟩
      | some q =>
        obtain ⟨p', r'⟩ := q
        simp only
        split
        · refine ⟨fun h => by (cases h), fun p r s h => ?_⟩
          simp only [Option.some.injEq, Prod.mk.injEq] at h
          obtain ⟨rfl, rfl, rfl⟩ := h
          exact ⟨_, PhiOk.id _ _, KeepsNone.refl _ _, fun _ => rfl, by rw [← hst]⟩
        · have hm : Moves st.os d fun s => frzAll s (rowsOf (xs.map (ev st.env))) := Moves.frzAll _
          have e1 := ev_moves hm hx hos hf
          have e2 : xs.map (ev (frzAll st' (rowsOf (xs.map (ev st.env)))).env) = xs.map (ev (frzAll st (rowsOf (xs.map (ev st.env)))).env) := List.map_congr_left fun x hx' => ev_moves hm hx hos (hxs x hx')
          rw [e1, e2]
          split
          · rename_i f' caps' hc'
            split
            · cases C.Γ f' (xs.map (ev (frzAll st (rowsOf (xs.map (ev st.env)))).env) ++ caps') with
              | none => exact ⟨fun _ => rfl, fun p r s h => by cases h⟩
              | some q =>
                refine ⟨fun h => by (cases h), fun p r s h => ?_⟩
                simp only [Option.map_some, Option.some.injEq, Prod.mk.injEq] at h
                obtain ⟨rfl, rfl, rfl⟩ := h
                obtain ⟨φ, h1, h2, h3, h4⟩ := hm.use hx hos
                exact ⟨φ, h1, h2, h3, by simp only [Option.map_some]; rw [← h4]⟩
            · exact ⟨fun _ => rfl, fun p r s h => by cases h⟩
          · exact ⟨fun _ => rfl, fun p r s h => by cases h⟩
theorem rowObjs_ext {os : Nat → Option O} (hx : XOk os d ex) : ∀ {l : List Nat} {q : List O}, rowObjs os l = some q → rowObjs (ext os ex) l = some q
  | [], q, h => h
  | o :: r, q, h => by
    unfold rowObjs at h ⊢
    split at h
    · rename_i rows m e l ho hl
      rw [ext_some hx ho, rowObjs_ext hx hl]
      exact h
    · cases h
theorem footL_ext {os : Nat → Option O} (hx : XOk os d ex) : ∀ {vals : List V} {k : Nat} {q : List V × List O × List Nat}, footL os k vals = some q → footL (ext os ex) k vals = some q ∧ ∀ o ∈ q.2.2, os o ≠ none
  | [], k, q, h => by
    simp only [footL, Option.some.injEq] at h
    subst h
    exact ⟨rfl, fun o ho => by simp at ho⟩
  | v :: rest, k, q, h => by
    unfold footL at h
    split at h
    · rename_i e0; cases e0
    · rename_i o rest' e0
      cases e0
      unfold footL
      split at h
      · rename_i cs e ho
        simp only [ext_some hx ho]
        split at h
        · rename_i cs' rs hcs
          try simp only [hcs]
          split at h
          · rename_i l hl
            try simp only [rowObjs_ext hx hl]
            obtain ⟨q', hq, e1⟩ := Option.map_eq_some_iff.1 h
            obtain ⟨i1, i2⟩ := footL_ext hx hq
            rw [i1]
            refine ⟨congrArg some e1, ?_⟩
            rw [← e1]
            intro o' ho'
            rcases List.mem_cons.1 ho' with rfl | hm
            · rw [ho]; simp
            · rcases List.mem_append.1 hm with hm | hm
              · obtain ⟨l1, l2⟩ := rowObjs_spec hl
                obtain ⟨j, hj, rfl⟩ := List.getElem_of_mem hm
                obtain ⟨o2, h1, h2, _⟩ := l2 j _ (List.getElem?_eq_getElem (by omega))
                rw [List.getElem?_eq_getElem hj, Option.some.injEq] at h1
                rw [h1, h2]
                simp
              · exact i2 o' hm
          · cases h
        · cases h
      · cases h
    · rename_i o rest' e0
      cases e0
      unfold footL
      split at h
      · rename_i K ho
        simp only [ext_some hx ho]
        obtain ⟨q', hq, e1⟩ := Option.map_eq_some_iff.1 h
        obtain ⟨i1, i2⟩ := footL_ext hx hq
        rw [i1]
        refine ⟨congrArg some e1, ?_⟩
        rw [← e1]
        intro o' ho'
        rcases List.mem_cons.1 ho' with rfl | hm
        · rw [ho]; simp
        · exact i2 o' hm
      · rename_i rws mm ee ho
        simp only [ext_some hx ho]
        obtain ⟨q', hq, e1⟩ := Option.map_eq_some_iff.1 h
        obtain ⟨i1, i2⟩ := footL_ext hx hq
        rw [i1]
        refine ⟨congrArg some e1, ?_⟩
        rw [← e1]
        intro o' ho'
        rcases List.mem_cons.1 ho' with rfl | hm
        · rw [ho]; simp
        · exact i2 o' hm
      · cases h
    · rename_i x rest' g1 g2 e0
      cases e0
      split at h
      · rename_i hp
        obtain ⟨q', hq, e1⟩ := Option.map_eq_some_iff.1 h
        obtain ⟨i1, i2⟩ := footL_ext hx hq
        refine ⟨?_, by rw [← e1]; exact i2⟩
        cases v with
        | ptr o c =>
          cases c with
          | zero => exact (g1 _ rfl).elim
          | succ c => simp [V.pure, V.pure1] at hp
        | row o => exact (g2 _ rfl).elim
        | _ => unfold footL; rw [if_pos hp, i1]; exact congrArg some e1
      · cases h
theorem objsL_ext {os : Nat → Option O} (hx : XOk os d ex) : ∀ {l : List Nat} {q : List O}, objsL os l = some q → objsL (ext os ex) l = some q ∧ ∀ o ∈ l, os o ≠ none
  | [], q, h => ⟨h, fun o ho => by simp at ho⟩
  | o :: r, q, h => by
    unfold objsL at h ⊢
    split at h
    · rename_i x l ho hl
      obtain ⟨i1, i2⟩ := objsL_ext hx hl
      rw [ext_some hx ho, i1]
      refine ⟨h, fun o' ho' => ?_⟩
      rcases List.mem_cons.1 ho' with rfl | ho'
      · rw [ho]; simp
      · exact i2 o' ho'
    · cases h
theorem reachO_ext {os : Nat → Option O} (hx : XOk os d ex) : ∀ {f : Nat} {l acc q : List Nat}, reachO os f l acc = some q → reachO (ext os ex) f l acc = some q
  | 0, l, acc, q, h => by cases h
  | f + 1, [], acc, q, h => h
  | f + 1, o :: r, acc, q, h => by
    unfold reachO at h ⊢
    split at h
    · rename_i hc
      rw [if_pos hc]
      exact reachO_ext hx h
    · rename_i hc
      rw [if_neg hc]
      cases ho : os o with
      | none => rw [ho] at h; cases h
      | some y =>
        rw [ho] at h
        rw [ext_some hx ho]
        cases y <;> exact reachO_ext hx h
theorem rowObjs_same {os : Nat → Option O} (hx : XOk os d ex) : ∀ l : List Nat, rowObjs (ext os ex) l = rowObjs os l
  | [] => rfl
  | o :: r => by
    unfold rowObjs
    rw [rowObjs_same hx r]
    cases ho : os o with
    | none => rcases ext_not (ex := ex) ho with h | ⟨z, e, h⟩ <;> rw [h]
    | some y => rw [ext_some hx ho]
theorem footL_same {os : Nat → Option O} (hx : XOk os d ex) : ∀ {vals : List V} {k : Nat}, (∀ o, V.ptr o 0 ∈ vals → os o ≠ none) → footL (ext os ex) k vals = footL os k vals
  | [], k, _ => rfl
  | v :: rest, k, hm => by
    have ih : ∀ k, footL (ext os ex) k rest = footL os k rest := fun k => footL_same hx fun o ho => hm o (List.mem_cons_of_mem _ ho)
    cases v with
    | row o =>
      unfold footL
      cases ho : os o with
      | none => rcases ext_not (ex := ex) ho with h | ⟨z, e, h⟩ <;> simp only [h]
      | some y => simp only [ext_some hx ho, ih]
    | ptr o c =>
      cases c with
      | zero =>
        obtain ⟨y, hy⟩ := Option.ne_none_iff_exists'.1 (hm o List.mem_cons_self)
        unfold footL
        simp only [hy, ext_some hx hy, rowObjs_same hx, ih]
      | succ c => unfold footL; simp only [ih]
    | _ => unfold footL; simp only [ih]
theorem inLs_ptr {fl : List Nat} : ∀ {vals : List V}, V.inLs fl vals = true → ∀ {o : Nat}, V.ptr o 0 ∈ vals → memB o fl = true
  | [], _, o, ho => by simp at ho
  | x :: r, h, o, ho => by
    simp only [V.inLs, Bool.and_eq_true] at h
    rcases List.mem_cons.1 ho with rfl | ho
    · exact h.1
    · exact inLs_ptr h.2 ho
theorem footG_ext {os : Nat → Option O} (hx : XOk os d ex) {vals : List V} {q : List V × List O × List Nat} (h : footG os vals = some q) : footG (ext os ex) vals = some q ∧ (∀ o ∈ q.2.2, os o ≠ none) ∧ ∀ o, V.ptr o 0 ∈ vals → os o ≠ none := by
  unfold footG at h ⊢
  split at h
  · rename_i fl hr
    split at h
    · rename_i l hl
      split at h
      · rename_i hc
        simp only [Option.some.injEq] at h
        subst h
        obtain ⟨i1, i2⟩ := objsL_ext hx hl
        rw [reachO_ext hx hr]
        simp only [i1]
        rw [if_pos hc]
        rw [Bool.and_eq_true] at hc
        exact ⟨rfl, i2, fun o ho => i2 o (memB_true (inLs_ptr hc.1 ho))⟩
      · cases h
    · cases h
  · cases h
theorem footE_ext {os : Nat → Option O} (hx : XOk os d ex) {vals : List V} {q : List V × List O × List Nat} (h : footE os vals = some q) : footE (ext os ex) vals = some q ∧ ∀ o ∈ q.2.2, os o ≠ none := by
  unfold footE at h ⊢
  cases hL : footL os 100000 vals with
  | some q' =>
    rw [hL] at h
    simp only [Option.some.injEq] at h
    subst h
    obtain ⟨i1, i2⟩ := footL_ext hx hL
    rw [i1]
    exact ⟨rfl, i2⟩
  | none =>
    rw [hL] at h
    obtain ⟨g1, g2, g3⟩ := footG_ext hx h
    rw [footL_same hx g3, hL]
    exact ⟨g1, g2⟩
theorem pos_not {l : List Nat} {o : Nat} (h : o ∉ l) : pos l o = none := by
  cases e : pos l o with
  | none => rfl
  | some k => exact (h (List.mem_of_getElem? (pos_get e))).elim
theorem nextV_nat (hx : XOk st.os d ex) (hos : st'.os = ext st.os ex) {x : V} {p : Prop} {r : V} {s : St} (h : nextV st x = some (p, r, s)) :
    KeepsNone st.os s.os d ∧ s.env = st.env ∧ nextV st' x = some (p, r, ⟨st'.env, ext s.os ex⟩) := by
  unfold nextV at h
  split at h
  · rename_i o
    split at h
    · rename_i t pos ho
      have hne : st.os o ≠ none := by rw [ho]; simp
      unfold nextV
      simp only [hos, ext_some hx ho]
      split at h
      · rename_i hp
        simp only [Option.some.injEq, Prod.mk.injEq] at h
        obtain ⟨rfl, rfl, rfl⟩ := h
        refine ⟨fun u hu _ => ?_, rfl, by rw [if_pos hp, ext_upd hx (.inl hne)]⟩
        simp only
        rw [upd_ne]
        · exact hu
        · rintro rfl; exact hne hu
      · rename_i hp
        simp only [Option.some.injEq, Prod.mk.injEq] at h
        obtain ⟨rfl, rfl, rfl⟩ := h
        refine ⟨fun u hu _ => hu, rfl, ?_⟩
        rw [if_neg hp]
        simp only [Option.some.injEq, Prod.mk.injEq, true_and]
        exact St.ext' rfl hos
    · cases h
  · cases h
theorem mapUpV_nat (hx : XOk st.os d ex) (hos : st'.os = ext st.os ex) {t : TypeId} {m k y : V} {p : Prop} {r : V} {s : St} (h : mapUpV C st t m k y = some (p, r, s)) :
    KeepsNone st.os s.os d ∧ s.env = st.env ∧ mapUpV C st' t m k y = some (p, r, ⟨st'.env, ext s.os ex⟩) := by
  unfold mapUpV at h
  split at h
  · rename_i kt et o kd vd hk
    split at h
    · rename_i kv ho
      have hne : st.os o ≠ none := by rw [ho]; simp
      unfold mapUpV
      simp only [hk, hos, ext_some hx ho]
      split at h
      · rename_i hc
        rw [if_pos hc]
        split at h
        · rename_i r' hat
          simp only [Option.some.injEq, Prod.mk.injEq] at h
          obtain ⟨rfl, rfl, rfl⟩ := h
          refine ⟨fun u hu _ => ?_, rfl, by simp only [hat, ext_upd hx (.inl hne)]⟩
          simp only
          rw [upd_ne]
          · exact hu
          · rintro rfl; exact hne hu
        · cases h
      · cases h
    · cases h
  · cases h
theorem lookV_ext {os : Nat → Option O} (hx : XOk os d ex) {t : TypeId} {m k : V} {ok : Bool} {q : Prop × V} (h : lookV C os t m k ok = some q) : lookV C (ext os ex) t m k ok = some q := by
  unfold lookV at h
  split at h
  · rename_i kt et o kd hk
    split at h
    · rename_i kv ei ho hei
      unfold lookV
      simp only [hk, ext_some hx ho, hei]
      exact h
    · cases h
  · cases h
theorem newsL_mem {r : V} {d t : Nat} : ∀ {c k : Nat}, t ∈ newsL r d k c → t = d ∨ 20000 ≤ t
  | 0, k, h => by simp [newsL] at h
  | c + 1, k, h => by
    rw [newsL] at h
    rcases List.mem_cons.1 h with h | h
    · cases hr : resRow r k with
      | true => rw [hr] at h; exact .inl h
      | false => rw [hr] at h; right; rw [h]; show 20000 ≤ newNm d k; unfold newNm; omega
    · exact newsL_mem h
theorem freeB_ext {os : Nat → Option O} {ex : Option Ex} : ∀ {l : List Nat}, (∀ x, ex = some x → ∀ o ∈ l, o ≠ x.t) → freeB (ext os ex) l = freeB os l
  | [], _ => rfl
  | o :: r, h => by
    rw [freeB, freeB, freeB_ext fun x e q hq => h x e q (by simp [hq])]
    cases ex with
    | none => rfl
    | some x => rw [ext, upd_ne _ _ (h x rfl o (by simp))]
theorem callE_nat (hx : XOk st.os d ex) (hos : st'.os = ext st.os ex) {fo : Operand} {xs : List Operand} (hf : ev st'.env fo = ev st.env fo) (hxs : ∀ x ∈ xs, ev st'.env x = ev st.env x) {p : Prop} {r : V} {s : St} (h : callE C st d fo xs = some (p, r, s)) :
    ∃ φ, PhiOk st.os d φ ∧ KeepsNone st.os s.os d ∧ (∀ t, s.env t = φ (st.env t)) ∧ callE C st' d fo xs = some (p, r, ⟨fun t => φ (st'.env t), ext s.os ex⟩) := by
  have hl : xs.map (ev st'.env) = xs.map (ev st.env) := List.map_congr_left hxs
  unfold callE at h ⊢
  rw [hl]
  have hm : Moves st.os d fun s => fresh (frzAll s (rowsOf (xs.map (ev st.env)))) d := Moves.comp (Moves.frzAll _) fun _ _ => Moves.fresh
  have e1 := ev_moves hm hx hos hf
  have e2 : xs.map (ev (fresh (frzAll st' (rowsOf (xs.map (ev st.env)))) d).env) = xs.map (ev (fresh (frzAll st (rowsOf (xs.map (ev st.env)))) d).env) := List.map_congr_left fun x hx' => ev_moves hm hx hos (hxs x hx')
  obtain ⟨φ, h1, h2, h3, h4⟩ := hm.use hx hos
  simp only at h h2 h3 h4 ⊢
  rw [e1]
  generalize fresh (frzAll st (rowsOf (xs.map (ev st.env)))) d = s1 at *
  generalize fresh (frzAll st' (rowsOf (xs.map (ev st.env)))) d = s2 at *
  cases hc : calleeV (ev s1.env fo) with
  | none => rw [hc] at h; cases h
  | some q =>
    obtain ⟨f, caps⟩ := q
    rw [hc] at h
    simp only at h ⊢
    rw [e2]
    have hx1 := hx.keep h2
    have hs2 : s2.os = ext s1.os ex := by rw [h4]
    rw [hs2]
    split at h
    · rename_i args fp fl hfoot
      obtain ⟨g1, g2⟩ := footE_ext hx1 hfoot
      rw [g1]
      simp only
      split at h
      · rename_i p' r' fp' hΔ
        split at h
        · rename_i hok
          rw [Bool.and_eq_true] at hok
          rw [freeB_ext (ex := ex) (fun x e o ho c => by subst e; rcases newsL_mem ho with h | h; exact hx.2.1.1 (c.symm.trans h); have := hx.2.1.2; omega), if_pos (by rw [Bool.and_eq_true]; exact hok)]
          simp only [Option.some.injEq, Prod.mk.injEq] at h
          obtain ⟨rfl, rfl, rfl⟩ := h
          replace hok := hok.2
          rw [Bool.and_eq_true, beq_iff_eq] at hok
          have hno : ∀ t, st.os t = none → Off t d → t ∉ namesE fl fp.length fp'.length d r' := fun t ht htd hmem => by
            have hfl : t ∉ fl := fun hm => g2 t hm (h2 t ht htd)
            rcases List.mem_append.1 hmem with hm | hm
            · exact hfl hm
            · rcases newsL_mem hm with h | h
              · exact htd.1 h
              · have := htd.2; omega
          generalize namesE fl fp.length fp'.length d r' = nm at *
          have hS : ∀ t, t ∉ nm → rowsS nm fp' t = false := fun t ht => by rw [rowsS_pos hok.2, pos_not ht]
          have hO : ∀ (σ : Nat → Nat) (g : Nat → Option O) t, t ∉ nm → putO σ nm fp' g t = g t := fun σ g t ht => by rw [putO_pos hok.2, pos_not ht]
          have hO2 : ∀ (σ : Nat → Nat) (g g' : Nat → Option O) t, (t ∉ nm → g t = g' t) → putO σ nm fp' g t = putO σ nm fp' g' t := fun σ g g' t hg => by
            rw [putO_pos hok.2, putO_pos hok.2]
            cases hp : pos nm t with
            | some k => rfl
            | none =>
              refine hg fun hm => ?_
              obtain ⟨k, hk, e⟩ := List.getElem_of_mem hm
              have := pos_of (nodupB_nodup hok.1) (List.getElem?_eq_some_iff.2 ⟨hk, e⟩)
              rw [this] at hp
              cases hp
          refine ⟨fun v => (φ v).killS (rowsS nm fp'), ⟨fun x => by simp only [h1.d, V.killS, V.killSs_eq], by simp only [h1.nil, V.killS, V.killSs_eq], by simp only [h1.top, V.killS, V.killSs_eq], fun t c ht htd => by rw [h1.ptr t c ht htd, V.killS, hS t (hno t ht htd)]; rfl⟩, fun t ht htd => ?_, fun t => by show (s1.env t).killS _ = (φ (st.env t)).killS _; rw [h3], ?_⟩
          · show putO _ _ _ _ t = none
            rw [hO _ _ t (hno t ht htd), h2 t ht htd]
            rfl
          · simp only [Option.some.injEq, Prod.mk.injEq, true_and]
            rw [h4]
            simp only [St.mk.injEq, true_and]
            cases ex with
            | none => rfl
            | some y =>
              simp only [ext]
              have hy := hno y.t hx.1 hx.2.1
              funext t
              simp only [upd]
              split
              · rename_i c
                subst c
                rw [hO _ _ _ hy]
                simp only [if_true, Option.map_some, O.killS]
                rw [inert_map (fun _ => by simp only [V.killS]) (by simp only [V.killS]) (by simp only [V.killS]) hx.2.2]
              · rename_i c
                refine hO2 _ _ _ t fun _ => ?_
                simp only [if_neg c]
        · cases h
      · cases h
    · cases h
theorem rowsR_ext {os : Nat → Option O} {ex : Option Ex} (hx : XOk os d ex) : ∀ l : List Nat, rowsR (ext os ex) l = rowsR os l
  | [] => rfl
  | o :: r => by
    have e : rowIs (ext os ex o) = rowIs (os o) := by
      cases ho : os o with
      | none => rcases ext_not (ex := ex) ho with h | ⟨z, e2, h⟩ <;> rw [h] <;> rfl
      | some y => rw [ext_some hx ho]
    simp only [rowsR, e, rowsR_ext hx r]
theorem callH_nat (hx : XOk st.os d ex) (hos : st'.os = ext st.os ex) {fo : Operand} {xs : List Operand} (hf : ev st'.env fo = ev st.env fo) (hxs : ∀ x ∈ xs, ev st'.env x = ev st.env x) {p : Prop} {r : V} {s : St} (h : callH C st d fo xs = some (p, r, s)) :
    ∃ φ, PhiOk st.os d φ ∧ KeepsNone st.os s.os d ∧ (∀ t, s.env t = φ (st.env t)) ∧ callH C st' d fo xs = some (p, r, ⟨fun t => φ (st'.env t), ext s.os ex⟩) := by
  unfold callH at h ⊢
  split at h
  · rename_i hint
    have hl : xs.map (ev st'.env) = xs.map (ev st.env) := List.map_congr_left hxs
    rw [hl, hos, rowsR_ext hx]
    generalize rowsR st.os (rowsOf (xs.map (ev st.env))) = L at h ⊢
    obtain ⟨⟨p', r', s1⟩, hq, e⟩ := Option.map_eq_some_iff.1 h
    simp only [Prod.mk.injEq] at e
    obtain ⟨rfl, rfl, rfl⟩ := e
    have hm : Moves st.os d fun s => VE.arrAll s L := Moves.arrAll L
    have hf1 := ev_moves hm hx hos hf
    have hxs1 : ∀ x ∈ xs, ev (VE.arrAll st' L).env x = ev (VE.arrAll st L).env x := fun x hx' => ev_moves hm hx hos (hxs x hx')
    obtain ⟨φ0, p0, k0, v0, e0⟩ := hm.use hx hos
    try simp only at k0 v0 e0
    have hx1 := hx.keep k0
    obtain ⟨φ1, p1, k1, v1, e1⟩ := callE_nat (st := VE.arrAll st L) (st' := VE.arrAll st' L) hx1 (by rw [e0]) hf1 hxs1 hq
    have hx2 := hx1.keep k1
    have hm2 : Moves s1.os d fun s => VE.rowAll s L := Moves.rowAll L
    obtain ⟨φ2, p2, k2, v2, e2⟩ := hm2.use (st' := ⟨fun t => φ1 ((VE.arrAll st' L).env t), ext s1.os ex⟩) hx2 rfl
    try simp only at k2 v2 e2
    refine ⟨fun v => φ2 (φ1 (φ0 v)), ⟨fun x => by rw [p0.d, p1.d, p2.d], by rw [p0.nil, p1.nil, p2.nil], by rw [p0.top, p1.top, p2.top], fun t c h hd => by rw [p0.ptr t c h hd, p1.ptr t c (k0 t h hd) hd, p2.ptr t c (k1 t (k0 t h hd) hd) hd]⟩, fun t h hd => k2 t (k1 t (k0 t h hd) hd) hd, fun t => by rw [v2, v1, v0], ?_⟩
    rw [e1, Option.map_some]
    simp only
    rw [e2]
    have e3 : (VE.arrAll st' L).env = fun t => φ0 (st'.env t) := by rw [e0]
    rw [e3]
  · rename_i hint
    exact callE_nat hx hos hf hxs h
theorem storeV_nat (hx : XOk st.os d ex) (hos : st'.os = ext st.os ex) {t : TypeId} {x y : V} {p : Prop} {r : V} {s : St} (h : storeV C st t x y = some (p, r, s)) :
    KeepsNone st.os s.os d ∧ s.env = st.env ∧ storeV C st' t x y = some (p, r, ⟨st'.env, ext s.os ex⟩) := by
  have keep : ∀ (o : Nat) (z : O), st.os o ≠ none → KeepsNone st.os (upd st.os o (some z)) d := fun o z ho t ht _ => by
    rw [upd_ne]
    · exact ht
    · rintro rfl; exact ho ht
  unfold storeV at h
  split at h
  · rename_i i hi
    split at h
    · rename_i ys hys
      split at h
      · rename_i hsz
        split at h
        · rename_i o c
          split at h
          · rename_i cs e ho
            split at h
            · rename_i hle
              simp only [Option.some.injEq, Prod.mk.injEq] at h
              obtain ⟨rfl, rfl, rfl⟩ := h
              have hne : st.os o ≠ none := by rw [ho]; simp
              refine ⟨keep o _ hne, rfl, ?_⟩
              unfold storeV
              simp only [hi, hys, if_pos hsz, hos, ext_some hx ho, if_pos hle, ext_upd hx (.inl hne)]
            · cases h
          · cases h
        · rename_i o m k j
          split at h
          · rename_i rows m' e ho
            split at h
            · rename_i hle
              obtain ⟨ds, hds, e2⟩ := Option.map_eq_some_iff.1 h
              simp only [Prod.mk.injEq] at e2
              obtain ⟨rfl, rfl, rfl⟩ := e2
              obtain ⟨ox, hox, hoxr⟩ := rowAt_some ho
              have hne : st.os o ≠ none := by rw [hox]; simp
              have he : ext st.os ex o = st.os o := by rw [ext_some hx hox, hox]
              refine ⟨keep o _ hne, rfl, ?_⟩
              unfold storeV
              simp only [hi, hys, if_pos hsz, hos, he, ho, if_pos hle, hds, Option.map_some, ext_upd hx (.inl hne)]
            · cases h
          · cases h
        · cases h
      · cases h
    · cases h
  · cases h
theorem parts_upto {env env' : Nat → V} {parts : Array (Nat × Operand)} (h : ∀ x ∈ (parts.toList.map (·.2)).toArray, ev env' x = ev env x) (φ : V → V) :
    ((parts.toList.map fun p => (p.1, ev (fun t => φ (env' t)) p.2)) = parts.toList.map fun p => (p.1, ev (fun t => φ (env t)) p.2)) ∧ ((parts.toList.map fun p => ev env' p.2) = parts.toList.map fun p => ev env p.2) := by
  have hx : ∀ q ∈ parts.toList, ev env' q.2 = ev env q.2 := fun q hq => h q.2 (by simp only [List.mem_toArray]; exact List.mem_map.2 ⟨q, hq, rfl⟩)
  exact ⟨List.map_congr_left fun q hq => by rw [ev_upto φ (hx q hq)], List.map_congr_left hx⟩
theorem stay {st st' : St} {d : Nat} {ex : Option Ex} (hos : st'.os = ext st.os ex) {R : St → Prop} (h : R st') : ∃ φ, PhiOk st.os d φ ∧ KeepsNone st.os st.os d ∧ (∀ t, st.env t = φ (st.env t)) ∧ R ⟨fun t => φ (st'.env t), ext st.os ex⟩ :=
  ⟨_, PhiOk.id _ _, KeepsNone.refl _ _, fun _ => rfl, by cases st'; simp only at hos; subst hos; exact h⟩
/-- An action hangs on what it reads alone, and leaves a further box as it is. -/
theorem act_nat (hx : XOk st.os d ex) (hos : st'.os = ext st.os ex) {op : Op} (hop : ∀ x ∈ op.operands, ev st'.env x = ev st.env x) {p : Prop} {r : V} {s : St} (h : act C st d op = some (p, r, s)) :
    ∃ φ, PhiOk st.os d φ ∧ KeepsNone st.os s.os d ∧ (∀ t, s.env t = φ (st.env t)) ∧ act C st' d op = some (p, r, ⟨fun t => φ (st'.env t), ext s.os ex⟩) := by
  cases op with
  | alloc e =>
    simp only [act] at h ⊢
    split at h
    · rename_i i hi
      simp only [Option.some.injEq, Prod.mk.injEq] at h
      obtain ⟨rfl, rfl, rfl⟩ := h
      obtain ⟨φ, h1, h2, h3, h4⟩ := (Moves.new (.box i.zero e)).use hx hos
      exact ⟨φ, h1, h2, h3, congrArg (fun q => some (_, _, q)) h4⟩
    · cases h
  | box e x =>
    simp only [act] at h ⊢
    have e1 := ev_moves (Moves.fresh (os := st.os) (d := d)) hx hos (hop x (by simp [Op.operands]))
    rw [e1]
    split at h
    · rename_i cs hcs
      simp only [Option.some.injEq, Prod.mk.injEq] at h
      obtain ⟨rfl, rfl, rfl⟩ := h
      obtain ⟨φ, h1, h2, h3, h4⟩ := (Moves.new (.box cs e)).use hx hos
      exact ⟨φ, h1, h2, h3, congrArg (fun q => some (_, _, q)) h4⟩
    · cases h
  | store t x y =>
    simp only [act] at h ⊢
    simp only [Op.operands] at hop
    rw [hop x (by simp), hop y (by simp)]
    obtain ⟨h1, h2, h3⟩ := storeV_nat (d := d) hx hos h
    exact ⟨_, PhiOk.id _ _, h1, fun t => by rw [h2], h3⟩
  | build t parts =>
    simp only [act] at h ⊢
    simp only [Op.operands] at hop
    obtain ⟨e1, _⟩ := parts_upto hop fun v => v
    have hb : buildV C (ev st'.env) t parts.toList = buildV C (ev st.env) t parts.toList := by
      unfold buildV
      rw [e1]
    rw [hb]
    obtain ⟨v, hv, e2⟩ := Option.map_eq_some_iff.1 h
    simp only [Prod.mk.injEq] at e2
    obtain ⟨rfl, rfl, rfl⟩ := e2
    rw [hv]
    exact stay hos (R := fun q => Option.map (fun v => (True, v, st')) (some v) = some (True, v, q)) rfl
  | buildSlice t len parts =>
    simp only [act] at h ⊢
    simp only [Op.operands] at hop
    unfold litV at h ⊢
    split at h
    · rename_i i hi
      split at h
      · rename_i e hk
        simp only
        split at h
        · rename_i ie hie
          split at h
          · rename_i hl
            rw [if_pos hl]
            split at h
            · rename_i hp0
              rw [if_pos hp0]
              simp only [Option.some.injEq, Prod.mk.injEq] at h
              obtain ⟨rfl, rfl, rfl⟩ := h
              obtain ⟨φ, h1, h2, h3, h4⟩ := (Moves.new (.row [] ie.size e)).use hx hos
              exact ⟨φ, h1, h2, h3, congrArg (fun q => some (_, _, q)) h4⟩
            · cases h
          · rename_i hl
            rw [if_neg hl]
            split at h
            · rename_i hc
              rw [if_pos hc]
              have e0 := (parts_upto hop fun v => v).2
              rw [e0]
              split at h
              · rename_i hint
                rw [if_pos hint]
                have hm : Moves st.os d fun s => fresh (frzAll s (rowsOf (parts.toList.map fun p => ev st.env p.2))) d := Moves.comp (Moves.frzAll _) fun _ _ => Moves.fresh
                obtain ⟨φ, h1, h2, h3, h4⟩ := hm.use hx hos
                have e1 := (parts_upto hop φ).1
                have e3 : (fresh (frzAll st (rowsOf (parts.toList.map fun p => ev st.env p.2))) d).env = fun t => φ (st.env t) := funext h3
                have e5 : (fresh (frzAll st' (rowsOf (parts.toList.map fun p => ev st.env p.2))) d).env = fun t => φ (st'.env t) := by rw [h4]
                rw [e5, e1, ← e3]
                split at h
                · obtain ⟨ds, hds, e2⟩ := Option.map_eq_some_iff.1 h
                  simp only [Prod.mk.injEq] at e2
                  obtain ⟨rfl, rfl, rfl⟩ := e2
                  have hm2 : Moves st.os d fun s => { fresh (frzAll s (rowsOf (parts.toList.map fun p => ev st.env p.2))) d with os := upd (fresh (frzAll s (rowsOf (parts.toList.map fun p => ev st.env p.2))) d).os d (some (.row (rowsD ie.size len ds) ie.size e)) } := Moves.comp (Moves.frzAll _) fun _ _ => Moves.new _
                  obtain ⟨φ2, k1, k2, k3, k4⟩ := hm2.use hx hos
                  refine ⟨φ2, k1, k2, k3, ?_⟩
                  simp only [hds, Option.map_some]
                  simp only at k4
                  rw [e5] at k4
                  exact congrArg (fun q => some (_, _, q)) k4
                · cases h
              · rename_i hint
                rw [if_neg hint]
                have hm : Moves st.os d fun s => frzAll s (rowsOf (parts.toList.map fun p => ev st.env p.2)) := Moves.frzAll _
                obtain ⟨φ, h1, h2, h3, h4⟩ := hm.use hx hos
                have e1 := (parts_upto hop φ).1
                have e3 : (frzAll st (rowsOf (parts.toList.map fun p => ev st.env p.2))).env = fun t => φ (st.env t) := funext h3
                rw [h4]
                simp only
                rw [e1, ← e3]
                split at h
                · obtain ⟨ds, hds, e2⟩ := Option.map_eq_some_iff.1 h
                  simp only [Prod.mk.injEq] at e2
                  obtain ⟨rfl, rfl, rfl⟩ := e2
                  exact ⟨φ, h1, h2, h3, by simp only [hds, Option.map_some]⟩
                · cases h
            · cases h
        · cases h
      · cases h
    · cases h
  | makeSlice t l c =>
    simp only [act] at h ⊢
    simp only [Op.operands] at hop
    rw [hop l (by simp), hop c (by simp)]
    unfold makeV at h ⊢
    split at h
    · split at h
      · split at h
        · simp only
          split at h
          · obtain ⟨zd, hzd, e2⟩ := Option.map_eq_some_iff.1 h
            simp only [Prod.mk.injEq] at e2
            obtain ⟨rfl, rfl, rfl⟩ := e2
            obtain ⟨φ, h1, h2, h3, h4⟩ := (Moves.new _).use hx hos
            exact ⟨φ, h1, h2, h3, by rw [hzd]; exact congrArg (fun q => some (_, _, q)) h4⟩
          · cases h
        · cases h
      · cases h
    · cases h
  | range t x =>
    simp only [act] at h ⊢
    simp only [Op.operands] at hop
    rw [hop x (by simp)]
    unfold rangeV at h ⊢
    split at h
    · rename_i s' hk _
      simp only [Option.some.injEq, Prod.mk.injEq] at h
      obtain ⟨rfl, rfl, rfl⟩ := h
      obtain ⟨φ, h1, h2, h3, h4⟩ := (Moves.new (.raw (.iter s' 0))).use hx hos
      exact ⟨φ, h1, h2, h3, congrArg (fun q => some (_, _, q)) h4⟩
    · cases h
  | next x isS =>
    cases isS with
    | false => simp only [act, reduceCtorEq] at h
    | true =>
      simp only [act] at h ⊢
      simp only [Op.operands] at hop
      rw [hop x (by simp)]
      obtain ⟨h1, h2, h3⟩ := nextV_nat (d := d) hx hos h
      exact ⟨_, PhiOk.id _ _, h1, fun t => by rw [h2], h3⟩
  | makeMap t res =>
    cases res with
    | some res => simp only [act, reduceCtorEq] at h
    | none =>
      simp only [act] at h ⊢
      simp only [Option.some.injEq, Prod.mk.injEq] at h
      obtain ⟨rfl, rfl, rfl⟩ := h
      obtain ⟨φ, h1, h2, h3, h4⟩ := (Moves.new (.raw (.map []))).use hx hos
      exact ⟨φ, h1, h2, h3, congrArg (fun q => some (_, _, q)) h4⟩
  | mapUpdate t m k x =>
    simp only [act] at h ⊢
    simp only [Op.operands] at hop
    rw [hop m (by simp), hop k (by simp), hop x (by simp)]
    obtain ⟨h1, h2, h3⟩ := mapUpV_nat (d := d) hx hos h
    exact ⟨_, PhiOk.id _ _, h1, fun t => by rw [h2], h3⟩
  | lookup t m k ok =>
    simp only [act] at h ⊢
    simp only [Op.operands] at hop
    rw [hop m (by simp), hop k (by simp), hos]
    obtain ⟨q, hv, e2⟩ := Option.map_eq_some_iff.1 h
    simp only [Prod.mk.injEq] at e2
    obtain ⟨rfl, rfl, rfl⟩ := e2
    rw [lookV_ext hx hv]
    exact stay hos (R := fun s => some (q.1, q.2, st') = some (q.1, q.2, s)) rfl
  | convert s0 dt x =>
    simp only [act] at h ⊢
    simp only [Op.operands] at hop
    rw [hop x (by simp)]
    split at h
    · split at h
      · rename_i h8
        rw [if_pos h8]
        split at h
        · simp only [Option.some.injEq, Prod.mk.injEq] at h
          obtain ⟨rfl, rfl, rfl⟩ := h
          rename_i b _ _ _ _
          exact stay hos (R := fun q => some (_, _, st') = some (_, _, q)) rfl
        · cases h
      · cases h
    · cases h
  | call c =>
    obtain ⟨callee, args, ats⟩ := c
    cases callee with
    | value fo =>
      simp only [act] at h ⊢
      simp only [Op.operands] at hop
      have hf : ev st'.env fo = ev st.env fo := hop fo (by simp [Call.operands])
      have hxs : ∀ x ∈ args.toList, ev st'.env x = ev st.env x := fun x hx' => hop x (by simp at hx'; simp [Call.operands, hx'])
      have hl : args.toList.map (ev st'.env) = args.toList.map (ev st.env) := List.map_congr_left hxs
      rw [hf, hl, hos]
      split at h
      · rename_i hp
        rw [if_pos (ptrsOk_ext hx hp)]
        obtain ⟨n1, n2⟩ := callV_nat (C := C) hx hos hf hxs hp
        split at h
        · rename_i q hq
          simp only [Option.some.injEq] at h
          subst h
          obtain ⟨φ, h1, h2, h3, h4⟩ := n2 _ _ _ hq
          exact ⟨φ, h1, h2, h3, by rw [h4]⟩
        · rename_i hq
          rw [n1 hq]
          exact callH_nat hx hos hf hxs h
      · cases h
    | invoke r m => simp only [act, reduceCtorEq] at h
    | builtin b =>
      cases b <;> first | (simp only [act, reduceCtorEq] at h; done) | skip
      simp only [act] at h ⊢
      simp only [Op.operands] at hop
      split at h
      · rename_i so xo t t' ha ht
        have h1 : ev st'.env so = ev st.env so := hop so (by
          have : so ∈ args.toList := by rw [ha]; simp
          simp at this; simp [Call.operands, this])
        have h2 : ev st'.env xo = ev st.env xo := hop xo (by
          have : xo ∈ args.toList := by rw [ha]; simp
          simp at this; simp [Call.operands, this])
        split at h
        · rename_i htt
          rw [if_pos htt]
          unfold appV at h ⊢
          split at h
          · rename_i i hi
            split at h
            · rename_i e hk
              simp only
              split at h
              · rename_i ie hie
                split at h
                · rename_i hpos
                  rw [if_pos hpos, h1]
                  split at h
                  · rename_i o hso
                    split at h
                    · rename_i rows m e' ho
                      rw [hos, ext_some hx ho]
                      simp only
                      split at h
                      · rename_i hc
                        rw [if_pos hc]
                        obtain ⟨rows2, hr, e2⟩ := Option.map_eq_some_iff.1 h
                        simp only [Prod.mk.injEq] at e2
                        obtain ⟨rfl, rfl, rfl⟩ := e2
                        rw [h2, argRows_ext hx hr]
                        obtain ⟨φ, h1, h2, h3, h4⟩ := (Moves.killAll (d := d) (os := st.os) (o := o) (by rw [ho]; simp) (.row (rows ++ rows2) m e)).use hx hos
                        exact ⟨φ, h1, h2, h3, congrArg (fun q => some (_, _, q)) h4⟩
                      · cases h
                    · cases h
                  · rename_i hso
                    have e1 := ev_moves (Moves.fresh (os := st.os) (d := d)) hx hos h2
                    obtain ⟨_, _, k2, _, k4⟩ := (Moves.fresh (os := st.os) (d := d)).use hx hos
                    have k5 : (fresh st' d).os = ext (fresh st d).os ex := by rw [k4]
                    obtain ⟨rows2, hr, e2⟩ := Option.map_eq_some_iff.1 h
                    simp only [Prod.mk.injEq] at e2
                    obtain ⟨rfl, rfl, rfl⟩ := e2
                    rw [e1]
                    obtain ⟨φ, h1, h2, h3, h4⟩ := (Moves.new (.row rows2 ie.size e)).use hx hos
                    refine ⟨φ, h1, h2, h3, ?_⟩
                    rw [k5, argRows_ext (hx.keep k2) hr]
                    rw [k5] at h4
                    exact congrArg (fun q => some (_, _, q)) h4
                  · cases h
                · cases h
              · cases h
            · cases h
          · cases h
        · cases h
      · cases h
  | _ => simp only [act, reduceCtorEq] at h
end
end Go.Proofs.YtgnnakibcjonbaaGreatDoor.VE

/- The evaluator: regions that draw their order, with effects: steps, and when two of them may change places. -/
namespace Go.Proofs.YtgnnakibcjonbaaGreatDoor.VE
open Go Go.RowKit
set_option linter.unusedVariables false
set_option linter.unusedSimpArgs false
/-- Operations that may change the state. -/
def effOp : Op → Bool
  | .alloc _ | .box _ _ | .store _ _ _ | .makeSlice _ _ _ | .range _ _ | .next _ _ | .makeMap _ _ | .mapUpdate _ _ _ _ | .lookup _ _ _ _ => true
  | .call { callee := .value _, .. } => true
  | .call { callee := .builtin .append, .. } => true
  | _ => false
def isAlloc : Op → Bool
  | .alloc _ => true
  | _ => false
theorem eff_val {C : Cx} {st : St} {op : Op} (h : effOp op = true) : val C st op = none := by
  cases op <;> simp only [effOp, Bool.false_eq_true] at h <;> try rfl
  rename_i c
  obtain ⟨callee, args, ats⟩ := c
  cases callee with
  | value f => rfl
  | invoke r m => simp at h
  | builtin b => cases b <;> first | rfl | (simp at h)
def dOf (o : Oper) : Nat := o.dst.getD 99999
/-- An effect as a step of the state alone. -/
def estep (C : Cx) (o : Oper) (st : St) : Option (Prop × St) :=
  if effOp o.op && o.guard.isNone then (act C st (dOf o) o.op).map fun q => (q.1, putE q.2.2 o.dst q.2.1) else none
def sstep (C : Cx) (ops : Array Oper) (o : Oper) (st : St) : Option (Prop × St) :=
  match pstep C ops o st with
  | some q => some q
  | none => estep C o st
/-- A value that was reckoned ahead of an effect is the same behind it. -/
def recheck (C : Cx) (ops : Array Oper) (x : Oper) (s : St) : Prop :=
  match pstep C ops x s with
  | some (p, s2) => p ∧ match x.dst with
    | some t => s2.env t = s.env t
    | none => True
  | none => False
def rechecks (C : Cx) (ops : Array Oper) : List Nat → St → Prop
  | [], _ => True
  | j :: rc, s => (match ops[j]? with
    | some x => recheck C ops x s
    | none => False) ∧ rechecks C ops rc s
/-- The operations by a plan: an order, and behind each one what is reckoned once more. -/
def runD (C : Cx) (ops : Array Oper) : List (Nat × List Nat) → St → (St → Prop) → Prop
  | [], st, K => K st
  | (i, rc) :: l, st, K => match ops[i]? with
    | some o => match sstep C ops o st with
      | some (p, s) => p ∧ rechecks C ops rc s ∧ runD C ops l s K
      | none => False
    | none => False
theorem rechecks_mem {C : Cx} {ops : Array Oper} {s : St} : ∀ {rc : List Nat}, rechecks C ops rc s ↔ ∀ j ∈ rc, ∃ x, ops[j]? = some x ∧ recheck C ops x s
  | [] => by simp [rechecks]
  | j :: rc => by
    rw [rechecks, rechecks_mem (rc := rc)]
    constructor
    · rintro ⟨h1, h2⟩ k hk
      rcases List.mem_cons.1 hk with rfl | hk
      · split at h1
        · rename_i x hx; exact ⟨x, hx, h1⟩
        · exact h1.elim
      · exact h2 k hk
    · intro h
      refine ⟨?_, fun k hk => h k (List.mem_cons_of_mem _ hk)⟩
      obtain ⟨x, hx, hr⟩ := h j (by simp)
      rw [hx]
      exact hr
/-- What a pure step leaves. -/
theorem pstep_form {C : Cx} {ops : Array Oper} {o : Oper} {st s : St} {p : Prop} (h : pstep C ops o st = some (p, s)) : ∃ v, s = putE st o.dst v := by
  unfold pstep at h
  split at h
  · obtain ⟨q, _, e⟩ := Option.map_eq_some_iff.1 h
    simp only [Prod.mk.injEq] at e
    exact ⟨_, e.2.symm⟩
  · obtain ⟨q, _, e⟩ := Option.map_eq_some_iff.1 h
    simp only [Prod.mk.injEq] at e
    exact ⟨_, e.2.symm⟩
  · cases h
/-- A pure step at another state that looks the same to it. -/
theorem pstep_at {C : Cx} {ops : Array Oper} {o : Oper} {st st' : St} (hos : st'.os = st.os) (h : ∀ t ∈ o.looksAt ops, st'.env t = st.env t) :
    (pstep C ops o st = none → pstep C ops o st' = none) ∧ ∀ p s, pstep C ops o st = some (p, s) → ∃ v, s = putE st o.dst v ∧ pstep C ops o st' = some (p, putE st' o.dst v) := by
  obtain ⟨h1, h2, h3⟩ := pstep_parts (C := C) hos h
  unfold pstep
  rw [h1, h2, h3]
  split
  · cases pureV C st o.op with
    | none => exact ⟨fun _ => rfl, fun p s h => by cases h⟩
    | some q =>
      refine ⟨fun h => by (cases h), fun p s h => ?_⟩
      simp only [Option.map_some, Option.some.injEq, Prod.mk.injEq] at h
      obtain ⟨rfl, rfl⟩ := h
      exact ⟨_, rfl, rfl⟩
  · cases pureG C st o.op with
    | none => exact ⟨fun _ => rfl, fun p s h => by cases h⟩
    | some q =>
      refine ⟨fun h => by (cases h), fun p s h => ?_⟩
      simp only [Option.map_some, Option.some.injEq, Prod.mk.injEq] at h
      obtain ⟨rfl, rfl⟩ := h
      exact ⟨_, rfl, rfl⟩
  · exact ⟨fun _ => rfl, fun p s h => by cases h⟩
theorem St.same {a b : St} (h1 : ∀ t, a.env t = b.env t) (h2 : a.os = b.os) : a = b := by
  cases a; cases b
  simp only at h1 h2
  rw [h2, funext h1]
theorem putE_self {st : St} {d : Option Nat} {v : V} (h : ∀ t, d = some t → st.env t = v) : putE st d v = st := by
  cases d with
  | none => rfl
  | some t =>
    cases st
    simp only [putE, St.mk.injEq, and_true]
    funext q
    simp only [upd]
    split
    · rename_i e; rw [e]; exact (h t rfl).symm
    · rfl
theorem putE_put (st : St) (d : Option Nat) (v v' : V) : putE (putE st d v) d v' = putE st d v' := by
  cases d with
  | none => rfl
  | some t =>
    simp only [putE, St.mk.injEq, and_true]
    funext q
    simp only [upd]
    split <;> rfl
/-- Recheck, at a state that differs in what neither is looked at nor written. -/
theorem recheck_at {C : Cx} {ops : Array Oper} {z : Oper} {s s' : St} (hos : s'.os = s.os) (h : ∀ t ∈ z.looksAt ops, s'.env t = s.env t) (hd : ∀ t, z.dst = some t → s'.env t = s.env t) (hr : recheck C ops z s) : recheck C ops z s' := by
  unfold recheck at hr
  cases hp : pstep C ops z s with
  | none => rw [hp] at hr; exact hr.elim
  | some q =>
    obtain ⟨p, s2⟩ := q
    rw [hp] at hr
    obtain ⟨v, rfl, e2⟩ := (pstep_at (C := C) (ops := ops) hos h).2 _ _ hp
    unfold recheck
    rw [e2]
    refine ⟨hr.1, ?_⟩
    have h2 := hr.2
    cases hz : z.dst with
    | none => trivial
    | some t =>
      rw [hz] at h2
      simp only [putE, upd_same] at h2 ⊢
      rw [hd t hz]
      exact h2
/-- x, then an effect y; y first, if x gives the same behind it. -/
theorem comm_eff {C : Cx} {ops : Array Oper} {x y : Oper} (hap : x.apart ops y = true) {st s1 s2 : St} {p q : Prop} (h1 : pstep C ops x st = some (p, s1)) (hn : pstep C ops y s1 = none) (h2 : estep C y s1 = some (q, s2)) (hr : recheck C ops x s2) (hself : ∀ t ∈ x.looksAt ops, x.dst ≠ some t) :
    ∃ s1' p', pstep C ops y st = none ∧ estep C y st = some (q, s1') ∧ pstep C ops x s1' = some (p', s2) ∧ p' := by
  obtain ⟨a1, a2, a3⟩ := Oper.apart_spec hap
  obtain ⟨v, rfl⟩ := pstep_form h1
  have look : ∀ t ∈ y.looksAt ops, st.env t = (putE st x.dst v).env t := fun t ht => (putE_env (fun e => a1 t e ht)).symm
  have hos : st.os = (putE st x.dst v).os := (putE_os _ _ _).symm
  have hn' := (pstep_at (C := C) (ops := ops) (o := y) hos look).1 hn
  unfold estep at h2
  split at h2
  · rename_i hc
    obtain ⟨⟨q', r, s⟩, ha, e⟩ := Option.map_eq_some_iff.1 h2
    simp only [Prod.mk.injEq] at e
    obtain ⟨rfl, rfl⟩ := e
    have key : ∀ z ∈ y.op.operands, ev st.env z = ev (putE st x.dst v).env z := fun z hz => by
      cases z with
      | tmp t => exact look t (looks_operand hz)
      | _ => rfl
    obtain ⟨φ, _, _, h3, h4⟩ := act_nat (ex := none) (st := putE st x.dst v) (st' := st) trivial hos key ha
    refine ⟨putE ⟨fun t => φ (st.env t), s.os⟩ y.dst r, ?_⟩
    have hE : estep C y st = some (q', putE ⟨fun t => φ (st.env t), s.os⟩ y.dst r) := by
      unfold estep
      rw [if_pos hc, h4]
      rfl
    -- what x gives behind both
    unfold recheck at hr
    cases hp : pstep C ops x (putE s y.dst r) with
    | none => rw [hp] at hr; exact hr.elim
    | some u =>
      obtain ⟨p', s3⟩ := u
      rw [hp] at hr
      have henv : ∀ t, x.dst ≠ some t → (putE ⟨fun t => φ (st.env t), s.os⟩ y.dst r).env t = (putE s y.dst r).env t := fun t ht => by
        have : φ (st.env t) = s.env t := by rw [h3, putE_env ht]
        cases hy : y.dst with
        | none => exact this
        | some u =>
          simp only [putE, upd]
          split
          · rfl
          · exact this
      have hos2 : (putE ⟨fun t => φ (st.env t), s.os⟩ y.dst r).os = (putE s y.dst r).os := by rw [putE_os, putE_os]
      obtain ⟨w, e1, e2⟩ := (pstep_at (C := C) (ops := ops) (o := x) hos2 (fun t ht => henv t (hself t ht))).2 _ _ hp
      refine ⟨p', hn', hE, ?_, hr.1⟩
      rw [e2]
      congr 2
      have hw : ∀ t, x.dst = some t → (putE s y.dst r).env t = w := fun t ht => by
        have h5 := hr.2
        rw [ht, e1] at h5
        simp only [ht, putE, upd_same] at h5
        exact h5.symm
      refine St.same (fun u => ?_) (by rw [putE_os]; exact hos2)
      by_cases c : x.dst = some u
      · rw [hw u c, c]
        simp only [putE, upd_same]
      · rw [putE_env c]
        exact henv u c
  · cases h2
/-- Whether a later operation leaves alone what an earlier one looks at and gives. -/
def late (ops : Array Oper) (z x : Oper) : Bool :=
  match x.dst with
  | some d => !(z.looksAt ops).contains d && z.dst != some d
  | none => true
theorem late_spec {ops : Array Oper} {z x : Oper} (h : late ops z x = true) : (∀ d, x.dst = some d → d ∉ z.looksAt ops) ∧ ∀ d, x.dst = some d → z.dst ≠ some d := by
  unfold late at h
  refine ⟨fun d hd => ?_, fun d hd => ?_⟩ <;> rw [hd] at h <;> simp at h
  · exact h.1
  · exact h.2
theorem recheck_put {C : Cx} {ops : Array Oper} {z x : Oper} {s : St} {v : V} (hl : late ops z x = true) (hr : recheck C ops z (putE s x.dst v)) : recheck C ops z s := by
  obtain ⟨l1, l2⟩ := late_spec hl
  exact recheck_at (putE_os _ _ _).symm (fun t ht => (putE_env (fun e => l1 t e ht)).symm) (fun t ht => (putE_env (fun e => l2 t e ht)).symm) hr
section
variable {C : Cx} {st st' : St} {d : Nat} {ex : Option Ex}
theorem actP_ext (hx : XOk st.os 99999 ex) (hos : st'.os = ext st.os ex) {op : Op} (hop : ∀ x ∈ op.operands, ev st'.env x = ev st.env x) {q : Prop × V} (h : actP C st op = some q) : actP C st' op = some q := by
  have go : ∀ op, (∀ x ∈ op.operands, ev st'.env x = ev st.env x) → ∀ q, ((act C st 99999 op).map fun q => (q.1, q.2.1)) = some q → ((act C st' 99999 op).map fun q => (q.1, q.2.1)) = some q := fun op hop q h => by
    obtain ⟨⟨p, r, s⟩, ha, e⟩ := Option.map_eq_some_iff.1 h
    obtain ⟨φ, _, _, _, h4⟩ := act_nat hx hos hop ha
    rw [h4]
    exact congrArg some e
  cases op with
  | build t parts => exact go _ hop _ h
  | buildSlice t len parts =>
    have e0 := (parts_upto (parts := parts) hop fun v => v).2
    simp only [actP] at h ⊢
    rw [e0]
    split at h
    · rename_i hc
      rw [if_pos hc]
      exact go _ hop _ h
    · cases h
  | convert s t x => exact go _ hop _ h
  | _ => simp only [actP, reduceCtorEq] at h
theorem pureV_ext (hx : XOk st.os 99999 ex) (hos : st'.os = ext st.os ex) {op : Op} (hop : ∀ x ∈ op.operands, ev st'.env x = ev st.env x) {q : Prop × V} (h : pureV C st op = some q) : pureV C st' op = some q := by
  unfold pureV at h
  cases hv : val C st op with
  | some u =>
    rw [hv] at h
    unfold pureV
    rw [val_ext hx hos hop hv]
    exact h
  | none =>
    rw [hv] at h
    simp only at h
    split at h
    · rename_i fo args ats
      unfold pureV
      simp only [Op.operands] at hop
      have hf : ev st'.env fo = ev st.env fo := hop fo (by simp [Call.operands])
      have hxs : args.toList.map (ev st'.env) = args.toList.map (ev st.env) := List.map_congr_left fun x hx' => hop x (by simp at hx'; simp [Call.operands, hx'])
      exact pcall_ext hx hos hf hxs h
    · rename_i o hne
      have hvn : val C st' op = none := by
        cases op with
        | build t parts => rfl
        | buildSlice t len parts => rfl
        | convert s t x =>
          have hx' := hop x (by simp [Op.operands])
          simp only [val] at hv ⊢
          rw [hx', hos, convV_ext hx]
          exact hv
        | _ => simp only [actP, reduceCtorEq] at h
      have hp := actP_ext hx hos hop h
      unfold pureV
      rw [hvn]
      cases op <;> first | exact hp | (simp only [actP, reduceCtorEq] at h)
theorem pureG_ext (hx : XOk st.os 99999 ex) (hos : st'.os = ext st.os ex) {op : Op} (hop : ∀ x ∈ op.operands, ev st'.env x = ev st.env x) {q : Prop × V} (h : pureG C st op = some q) : pureG C st' op = some q := by
  obtain ⟨h1, h2⟩ := stripP_congr (S := fun t => .tmp t ∈ op.operands) (usedT op) (e := st'.env) (e' := st.env) (fun t ht => usedT_operands ht) (fun t ht => hop (.tmp t) ht)
  unfold pureG at h ⊢
  have e1 : stripC st' op = stripC st op := h1
  cases hp : pureV C (strip st op) op with
  | none => rw [hp] at h; cases h
  | some u =>
    have e2 : pureV C (strip st' op) op = some u := pureV_ext (st := strip st op) (st' := strip st' op) hx hos (fun x hx' => by
      cases x with
      | tmp t => exact h2 t hx'
      | _ => rfl) hp
    rw [e2, e1]
    rw [hp] at h
    exact h
theorem pstep_ext {ops : Array Oper} {o : Oper} (hx : XOk st.os 99999 ex) (hos : st'.os = ext st.os ex) (hl : ∀ t ∈ o.looksAt ops, st'.env t = st.env t) {p : Prop} {s : St} (h : pstep C ops o st = some (p, s)) : ∃ v, s = putE st o.dst v ∧ pstep C ops o st' = some (p, putE st' o.dst v) := by
  have hg : guardB ops st'.env o = guardB ops st.env o := guardB_congr fun t ht => hl t (looks_guard ht)
  have hop : ∀ x ∈ o.op.operands, ev st'.env x = ev st.env x := fun x hx' => by
    cases x with
    | tmp t => exact hl t (looks_operand hx')
    | _ => rfl
  unfold pstep at h ⊢
  rw [hg]
  split at h
  · obtain ⟨q, hq, e⟩ := Option.map_eq_some_iff.1 h
    simp only [Prod.mk.injEq] at e
    obtain ⟨rfl, rfl⟩ := e
    exact ⟨_, rfl, by rw [pureV_ext hx hos hop hq]; rfl⟩
  · obtain ⟨q, hq, e⟩ := Option.map_eq_some_iff.1 h
    simp only [Prod.mk.injEq] at e
    obtain ⟨rfl, rfl⟩ := e
    exact ⟨_, rfl, by rw [pureG_ext hx hos hop hq]; rfl⟩
  · cases h
/-- An effect at a state with a further box. -/
theorem estep_ext {o : Oper} {ops : Array Oper} (hx : XOk st.os (dOf o) ex) (hx2 : XOk st.os 99999 ex) (hos : st'.os = ext st.os ex) (hl : ∀ t ∈ o.looksAt ops, st'.env t = st.env t) (hn : pstep C ops o st = none) {p : Prop} {s : St} (h : estep C o st = some (p, s)) :
    ∃ φ v s0, PhiOk st.os (dOf o) φ ∧ KeepsNone st.os s0 (dOf o) ∧ s = putE ⟨fun t => φ (st.env t), s0⟩ o.dst v ∧ pstep C ops o st' = none ∧ estep C o st' = some (p, putE ⟨fun t => φ (st'.env t), ext s0 ex⟩ o.dst v) := by
  have hop : ∀ x ∈ o.op.operands, ev st'.env x = ev st.env x := fun x hx' => by
    cases x with
    | tmp t => exact hl t (looks_operand hx')
    | _ => rfl
  unfold estep at h
  split at h
  · rename_i hc
    obtain ⟨⟨q', r, s1⟩, ha, e⟩ := Option.map_eq_some_iff.1 h
    simp only [Prod.mk.injEq] at e
    obtain ⟨rfl, rfl⟩ := e
    obtain ⟨φ, h1, h2, h3, h4⟩ := act_nat hx hos hop ha
    refine ⟨φ, r, s1.os, h1, h2, by rw [show s1 = ⟨fun t => φ (st.env t), s1.os⟩ from St.same h3 rfl], ?_, by unfold estep; rw [if_pos hc, h4]; rfl⟩
    rw [Bool.and_eq_true] at hc
    have hgd : o.guard = none := by simpa using hc.2
    have g1 : guardB ops st.env o = some none := by unfold guardB; rw [hgd]
    have g2 : guardB ops st'.env o = some none := by unfold guardB; rw [hgd]
    unfold pstep at hn ⊢
    rw [g1] at hn
    rw [g2]
    simp only [Option.map_eq_none_iff] at hn ⊢
    unfold pureV at hn ⊢
    rw [eff_val hc.1] at hn ⊢
    obtain ⟨dst, op, ty, pos, after, guard⟩ := o
    simp only at *
    cases op with
    | call c =>
      obtain ⟨callee, args, ats⟩ := c
      cases callee with
      | value fo =>
        simp only [act] at ha
        split at ha
        · rename_i hp
          simp only at hn ⊢
          simp only [Op.operands] at hop
          have hf : ev st'.env fo = ev st.env fo := hop fo (by simp [Call.operands])
          have hxs : args.toList.map (ev st'.env) = args.toList.map (ev st.env) := List.map_congr_left fun x hx' => hop x (by simp at hx'; simp [Call.operands, hx'])
          unfold pcall at hn ⊢
          rw [hf, hxs, hos, if_pos (ptrsOk_ext hx hp)]
          rw [if_pos hp] at hn
          split at hn
          · rename_i f caps hcv
            rw [asDs_ext hx hcv hp]
            exact hn
          · rfl
        · cases ha
      | invoke r m => simp [effOp] at hc
      | builtin b => rfl
    | _ => first | rfl | (simp [effOp] at hc)
  · cases h
end
end Go.Proofs.YtgnnakibcjonbaaGreatDoor.VE

/- The evaluator: regions that draw their order, with effects: an operation that may come up is taken first. -/
namespace Go.Proofs.YtgnnakibcjonbaaGreatDoor.VE
open Go Go.RowKit
set_option linter.unusedVariables false
set_option linter.unusedSimpArgs false
theorem litB_inert {v : Value} {x : V} (h : litB v x = true) : x.inert = true := by
  unfold litB at h
  split at h <;> first | rfl | (simp at h)
theorem zeroB_inert : ∀ {vs : List Value} {xs : List V}, zeroB vs xs = true → xs.all V.inert = true
  | [], [], _ => rfl
  | [], _ :: _, h => by simp [zeroB] at h
  | _ :: _, [], h => by simp [zeroB] at h
  | v :: vs, x :: xs, h => by
    simp only [zeroB, Bool.and_eq_true] at h
    rw [List.all_cons, litB_inert h.1, zeroB_inert h.2]
    rfl
theorem TOK.inert {P : Program} {T : TypeId → Option TI} (h : TOK P T) {t : TypeId} {i : TI} (ht : T t = some i) : i.zero.all V.inert = true := by
  obtain ⟨j, d, z, _, _, _, _, _, _, _, hz, _⟩ := h.facts ht
  exact zeroB_inert hz
section
variable {C : Cx} {ops : Array Oper} {st : St}
/-- An alloc, where its name is free. -/
theorem alloc_step {y : Oper} {e : TypeId} {t : Nat} (hy : y.op = .alloc e) (hg : y.guard = none) (hd : y.dst = some t) (ho : st.os t = none) :
    sstep C ops y st = (C.T e).map fun i => (True, ⟨upd st.env t (.ptr t 0), upd st.os t (some (.box i.zero e))⟩) := by
  have h1 : pstep C ops y st = none := by
    unfold pstep
    have : guardB ops st.env y = some none := by unfold guardB; rw [hg]
    rw [this]
    simp only [Option.map_eq_none_iff]
    unfold pureV
    rw [eff_val (by rw [hy]; rfl), hy]
    rfl
  unfold sstep
  rw [h1]
  simp only
  unfold estep
  rw [if_pos (by rw [hy, hg]; rfl), hy]
  have h2 : dOf y = t := by unfold dOf; rw [hd]; rfl
  have h3 : VE.fresh st t = st := by unfold VE.fresh; rw [ho]
  simp only [act, h2, h3, hd]
  cases C.T e <;> rfl
theorem sstep_keeps {x : Oper} {p : Prop} {s : St} (h : sstep C ops x st = some (p, s)) {t : Nat} (ht : st.os t = none) (hd : Off t (dOf x)) : s.os t = none := by
  unfold sstep at h
  cases hp : pstep C ops x st with
  | some q =>
    rw [hp] at h
    simp only [Option.some.injEq] at h
    subst h
    obtain ⟨v, rfl⟩ := pstep_form hp
    rw [putE_os]
    exact ht
  | none =>
    rw [hp] at h
    simp only at h
    unfold estep at h
    split at h
    · obtain ⟨⟨q', r, s1⟩, ha, e⟩ := Option.map_eq_some_iff.1 h
      simp only [Prod.mk.injEq] at e
      obtain ⟨rfl, rfl⟩ := e
      obtain ⟨φ, _, h2, _, _⟩ := act_nat (ex := none) (st' := st) trivial rfl (fun _ _ => rfl) ha
      rw [putE_os]
      exact h2 t ht hd
    · cases h
/-- x, then an alloc y: y first. -/
theorem comm_alloc {x y : Oper} {e : TypeId} {t : Nat} (hap : x.apart ops y = true) (hy : y.op = .alloc e) (hg : y.guard = none) (hd : y.dst = some t) (h9 : t < 20000) (hz : ∀ e i, C.T e = some i → i.zero.all V.inert = true) (ho : st.os t = none) {s1 s2 : St} {p q : Prop} (h1 : sstep C ops x st = some (p, s1)) (h2 : sstep C ops y s1 = some (q, s2)) :
    (∃ t1, sstep C ops y st = some (q, t1) ∧ sstep C ops x t1 = some (p, s2)) ∧ ∀ z : Oper, late ops z y = true → recheck C ops z s1 → recheck C ops z s2 := by
  obtain ⟨a1, a2, a3⟩ := Oper.apart_spec hap
  have hxd : x.dst ≠ some t := fun e => a2 t e hd
  have htx : Off t (dOf x) := by
    refine ⟨?_, h9⟩
    unfold dOf
    cases hx : x.dst with
    | none => exact fun e => by have : t = 99999 := e; omega
    | some u => exact fun e => hxd (by rw [hx, e]; rfl)
  have h9 : Off t 99999 := ⟨by omega, h9⟩
  have hlook : t ∉ x.looksAt ops := a3 t hd
  have ho1 := sstep_keeps h1 ho htx
  rw [alloc_step hy hg hd ho1] at h2
  rw [alloc_step hy hg hd ho]
  obtain ⟨i, hi, e2⟩ := Option.map_eq_some_iff.1 h2
  simp only [Prod.mk.injEq] at e2
  obtain ⟨rfl, rfl⟩ := e2
  have hX : ∀ (os : Nat → Option O) d, os t = none → Off t d → XOk os d (some ⟨t, i.zero, e⟩) := fun os d h1 h2 => ⟨h1, h2, hz e i hi⟩
  refine ⟨⟨_, by rw [hi]; rfl, ?_⟩, fun z hl hr => ?_⟩
  · have look : ∀ u ∈ x.looksAt ops, upd st.env t (.ptr t 0) u = st.env u := fun u hu => upd_ne _ _ fun e => hlook (e ▸ hu)
    unfold sstep at h1
    cases hp : pstep C ops x st with
    | some q =>
      obtain ⟨p', s'⟩ := q
      rw [hp] at h1
      simp only [Option.some.injEq, Prod.mk.injEq] at h1
      obtain ⟨rfl, rfl⟩ := h1
      obtain ⟨v, rfl, e3⟩ := pstep_ext (st' := ⟨upd st.env t (.ptr t 0), upd st.os t (some (.box i.zero e))⟩) (hX _ 99999 ho h9) rfl look hp
      unfold sstep
      rw [e3]
      simp only [Option.some.injEq, Prod.mk.injEq, true_and]
      refine St.same (fun u => ?_) (by rw [putE_os, putE_os])
      by_cases c : u = t
      · subst c
        rw [putE_env hxd]
        simp only [upd_same]
      · cases hx : x.dst with
        | none => rfl
        | some r =>
          simp only [putE, upd, if_neg c]
    | none =>
      rw [hp] at h1
      simp only at h1
      obtain ⟨φ, v, s0, f1, f2, f3, f4, f5⟩ := estep_ext (ops := ops) (st' := ⟨upd st.env t (.ptr t 0), upd st.os t (some (.box i.zero e))⟩) (hX _ (dOf x) ho htx) (hX _ 99999 ho h9) rfl look hp h1
      subst f3
      unfold sstep
      rw [f4]
      simp only
      rw [f5]
      simp only [Option.some.injEq, Prod.mk.injEq, true_and]
      refine St.same (fun u => ?_) (by rw [putE_os, putE_os]; rfl)
      by_cases c : u = t
      · subst c
        rw [putE_env hxd]
        simp only [upd_same]
        exact f1.ptr u 0 ho htx
      · cases hx : x.dst with
        | none => simp only [putE, upd, if_neg c]
        | some r =>
          simp only [putE, upd, if_neg c]
  · obtain ⟨l1, l2⟩ := late_spec hl
    unfold recheck at hr ⊢
    cases hp : pstep C ops z s1 with
    | none => rw [hp] at hr; exact hr.elim
    | some q =>
      obtain ⟨p', s'⟩ := q
      rw [hp] at hr
      obtain ⟨v, rfl, e3⟩ := pstep_ext (st' := ⟨upd s1.env t (.ptr t 0), upd s1.os t (some (.box i.zero e))⟩) (hX _ 99999 ho1 h9) rfl (fun u hu => upd_ne _ _ fun e => l1 t hd (e ▸ hu)) hp
      rw [e3]
      refine ⟨hr.1, ?_⟩
      have h5 := hr.2
      cases hzd : z.dst with
      | none => trivial
      | some u =>
        have hut : u ≠ t := fun e => l2 t hd (by rw [hzd, e])
        rw [hzd] at h5
        simp only [putE, upd_same] at h5 ⊢
        rw [upd_ne _ _ hut]
        exact h5
end
/-- Whether an operation may be taken ahead of an earlier one that it does not wait for. -/
def pairOk (ops : Array Oper) (q r : Nat × List Nat) : Bool :=
  match ops[q.1]?, ops[r.1]? with
  | some x, some y => x.apart ops y && ((isAlloc y.op && q.2.all fun j => match ops[j]? with
      | some z => late ops z y
      | none => false) || (!effOp x.op && q.2.isEmpty && (!effOp y.op || memB q.1 r.2)))
  | _, _ => false
def lateAt (ops : Array Oper) (z x : Nat) : Bool :=
  match ops[z]?, ops[x]? with
  | some z, some x => late ops z x
  | _, _ => false
def selfOk (ops : Array Oper) (z : Nat) : Bool :=
  match ops[z]? with
  | some x => match x.dst with
    | some d => !(x.looksAt ops).contains d
    | none => true
  | none => false
theorem memB_iff {x : Nat} : ∀ {l : List Nat}, memB x l = true ↔ x ∈ l
  | [] => by simp [memB]
  | y :: r => by
    simp only [memB, Bool.or_eq_true, List.mem_cons, memB_iff (l := r)]
    constructor
    · rintro (h | h)
      · exact .inl (Nat.eq_of_beq_eq_true h)
      · exact .inr h
    · rintro (h | h)
      · exact .inl (by rw [h]; exact Nat.beq_refl y)
      · exact .inr h
/-- An alloc as it must stand in a plan. -/
def AllocOk (y : Oper) (rcy : List Nat) : Prop := isAlloc y.op = true → y.guard = none ∧ (∃ t, y.dst = some t ∧ t < 20000) ∧ rcy = []
theorem runD_first {C : Cx} {ops : Array Oper} {K : St → Prop} (hz : ∀ e i, C.T e = some i → i.zero.all V.inert = true) {iy : Nat} {rcy : List Nat} {y : Oper} (hy : ops[iy]? = some y) (hal : AllocOk y rcy) :
    ∀ (R1 R2 : List (Nat × List Nat)) (st : St) (Zs : List Nat), (∀ q ∈ R1, pairOk ops q (iy, rcy) = true) → R1.Pairwise (fun q q' => q.1 ∈ rcy → lateAt ops q.1 q'.1 = true) → (∀ q ∈ R1, q.1 ∈ rcy → selfOk ops q.1 = true) →
      (∀ z ∈ Zs, z ∈ rcy ∧ ∀ q ∈ R1, lateAt ops z q.1 = true) → (isAlloc y.op = true → ∀ t, y.dst = some t → st.os t = none) →
      runD C ops (R1 ++ (iy, rcy) :: R2) st K → ∃ p t1, sstep C ops y st = some (p, t1) ∧ p ∧ runD C ops (R1 ++ R2) t1 K ∧ rechecks C ops Zs t1
  | [], R2, st, Zs, _, _, _, hZ, _, h => by
    simp only [List.nil_append, runD, hy] at h
    split at h
    · rename_i p s hs
      obtain ⟨hp, hr, hrest⟩ := h
      refine ⟨p, s, hs, hp, hrest, rechecks_mem.2 fun z hz' => rechecks_mem.1 hr z (hZ z hz').1⟩
    · exact h.elim
  | (ix, rcx) :: R1, R2, st, Zs, hpair, hlate, hself, hZ, hfree, h => by
    simp only [List.cons_append, runD] at h
    split at h
    · rename_i x hx
      split at h
      · rename_i p s1 hs
        obtain ⟨hp, hrx, hrest⟩ := h
        have hok := hpair _ (List.mem_cons_self ..)
        unfold pairOk at hok
        simp only [hx, hy] at hok
        rw [Bool.and_eq_true, Bool.or_eq_true] at hok
        obtain ⟨hap, hok⟩ := hok
        rw [List.pairwise_cons] at hlate
        cases hA : isAlloc y.op with
        | true =>
          obtain ⟨hg, ⟨t, hd, h9⟩, hrc⟩ := hal hA
          obtain ⟨e, hop⟩ : ∃ e, y.op = .alloc e := by
            cases hyo : y.op <;> rw [hyo] at hA <;> simp only [isAlloc, Bool.false_eq_true] at hA
            exact ⟨_, rfl⟩
          have ho := hfree hA t hd
          obtain ⟨a1, a2, a3⟩ := Oper.apart_spec hap
          have htx : Off t (dOf x) := by
            refine ⟨?_, h9⟩
            unfold dOf
            cases hxd : x.dst with
            | none =>
              intro e
              have e2 : t = 99999 := e
              rw [e2] at h9
              exact absurd h9 (by decide)
            | some u => exact fun e => a2 t (by rw [hxd, e]; rfl) hd
          obtain ⟨q, t1', hq, hq1, hq2, _⟩ := runD_first hz hy hal R1 R2 s1 [] (fun q hq => hpair q (List.mem_cons_of_mem _ hq)) hlate.2 (fun q hq => hself q (List.mem_cons_of_mem _ hq)) (fun z hz' => by simp at hz') (fun _ t' ht' => by
            rw [hd] at ht'
            simp only [Option.some.injEq] at ht'
            subst ht'
            exact sstep_keeps hs ho htx) hrest
          obtain ⟨⟨t1, e1, e2⟩, hkeep⟩ := comm_alloc hap hop hg hd h9 hz ho hs hq
          refine ⟨q, t1, e1, hq1, ?_, rechecks_mem.2 fun z hz' => ?_⟩
          · simp only [List.cons_append, runD, hx, e2]
            refine ⟨hp, ?_, hq2⟩
            rcases hok with hok | hok
            · rw [Bool.and_eq_true] at hok
              refine rechecks_mem.2 fun z hz' => ?_
              obtain ⟨zo, hzo, hr⟩ := rechecks_mem.1 hrx z hz'
              have := List.all_eq_true.1 hok.2 z hz'
              rw [hzo] at this
              exact ⟨zo, hzo, hkeep zo this hr⟩
            · simp only [Bool.and_eq_true, List.isEmpty_iff] at hok
              rw [hok.1.2]
              trivial
          · have := (hZ z hz').1
            rw [hrc] at this
            simp at this
        | false =>
          have hok' : (effOp x.op = false ∧ rcx = []) ∧ (effOp y.op = true → ix ∈ rcy) := by
            rcases hok with hok | hok
            · rw [hA] at hok; simp at hok
            · simp only [Bool.and_eq_true, List.isEmpty_iff, Bool.not_eq_true', Bool.or_eq_true, memB_iff] at hok
              exact ⟨⟨hok.1.1, hok.1.2⟩, fun he => by
                rcases hok.2 with h | h
                · rw [h] at he; cases he
                · exact h⟩
          obtain ⟨⟨hxp, rfl⟩, hmem⟩ := hok'
          have hs' : pstep C ops x st = some (p, s1) := by
            unfold sstep at hs
            cases hp' : pstep C ops x st with
            | some q => rw [hp'] at hs; exact hs
            | none =>
              rw [hp'] at hs
              simp only at hs
              unfold estep at hs
              rw [hxp] at hs
              simp at hs
          have hlx : ∀ z ∈ Zs, lateAt ops z ix = true := fun z hz' => (hZ z hz').2 _ (List.mem_cons_self ..)
          obtain ⟨q, t1', hq, hq1, hq2, hq3⟩ := runD_first hz hy hal R1 R2 s1 (if ix ∈ rcy then ix :: Zs else Zs) (fun q hq => hpair q (List.mem_cons_of_mem _ hq)) hlate.2 (fun q hq => hself q (List.mem_cons_of_mem _ hq)) (fun z hz' => by
            split at hz'
            · rename_i hm
              rcases List.mem_cons.1 hz' with rfl | hz'
              · exact ⟨hm, fun q hq => hlate.1 q hq hm⟩
              · exact ⟨(hZ z hz').1, fun q hq => (hZ z hz').2 q (List.mem_cons_of_mem _ hq)⟩
            · exact ⟨(hZ z hz').1, fun q hq => (hZ z hz').2 q (List.mem_cons_of_mem _ hq)⟩) (fun hA' => by rw [hA] at hA'; cases hA') hrest
          have fin : ∀ t1 p', sstep C ops y st = some (q, t1) → pstep C ops x t1 = some (p', t1') → p' → ∃ p t1, sstep C ops y st = some (p, t1) ∧ p ∧ runD C ops ((ix, []) :: R1 ++ R2) t1 K ∧ rechecks C ops Zs t1 := fun t1 p' e1 e2 hp' => by
            refine ⟨q, t1, e1, hq1, ?_, rechecks_mem.2 fun z hz' => ?_⟩
            · have e3 : sstep C ops x t1 = some (p', t1') := by unfold sstep; rw [e2]
              simp only [List.cons_append, runD, hx, e3]
              exact ⟨hp', trivial, hq2⟩
            · obtain ⟨zo, hzo, hr⟩ := rechecks_mem.1 hq3 z (by by_cases hm : ix ∈ rcy <;> simp only [hm, if_true, if_false, List.mem_cons, hz', or_true])
              refine ⟨zo, hzo, ?_⟩
              have hl := hlx z hz'
              unfold lateAt at hl
              simp only [hzo, hx] at hl
              obtain ⟨v, rfl⟩ := pstep_form e2
              exact recheck_put hl hr
          unfold sstep at hq
          cases hyp : pstep C ops y s1 with
          | some u =>
            rw [hyp] at hq
            simp only [Option.some.injEq] at hq
            subst hq
            obtain ⟨s1', e1, e2⟩ := pstep_comm hap hs' hyp
            exact fin s1' p (by unfold sstep; rw [e1]) e2 hp
          | none =>
            rw [hyp] at hq
            simp only at hq
            have hey : effOp y.op = true := by
              unfold estep at hq
              split at hq
              · rename_i hc; rw [Bool.and_eq_true] at hc; exact hc.1
              · cases hq
            have hm := hmem hey
            rw [if_pos hm] at hq3
            obtain ⟨xo, hxo, hr⟩ := rechecks_mem.1 hq3 ix (List.mem_cons_self ..)
            rw [hx] at hxo
            simp only [Option.some.injEq] at hxo
            subst hxo
            have hsf := hself _ (List.mem_cons_self ..) hm
            unfold selfOk at hsf
            simp only [hx] at hsf
            obtain ⟨s1', p', e0, e1, e2, hp'⟩ := comm_eff hap hs' hyp hq hr (fun t ht hxt => by
              rw [hxt] at hsf
              simp at hsf
              exact hsf ht)
            exact fin s1' p' (by unfold sstep; rw [e0]; exact e1) e2 hp'
      · exact h.elim
    · exact h.elim
end Go.Proofs.YtgnnakibcjonbaaGreatDoor.VE

/- The evaluator: regions that draw their order are sound. -/
namespace Go.Proofs.YtgnnakibcjonbaaGreatDoor.VE
open Go Go.RowKit
set_option linter.unusedVariables false
set_option linter.unusedSimpArgs false
section
variable {P : Program} {N : Nat} {w0 : World} {Pr X : Nat → Prop} {Z : Nat → Option Value} {ρ : Nat → Value} {st : St} {a : Act} {w : World} {Q : Exit → Act → World → Prop}
theorem pstep_run {C : Cx} (hT : TOK P C.T) (hΓ : COk P C) (hg : Gam N w0 Pr X Z ρ st a w) {ops : Array Oper} {o : Oper} (hd : ∀ t, o.dst = some t → t < N) {p : Prop} {s : St} (h : pstep C ops o st = some (p, s)) (hp : p) :
    if Region.wanted o (yielded ops a.tmps) then o.wp P a w (Sat N w0 Pr X Z (· = s)) Q else Sat N w0 Pr X Z (· = s) (a.put o.dst undef) w := by
  unfold pstep at h
  split at h
  · rename_i hgd
    rw [guardB_run hg hgd]
    simp only [Option.getD_none, if_true]
    obtain ⟨⟨p', v⟩, hv, e⟩ := Option.map_eq_some_iff.1 h
    simp only [Prod.mk.injEq] at e
    obtain ⟨rfl, rfl⟩ := e
    refine Oper.wp_mono ?_ (pureV_run hT hΓ hg hv hp)
    rintro a' w' ⟨z, rfl, ho⟩
    obtain ⟨ρ', hg'⟩ := ho.put o.dst hd
    exact ⟨_, ρ', rfl, hg'⟩
  · rename_i b hgd
    rw [guardB_run hg hgd]
    simp only [Option.getD_some]
    obtain ⟨⟨p', v⟩, hv, e⟩ := Option.map_eq_some_iff.1 h
    simp only [Prod.mk.injEq] at e
    obtain ⟨rfl, rfl⟩ := e
    cases b with
    | true =>
      simp only [if_true]
      refine Oper.wp_mono ?_ (pureG_run hT hΓ hg hv (hp rfl))
      rintro a' w' ⟨z, rfl, ρ', hg', hr⟩
      obtain ⟨ρ2, hg2⟩ := Out.put (r := .whn true v) (st' := st) (z := z) ⟨ρ', hg', by rw [G]; exact ⟨fun _ => hr, fun e => by cases e⟩⟩ o.dst hd
      exact ⟨_, ρ2, rfl, hg2⟩
    | false =>
      simp only [Bool.false_eq_true, if_false]
      obtain ⟨ρ2, hg2⟩ := Out.put (r := .whn false v) (st' := st) (a := a) (w' := w) (z := undef) ⟨ρ, hg, by rw [G]; exact ⟨fun e => by (cases e), fun _ => rfl⟩⟩ o.dst hd
      exact ⟨_, ρ2, rfl, hg2⟩
  · simp at h
/-- An operation that may come up is taken first. -/
theorem runPure_first {C : Cx} {ops : Array Oper} {K : St → Prop} {y : Oper} : ∀ (R1 R2 : List Oper) (st : St), (∀ x ∈ R1, x.apart ops y = true) → runPure C ops (R1 ++ y :: R2) st K → ∃ p s, pstep C ops y st = some (p, s) ∧ p ∧ runPure C ops (R1 ++ R2) s K
  | [], R2, st, ha, h => by
    simp only [List.nil_append, runPure] at h
    split at h
    · rename_i p s hs
      exact ⟨p, s, hs, h.1, h.2⟩
    · exact h.elim
  | x :: R1, R2, st, ha, h => by
    simp only [List.cons_append, runPure] at h
    split at h
    · rename_i p s hs
      obtain ⟨q, s2, hq, hq1, hq2⟩ := runPure_first R1 R2 s (fun z hz => ha z (by simp [hz])) h.2
      obtain ⟨s', e1, e2⟩ := pstep_comm (ha x (by simp)) hs hq
      refine ⟨q, s', e1, hq1, ?_⟩
      simp only [List.cons_append, runPure, e2]
      exact ⟨h.1, hq2⟩
    · exact h.elim
/-- What has not come up yet. -/
def rest (n : Nat) (listed : Array Bool) : List Nat := (List.range n).filter fun i => !listed.getD i true
theorem rest_split {n : Nat} {listed : Array Bool} (hsz : listed.size = n) {i : Nat} (hi : i ∈ rest n listed) : ∃ R1 R2, rest n listed = R1 ++ i :: R2 ∧ (∀ r ∈ R1, r < i ∧ r < n ∧ listed.getD r true = false) ∧ rest n (listed.setIfInBounds i true) = R1 ++ R2 := by
  unfold rest at hi ⊢
  rw [List.mem_filter, List.mem_range] at hi
  obtain ⟨hin, hil⟩ := hi
  have hr : List.range n = List.range i ++ i :: (List.range (n - i - 1)).map (· + (i + 1)) := by
    apply List.ext_getElem
    · simp; omega
    · intro k h1 h2
      simp only [List.length_range] at h1
      rw [List.getElem_range]
      by_cases c : k < i
      · rw [List.getElem_append_left (by simpa using c), List.getElem_range]
      · rw [List.getElem_append_right (by simp; omega)]
        simp only [List.length_range]
        by_cases c2 : k = i
        · subst c2; simp
        · obtain ⟨d, hd⟩ : ∃ d, k - i = d + 1 := ⟨k - i - 1, by omega⟩
          simp only [hd, List.getElem_cons_succ, List.getElem_map, List.getElem_range]
          omega
  refine ⟨(List.range i).filter fun i => !listed.getD i true, ((List.range (n - i - 1)).map (· + (i + 1))).filter fun i => !listed.getD i true, ?_, fun r hr' => ?_, ?_⟩
  · rw [hr, List.filter_append, List.filter_cons, if_pos hil]
  · rw [List.mem_filter, List.mem_range] at hr'
    exact ⟨hr'.1, by omega, by simpa using hr'.2⟩
  · have same : ∀ q, q ≠ i → (listed.setIfInBounds i true).getD q true = listed.getD q true := fun q hq => by
      simp [Array.getD_eq_getD_getElem?, Array.getElem?_setIfInBounds, Ne.symm hq]
    have self : (listed.setIfInBounds i true).getD i true = true := by
      simp [Array.getD_eq_getD_getElem?, Array.getElem?_setIfInBounds, hsz, hin]
    rw [hr, List.filter_append, List.filter_cons, if_neg (by rw [self]; simp)]
    congr 1
    · apply List.filter_congr
      intro q hq
      rw [List.mem_range] at hq
      rw [same q (by omega)]
    · apply List.filter_congr
      intro q hq
      rw [List.mem_map] at hq
      obtain ⟨d, _, rfl⟩ := hq
      rw [same _ (by omega)]
theorem lexOk_spec {ops : Array Oper} (h : lexOk ops = true) {i : Nat} {o : Oper} (ho : ops[i]? = some o) : (∀ e ∈ o.after.toList, Region.binds .any e = true → e.on < i) ∧ ∀ r, r < i → (∃ e ∈ o.after.toList, Region.binds .any e = true ∧ e.on = r) ∨ ∀ x, ops[r]? = some x → x.apart ops o = true := by
  have hi : i < ops.size := (Array.getElem?_eq_some_iff.1 ho).1
  unfold lexOk at h
  rw [List.all_eq_true] at h
  have := h i (List.mem_range.2 hi)
  rw [ho] at this
  simp only [Bool.and_eq_true, List.all_eq_true] at this
  obtain ⟨h1, h2⟩ := this
  refine ⟨fun e he hb => ?_, fun r hr => ?_⟩
  · have := h1 e he
    simpa [hb] using this
  · have := h2 r (List.mem_range.2 hr)
    rw [Bool.or_eq_true] at this
    rcases this with g | g
    · rw [List.any_eq_true] at g
      obtain ⟨e, he, hc⟩ := g
      rw [Bool.and_eq_true] at hc
      exact .inl ⟨e, he, hc.1, by simpa using hc.2⟩
    · refine .inr fun x hx => ?_
      rw [hx] at g
      exact g
theorem ready_spec {ops : Array Oper} {listed : Array Bool} {i : Nat} (h : i ∈ Region.ready .any ops listed) : i ∈ rest ops.size listed ∧ ∃ o, ops[i]? = some o ∧ ∀ e ∈ o.after.toList, Region.binds .any e = true → listed.getD e.on false = true := by
  unfold Region.ready at h
  rw [List.mem_filter] at h
  obtain ⟨h1, h2⟩ := h
  rw [Bool.and_eq_true] at h2
  refine ⟨List.mem_filter.2 ⟨h1, h2.1⟩, ?_⟩
  have hi := List.mem_range.1 h1
  have ho : ops[i]? = some ops[i] := Array.getElem?_eq_getElem hi
  refine ⟨ops[i], ho, fun e he hb => ?_⟩
  have h3 := h2.2
  rw [ho] at h3
  simp only [Option.map_some, Option.getD_some] at h3
  rw [Array.all_eq_true_iff_forall_mem] at h3
  have := h3 e (by simpa using he)
  simpa [hb] using this
theorem pure_any {C : Cx} (hT : TOK P C.T) (hΓ : COk P C) {ops : Array Oper} (hd : dstsOk N ops = true) (hl : lexOk ops = true) {K : St → Prop} (hK : ∀ a w, Sat N w0 Pr X Z K a w → Q .normal a w) :
    ∀ (fuel : Nat) (listed : Array Bool) (st : St) (ρ : Nat → Value) (a : Act) (w : World), listed.size = ops.size → (rest ops.size listed).length ≤ fuel → Gam N w0 Pr X Z ρ st a w → runPure C ops ((rest ops.size listed).filterMap (ops[·]?)) st K → wpAny P .any ops Q fuel listed a w := by
  intro fuel
  induction fuel with
  | zero =>
    intro listed st ρ a w hsz hf hg h
    have hr : rest ops.size listed = [] := List.eq_nil_of_length_eq_zero (by omega)
    rw [hr] at h
    refine ⟨?_, hK a w ⟨st, ρ, h, hg⟩⟩
    apply List.eq_nil_of_length_eq_zero
    rcases Nat.eq_zero_or_pos (Region.ready .any ops listed).length with e | e
    · exact e
    · have hm : (Region.ready .any ops listed)[0] ∈ Region.ready .any ops listed := List.getElem_mem e
      have := (ready_spec hm).1
      rw [hr] at this
      cases this
  | succ fuel ih =>
    intro listed st ρ a w hsz hf hg h
    refine ⟨fun hnone => ?_, fun i hi => ?_⟩
    · -- nothing is ready: nothing is left
      cases hr : rest ops.size listed with
      | nil =>
        rw [hr] at h
        exact hK a w ⟨st, ρ, h, hg⟩
      | cons r R =>
        exfalso
        have hmem : r ∈ rest ops.size listed := by rw [hr]; simp
        have hrl := hmem
        unfold rest at hrl
        rw [List.mem_filter, List.mem_range] at hrl
        have ho : ops[r]? = some ops[r] := Array.getElem?_eq_getElem hrl.1
        obtain ⟨e1, _⟩ := lexOk_spec hl ho
        obtain ⟨R1, R2, hs, hR1, _⟩ := rest_split hsz hmem
        have hready : r ∈ Region.ready .any ops listed := by
          unfold Region.ready
          rw [List.mem_filter]
          refine ⟨List.mem_range.2 hrl.1, ?_⟩
          rw [Bool.and_eq_true]
          refine ⟨hrl.2, ?_⟩
          rw [ho]
          simp only [Option.map_some, Option.getD_some]
          rw [Array.all_eq_true_iff_forall_mem]
          intro e he
          cases hb : Region.binds .any e with
          | false => rfl
          | true =>
            have hlt := e1 e (by simpa using he) hb
            simp only [Bool.not_true, Bool.false_or]
            -- e.on is listed, for the first that is left is r
            have hin : e.on < listed.size := by omega
            cases hv : listed.getD e.on true with
            | true =>
              simp [Array.getD_eq_getD_getElem?, hin] at hv ⊢
              exact hv
            | false =>
              exfalso
              have hm2 : e.on ∈ rest ops.size listed := by
                unfold rest
                rw [List.mem_filter, List.mem_range]
                exact ⟨by omega, by rw [hv]; rfl⟩
              rw [hr] at hm2
              rw [hr] at hs
              cases R1 with
              | nil =>
                simp only [List.nil_append, List.cons.injEq, true_and] at hs
                rcases List.mem_cons.1 hm2 with e2 | e2
                · omega
                · have hsorted : (rest ops.size listed).Pairwise (· < ·) := List.Pairwise.filter _ (List.pairwise_lt_range (n := ops.size))
                  rw [hr, List.pairwise_cons] at hsorted
                  have := hsorted.1 _ e2
                  omega
              | cons z R1' =>
                simp only [List.cons_append, List.cons.injEq] at hs
                have := (hR1 z (by simp)).1
                omega
        rw [hnone] at hready
        cases hready
    · obtain ⟨hmem, o, ho, hdeps⟩ := ready_spec hi
      obtain ⟨R1, R2, hs, hR1, hs2⟩ := rest_split hsz hmem
      rw [hs, List.filterMap_append, List.filterMap_cons, ho] at h
      obtain ⟨_, e2⟩ := lexOk_spec hl ho
      obtain ⟨p, s, hp1, hp2, hp3⟩ := runPure_first _ _ st (fun x hx => by
        rw [List.mem_filterMap] at hx
        obtain ⟨r, hr, hx⟩ := hx
        obtain ⟨g1, g2, g3⟩ := hR1 r hr
        rcases e2 r g1 with ⟨e, he, hb, hon⟩ | g
        · have := hdeps e he hb
          rw [hon] at this
          simp [Array.getD_eq_getD_getElem?, show r < listed.size by omega] at this g3
          rw [this] at g3
          cases g3
        · exact g x hx) h
      have hrun := pstep_run (Q := Q) hT hΓ hg (dstsOk_spec hd ho) hp1 hp2
      have next : ∀ a' w', Sat N w0 Pr X Z (· = s) a' w' → wpAny P .any ops Q fuel (listed.setIfInBounds i true) a' w' := by
        rintro a' w' ⟨st', ρ', rfl, hg'⟩
        refine ih (listed.setIfInBounds i true) st' ρ' a' w' (by simpa using hsz) ?_ hg' ?_
        · rw [hs2]
          rw [hs] at hf
          simp at hf ⊢
          omega
        · rw [hs2, List.filterMap_append]
          exact hp3
      unfold wpOp
      rw [ho]
      simp only
      split
      · rename_i hw
        rw [if_pos hw] at hrun
        exact .inl (Oper.wp_mono next hrun)
      · rename_i hw
        rw [if_neg hw] at hrun
        exact next _ _ hrun
/-- A draw changes nothing that the abstract state speaks of. -/
theorem Gam.drew (h : Gam N w0 Pr X Z ρ st a w) : Gam N w0 Pr X Z ρ st a { w with drawn := w.drawn + 1 } := h.more ⟨Nat.le_refl _, fun _ _ => rfl, rfl, rfl, rfl⟩
theorem rest_all (n : Nat) : rest n (Array.replicate n false) = List.range n := by
  unfold rest
  rw [List.filter_eq_self]
  intro i hi
  have := List.mem_range.1 hi
  simp [Array.getD_eq_getD_getElem?, this]
theorem draw_sound {C : Cx} (hT : TOK P C.T) (hΓ : COk P C) (hm : P.follows .mixedOrders = true) {ops : Array Oper} (hd : dstsOk N ops = true) (hl : lexOk ops = true) {K : St → Prop} (hK : ∀ a w, Sat N w0 Pr X Z K a w → Q .normal a w) (hg : Gam N w0 Pr X Z ρ st a w) {id : Nat} (h : runPure C ops ops.toList st K) :
    (Code.region id ops true).wp P Q a w :=
  wp_region_any hm (pure_any hT hΓ hd hl hK ops.size _ st ρ a _ (by simp) (by rw [rest_all]; simp) hg.drew (by rw [rest_all, range_all]; exact h))
end
end Go.Proofs.YtgnnakibcjonbaaGreatDoor.VE
