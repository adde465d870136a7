/- Texts put together (merge.py). -/
import Derived.Test.YtgnnakibcjonbaaGreatDoorM2
import Derived.Orders
import Derived.Laws.Cover3
/- The evaluator: one operation. -/
namespace Go.Proofs.YtgnnakibcjonbaaGreatDoor.VE
open Go Go.RowKit
set_option linter.unusedVariables false
set_option linter.unusedSimpArgs false
def calleeV : V → Option (FuncId × List V)
  | .d (.fn f) => some (f, [])
  | .fnc f cs => some (f, cs)
  | _ => none
def rows1 : List V → List Nat
  | [] => []
  | .row o :: r => o :: rows1 r
  | _ :: r => rows1 r
def rowsOf : List V → List Nat
  | [] => []
  | .row o :: r => o :: rowsOf r
  | .agg cs :: r => rows1 cs ++ rowsOf r
  | _ :: r => rowsOf r
def frzAll (st : St) : List Nat → St
  | [] => st
  | o :: r => frzAll (st.frz o) r
/-- The cells of a box that is handed to a function, its rows named as the contract names them; its rows. -/
def cellsC : List V → Nat → Option (List V × List Nat)
  | [], _ => some ([], [])
  | .row o :: r, k => (cellsC r (k + 1)).map fun q => (.row k :: q.1, o :: q.2)
  | .d x :: r, k => (cellsC r k).map fun q => (.d x :: q.1, q.2)
  | .nil :: r, k => (cellsC r k).map fun q => (.nil :: q.1, q.2)
  | .dptr x :: r, k => (cellsC r k).map fun q => (.dptr x :: q.1, q.2)
  | .top :: r, k => (cellsC r k).map fun q => (.top :: q.1, q.2)
  | _ :: _, _ => none
def rowObjs (os : Nat → Option O) : List Nat → Option (List O)
  | [] => some []
  | o :: r => match os o, rowObjs os r with
    | some (.row rows m e), some l => some (.row rows m e :: l)
    | _, _ => none
/-- What a function is handed with its arguments: the boxes behind its pointers, and their rows; iterators and maps. The contract's names are counted from k. -/
def footL (os : Nat → Option O) : Nat → List V → Option (List V × List O × List Nat)
  | _, [] => some ([], [], [])
  | k, .ptr o 0 :: rest => match os o with
    | some (.box cs e) => match cellsC cs (k + 1) with
      | some (cs', rs) => match rowObjs os rs with
        | some l => (footL os (k + 1 + rs.length) rest).map fun q => (.ptr k 0 :: q.1, .box cs' e :: (l ++ q.2.1), o :: (rs ++ q.2.2))
        | none => none
      | none => none
    | _ => none
  | k, .row o :: rest => match os o with
    | some (.raw K) => (footL os (k + 1) rest).map fun q => (.row k :: q.1, .raw K :: q.2.1, o :: q.2.2)
    | some (.arr rows m e) => (footL os (k + 1) rest).map fun q => (.row k :: q.1, .arr rows m e :: q.2.1, o :: q.2.2)
    | _ => none
  | k, x :: rest => if x.pure then (footL os k rest).map fun q => (x :: q.1, q.2.1, q.2.2) else none
def memB (x : Nat) : List Nat → Bool
  | [] => false
  | y :: r => Nat.beq x y || memB x r
def nodupB : List Nat → Bool
  | [] => true
  | x :: r => !memB x r && nodupB r
mutual
/-- The objects that a value mentions. -/
def V.objs : V → List Nat → List Nat
  | .ptr o _, acc => o :: acc
  | .row o, acc => o :: acc
  | .rptr o _ _ _, acc => o :: acc
  | .agg cs, acc => V.objss cs acc
  | .tup cs, acc => V.objss cs acc
  | .fnc _ cs, acc => V.objss cs acc
  | .whn _ x, acc => x.objs acc
  | _, acc => acc
def V.objss : List V → List Nat → List Nat
  | [], acc => acc
  | x :: r, acc => x.objs (V.objss r acc)
end
mutual
/-- Whether the objects that a value mentions are in a list. -/
def V.inL (fl : List Nat) : V → Bool
  | .ptr o _ => memB o fl
  | .row o => memB o fl
  | .rptr o _ _ _ => memB o fl
  | .agg cs => V.inLs fl cs
  | .tup cs => V.inLs fl cs
  | .fnc _ cs => V.inLs fl cs
  | .whn _ x => x.inL fl
  | _ => true
def V.inLs (fl : List Nat) : List V → Bool
  | [] => true
  | x :: r => x.inL fl && V.inLs fl r
end
def O.inL (fl : List Nat) : O → Bool
  | .box cs _ => V.inLs fl cs
  | _ => true
/-- The objects that can be reached. -/
def reachO (os : Nat → Option O) : Nat → List Nat → List Nat → Option (List Nat)
  | 0, _, _ => none
  | _ + 1, [], acc => some acc
  | f + 1, o :: r, acc => if memB o acc then reachO os f r acc else match os o with
    | some (.box cs _) => reachO os f (V.objss cs r) (acc ++ [o])
    | some _ => reachO os f r (acc ++ [o])
    | none => none
/-- The contract's name of an object. -/
def toF (fl : List Nat) (o : Nat) : Nat :=
  match pos fl o with
  | some k => 100000 + k
  | none => o
def objsL (os : Nat → Option O) : List Nat → Option (List O)
  | [] => some []
  | o :: r => match os o, objsL os r with
    | some x, some l => some (x :: l)
    | _, _ => none
/-- What a function is handed, with all that can be reached from it. -/
def footG (os : Nat → Option O) (vals : List V) : Option (List V × List O × List Nat) :=
  match reachO os 2000 (V.objss vals []) [] with
  | some fl => match objsL os fl with
    | some l => if V.inLs fl vals && l.all (O.inL fl) then some (vals.map (V.ren (toF fl)), l.map (O.ren (toF fl)), fl) else none
    | none => none
  | none => none
def footE (os : Nat → Option O) (vals : List V) : Option (List V × List O × List Nat) :=
  match footL os 100000 vals with
  | some q => some q
  | none => footG os vals
/-- Whether the result is the contract's k-th object. -/
def resRow (r : V) (k : Nat) : Bool :=
  match r with
  | .row o => Nat.beq o (100000 + k)
  | _ => false
def newNm (d k : Nat) : Nat := 20000 + d % 10000 + 10000 * (k % 8)
/-- New rows' names: that of the result is d. -/
def newsL (r : V) (d k : Nat) : Nat → List Nat
  | 0 => []
  | c + 1 => cond (resRow r k) d (newNm d k) :: newsL r d (k + 1) c
def freeB (os : Nat → Option O) : List Nat → Bool
  | [] => true
  | o :: r => (os o).isNone && freeB os r
/-- The objects' names behind the call. -/
def namesE (fl : List Nat) (n n' d : Nat) (r : V) : List Nat := fl ++ newsL r d n (n' - n)
def callE (C : Cx) (st : St) (d : Nat) (fo : Operand) (xs : List Operand) : Option (Prop × V × St) :=
  match (fun s => (calleeV (ev s.env fo), s)) (fresh (frzAll st (rowsOf (xs.map (ev st.env)))) d) with
  | (some (f, caps), s) => match footE s.os (xs.map (ev s.env) ++ caps) with
    | some (args, fp, fl) => match C.Δ f args fp with
      | some (p, r, fp') => if freeB s.os (newsL r d fp.length (fp'.length - fp.length)) && (nodupB (namesE fl fp.length fp'.length d r) && (namesE fl fp.length fp'.length d r).length == fp'.length) then
          some (p, r.ren (nameOf (namesE fl fp.length fp'.length d r)), ⟨fun t => (s.env t).killS (rowsS (namesE fl fp.length fp'.length d r) fp'), putO (nameOf (namesE fl fp.length fp'.length d r)) (namesE fl fp.length fp'.length d r) fp' fun o => (s.os o).map (O.killS (rowsS (namesE fl fp.length fp'.length d r) fp'))⟩)
        else none
      | none => none
    | none => none
  | _ => none
/-- A row that is handed on to be changed where it is. -/
def St.toArr (st : St) (o : Nat) : St :=
  match st.os o with
  | some (.row rows m e) => { st with os := upd st.os o (some (.arr rows m e)) }
  | _ => st
def St.toRow (st : St) (o : Nat) : St :=
  match st.os o with
  | some (.arr rows m e) => { st with os := upd st.os o (some (.row rows m e)) }
  | _ => st
def arrAll (st : St) : List Nat → St
  | [] => st
  | o :: r => arrAll (st.toArr o) r
def rowAll (st : St) : List Nat → St
  | [] => st
  | o :: r => rowAll (st.toRow o) r
def rowIs : Option O → Bool
  | some (.row _ _ _) => true
  | _ => false
def rowsR (os : Nat → Option O) : List Nat → List Nat
  | [] => []
  | o :: r => if rowIs (os o) then o :: rowsR os r else rowsR os r
def hintS (C : Cx) (d : Nat) : Bool := d != 99999 && !(C.pl (2000000 + d)).isEmpty
@[simp] theorem hintS_99 (C : Cx) : hintS C 99999 = false := rfl
def callH (C : Cx) (st : St) (d : Nat) (fo : Operand) (xs : List Operand) : Option (Prop × V × St) :=
  match hintS C d with
  | true => (callE C (arrAll st (rowsR st.os (rowsOf (xs.map (ev st.env))))) d fo xs).map fun q => (q.1, q.2.1, rowAll q.2.2 (rowsR st.os (rowsOf (xs.map (ev st.env)))))
  | false => callE C st d fo xs
def callV (C : Cx) (st : St) (fo : Operand) (xs : List Operand) : Option (Prop × V × St) :=
  match calleeV (ev st.env fo) with
  | some (f, caps) =>
    if (xs.map (ev st.env) ++ caps).all V.pure then (C.Γ f (xs.map (ev st.env) ++ caps)).map fun q => (q.1, q.2, st)
    else match C.Γ f ((xs.map (ev st.env) ++ caps).map (asD st.os)) with
      | some (p, r) =>
        if r.scal then some (p, r, st)
        else match calleeV (ev (frzAll st (rowsOf (xs.map (ev st.env)))).env fo) with
          | some (f', caps') => if ((xs.map (ev (frzAll st (rowsOf (xs.map (ev st.env)))).env)) ++ caps').all V.pure then (C.Γ f' ((xs.map (ev (frzAll st (rowsOf (xs.map (ev st.env)))).env)) ++ caps')).map fun q => (q.1, q.2, frzAll st (rowsOf (xs.map (ev st.env)))) else none
          | none => none
      | none => none
  | none => none
def strRows (s : ByteArray) : List (List D) := s.data.toList.map fun b => [D.int .u8 (b.toNat : Int)]
def rowsD (m len : Nat) (ds : List D) : List (List D) := (List.range len).map fun i => (ds.drop (i * m)).take m
/-- A literal that is to be an own row: the plan of the function names its variable. -/
def hintR (C : Cx) (d : Nat) : Bool := d != 99999 && !(C.pl (1000000 + d)).isEmpty
@[simp] theorem hintR_99 (C : Cx) : hintR C 99999 = false := rfl
def litV (C : Cx) (st : St) (d : Nat) (t : TypeId) (len : Nat) (parts : List (Nat × Operand)) : Option (Prop × V × St) :=
  match C.T t with
  | some i => match i.kind with
    | .slice e => match C.T e with
      | some ie =>
        if len = 0 then (if parts.length = 0 then some (True, .row d, { fresh st d with os := upd (fresh st d).os d (some (.row [] ie.size e)) }) else none)
        else if len * ie.size ≤ 16777216 ∧ 0 < ie.size then
          if hintR C d then
            match fillV (fun q => some (q * ie.size, ie.size)) ((List.range (len * ie.size)).map fun q => ie.zero.getD (q % ie.size) .top) (parts.map fun p => (p.1, ev (fresh (frzAll st (rowsOf (parts.map fun p => ev st.env p.2))) d).env p.2)) with
            | some cs => (toDs cs).map fun ds => (True, .row d, { fresh (frzAll st (rowsOf (parts.map fun p => ev st.env p.2))) d with os := upd (fresh (frzAll st (rowsOf (parts.map fun p => ev st.env p.2))) d).os d (some (.row (rowsD ie.size len ds) ie.size e)) })
            | none => none
          else match fillV (fun q => some (q * ie.size, ie.size)) ((List.range (len * ie.size)).map fun q => ie.zero.getD (q % ie.size) .top) (parts.map fun p => (p.1, ev (frzAll st (rowsOf (parts.map fun p => ev st.env p.2))).env p.2)) with
          | some cs => (toDs cs).map fun ds => (True, .d (.sl ie.size (rowsD ie.size len ds)), frzAll st (rowsOf (parts.map fun p => ev st.env p.2)))
          | none => none
        else none
      | none => none
    | _ => none
  | none => none
def makeV (C : Cx) (st : St) (d : Nat) (t : TypeId) (l c : V) : Option (Prop × V × St) :=
  match l, c with
  | .d (.int _ n), .d (.int _ n') => match C.T t with
    | some i => match i.kind with
      | .slice e => match C.T e with
        | some ie => (toDs ie.zero).map fun zd => (0 ≤ n ∧ n ≤ n' ∧ (ie.bytes : Int) * n' ≤ 281474976710656 ∧ n' ≤ 9223372036854775807, .row d, { fresh st d with os := upd (fresh st d).os d (some (.row (List.replicate n.toNat zd) ie.size e)) })
        | none => none
      | _ => none
    | none => none
  | _, _ => none
/-- The data that is appended. -/
def argRows (os : Nat → Option O) (m : Nat) : V → Option (List (List D))
  | .nil => some []
  | .d (.sl m' rows) => if m' = m then some rows else none
  | .row o => match os o with
    | some (.row rows m' _) => if m' = m then some rows else none
    | _ => none
  | _ => none
def appV (C : Cx) (st : St) (d : Nat) (t : TypeId) (so xo : Operand) : Option (Prop × V × St) :=
  match C.T t with
  | some i => match i.kind with
    | .slice e => match C.T e with
      | some ie => if 0 < ie.size then (match ev st.env so with
        | .row o => match st.os o with
          | some (.row rows m e') => if e' = e ∧ ie.size = m then (argRows st.os m (ev st.env xo)).map fun rows2 =>
              ((rows.length + rows2.length) * ie.bytes ≤ 140737488355328 ∧ rows.length + rows2.length ≤ 9223372036854775807, .row o, killAll st o (.row (rows ++ rows2) m e)) else none
          | _ => none
        | .nil => (argRows (fresh st d).os ie.size (ev (fresh st d).env xo)).map fun rows2 =>
            (rows2.length * ie.bytes ≤ 140737488355328 ∧ rows2.length ≤ 9223372036854775807, .row d, { fresh st d with os := upd (fresh st d).os d (some (.row rows2 ie.size e)) })
        | _ => none) else none
      | none => none
    | _ => none
  | none => none
def storeV (C : Cx) (st : St) (t : TypeId) (x y : V) : Option (Prop × V × St) :=
  match C.T t with
  | some i => match y.flat with
    | some ys => if ys.length = i.size then (match x with
      | .ptr o c => match st.os o with
        | some (.box cs e) => if c + ys.length ≤ cs.length then some (True, .top, { st with os := upd st.os o (some (.box (putL cs c ys) e)) }) else none
        | _ => none
      | .rptr o m k j => match rowAt (st.os o) with
        | some (rows, m', _) => if m' = m ∧ j + ys.length ≤ m then (toDs ys).map fun ds => (k < rows.length, .top, { st with os := upd st.os o (some (reRow (st.os o) (rows.set k (putL (rows.getD k []) j ds)))) }) else none
        | _ => none
      | _ => none) else none
    | none => none
  | none => none
/-- An operation that changes the state. -/
def act (C : Cx) (st : St) (d : Nat) : Op → Option (Prop × V × St)
  | .alloc e => match C.T e with
    | some i => some (True, .ptr d 0, { fresh st d with os := upd (fresh st d).os d (some (.box i.zero e)) })
    | none => none
  | .box e x => match (ev (fresh st d).env x).flat with
    | some cs => some (True, .ptr d 0, { fresh st d with os := upd (fresh st d).os d (some (.box cs e)) })
    | none => none
  | .store t x y => storeV C st t (ev st.env x) (ev st.env y)
  | .build t parts => (buildV C (ev st.env) t parts.toList).map fun v => (True, v, st)
  | .buildSlice t len parts => litV C st d t len parts.toList
  | .makeSlice t l c => makeV C st d t (ev st.env l) (ev st.env c)
  | .range t x => rangeV C st d t (ev st.env x)
  | .next x true => nextV st (ev st.env x)
  | .makeMap t none => some (True, .row d, { fresh st d with os := upd (fresh st d).os d (some (.raw (.map []))) })
  | .mapUpdate t m k x => mapUpV C st t (ev st.env m) (ev st.env k) (ev st.env x)
  | .lookup t m k ok => (lookV C st.os t (ev st.env m) (ev st.env k) ok).map fun q => (q.1, q.2, st)
  | .convert s dt x => match ev st.env x with
    | .d (.str b) => if isU8 C dt then (match C.T s with
      | some _ => some (b.size ≤ 9223372036854775807, .d (.sl 1 (strRows b)), st)
      | none => none) else none
    | _ => none
  | .call { callee := .value fo, args, .. } => if (ev st.env fo :: args.toList.map (ev st.env)).all (ptrOk st.os) then (match callV C st fo args.toList with
    | some q => some q
    | none => callH C st d fo args.toList) else none
  | .call { callee := .builtin .append, args, argTypes } => match args.toList, argTypes.toList with
    | [s, x], [t, t'] => if t' = t then appV C st d t s x else none
    | _, _ => none
  | _ => none
def stepV (C : Cx) (st : St) (d : Nat) (o : Op) : Option (Prop × V × St) :=
  match val C st o with
  | some (p, v) => some (p, v, st)
  | none => act C st d o
section
variable {P : Program} {N : Nat} {w0 : World} {Pr X : Nat → Prop} {Z : Nat → Option Value} {ρ : Nat → Value} {st : St} {a : Act} {w : World} {Q : Exit → Act → World → Prop}
/-- What an operation must leave. -/
def Leaves (N : Nat) (w0 : World) (Pr X : Nat → Prop) (Z : Nat → Option Value) (a : Act) (o : Oper) (r : V) (st' : St) : Act → World → Prop := fun a' w' => ∃ z, a' = a.put o.dst z ∧ Out N w0 Pr X Z st' a r z w'
theorem wp_value {o : Oper} {r : V} {st' : St} {z : Value} {w' : World} (h : (execOp a.eval o).run P w = .ok (.value z) w') (ho : Out N w0 Pr X Z st' a r z w') : o.wp P a w (Leaves N w0 Pr X Z a o r st') Q := by
  unfold Oper.wp
  rw [h]
  exact ⟨z, rfl, ho⟩
theorem wp_skip' {o : Oper} {st' : St} {w' : World} (h : (execOp a.eval o).run P w = .ok .skip w') (ho : ∃ ρ', Gam N w0 Pr X Z ρ' st' a w') : o.wp P a w (Leaves N w0 Pr X Z a o .top st') Q := by
  unfold Oper.wp
  rw [h]
  obtain ⟨ρ', hg⟩ := ho
  exact ⟨undef, rfl, ρ', hg, by rw [G]; trivial⟩
theorem frzAll_Gam : ∀ (l : List Nat) {st : St}, Gam N w0 Pr X Z ρ st a w → Gam N w0 Pr X Z ρ (frzAll st l) a w
  | [], st, h => h
  | o :: r, st, h => frzAll_Gam r (h.frz o)
theorem evs_Gs (hg : Gam N w0 Pr X Z ρ st a w) (xs : List Operand) : Gs (Bk X st.os ρ w) w ρ (Lv st.os) (xs.map (ev st.env)) (xs.map a.eval) :=
  ⟨by simp, fun i h1 h2 => by rw [List.getElem_map, List.getElem_map]; exact ev_G hg _⟩
theorem Gs.append {B : Nat → Prop} {L : Nat → Prop} {xs ys : List V} {us vs : List Value} (h1 : Gs B w ρ L xs us) (h2 : Gs B w ρ L ys vs) : Gs B w ρ L (xs ++ ys) (us ++ vs) := by
  refine ⟨by simp [h1.1, h2.1], fun i g1 g2 => ?_⟩
  have e := h1.1
  by_cases c : i < xs.length
  · rw [List.getElem_append_left c, List.getElem_append_left (by omega)]; exact h1.2 _ _ _
  · rw [List.getElem_append_right (by omega), List.getElem_append_right (by omega)]
    have := h2.2 (i - xs.length) (by simp at g1; omega) (by simp at g2; omega)
    simp only [e]
    exact this
/-- A function value that is called. -/
theorem callee_run (hg : Gam N w0 Pr X Z ρ st a w) {fo : Operand} {f : FuncId} {caps : List V} (h : calleeV (ev st.env fo) = some (f, caps)) : ∃ vs : List Value, a.eval fo = .func (.func f) #[] vs.toArray ∧ Gs (Bk X st.os ρ w) w ρ (Lv st.os) caps vs := by
  have hx := ev_G hg fo
  unfold calleeV at h
  split at h
  · rename_i f' hf
    simp only [Option.some.injEq, Prod.mk.injEq] at h
    obtain ⟨rfl, rfl⟩ := h
    rw [hf, G, Rd] at hx
    exact ⟨[], hx, rfl, fun i h => by simp at h⟩
  · rename_i f' cs hf
    simp only [Option.some.injEq, Prod.mk.injEq] at h
    obtain ⟨rfl, rfl⟩ := h
    rw [hf, G] at hx
    obtain ⟨vs, e, hl, hv⟩ := hx
    exact ⟨vs, e, hl, hv⟩
  · simp at h
theorem exec_call {o : Oper} {c : Call} {fo : Operand} {f : FuncId} {vs : List Value} (ho : o.op = .call c) (hc : c.callee = .value fo) (hf : FnOk P f) (he : a.eval fo = .func (.func f) #[] vs.toArray) :
    (execOp a.eval o).run P w = .ok (.enter f (c.args.toList.map a.eval ++ vs).toArray) w := by
  obtain ⟨fn, h1, h2, h3⟩ := hf
  have harr : (c.args.map a.eval) ++ vs.toArray = (c.args.toList.map a.eval ++ vs).toArray := Array.ext' (by simp)
  have h2' : fn.name ≠ "runtime.NumGoroutine" := by simpa using h2
  have h3' : fn.body ≠ none := by intro e; simp [e] at h3
  simp [execOp, ho, resolve, hc, he, Deferred.ofValue, invoke, callFunc, h1, h2', h3', harr]
theorem wp_call {C : Cx} (hΓ : COk P C) (hg : Gam N w0 Pr X Z ρ st a w) {o : Oper} {c : Call} {fo : Operand} (ho : o.op = .call c) (hc : c.callee = .value fo) {f : FuncId} {caps : List V} (hf : calleeV (ev st.env fo) = some (f, caps)) {p : Prop} {r : V} (hp : p)
    (h : (C.Γ f (c.args.toList.map (ev st.env) ++ caps) = some (p, r)) ∨ (C.Γ f ((c.args.toList.map (ev st.env) ++ caps).map (asD st.os)) = some (p, r) ∧ r.scal = true)) : o.wp P a w (Leaves N w0 Pr X Z a o r st) Q := by
  obtain ⟨vs, he, hcaps⟩ := callee_run hg hf
  rcases call_run hΓ.g hg ((evs_Gs hg c.args.toList).append hcaps) hp h with ⟨h1, h2⟩ | ⟨v, w', h1, hm, hr⟩
  · unfold Oper.wp
    rw [exec_call ho hc h1 he]
    refine h2.mono ?_
    rintro e w' ⟨v, rfl, hm, hr⟩
    exact ⟨v, rfl, ρ, hg.more hm, hr⟩
  · refine wp_value (z := v) (w' := w') ?_ ⟨ρ, hg.more hm, hr⟩
    rw [← h1]
    have harr : (c.args.map a.eval) ++ vs.toArray = (c.args.toList.map a.eval ++ vs).toArray := Array.ext' (by simp)
    simp [execOp, ho, resolve, hc, he, Deferred.ofValue, invoke, harr]
end
end Go.Proofs.YtgnnakibcjonbaaGreatDoor.VE

/- The evaluator: one operation is carried out soundly. -/
namespace Go.Proofs.YtgnnakibcjonbaaGreatDoor.VE
open Go Go.RowKit
set_option linter.unusedVariables false
set_option linter.unusedSimpArgs false
section
variable {P : Program} {N : Nat} {w0 : World} {Pr X : Nat → Prop} {Z : Nat → Option Value} {ρ : Nat → Value} {st : St} {a : Act} {w : World} {Q : Exit → Act → World → Prop}
theorem callV_run {C : Cx} (hΓ : COk P C) (hg : Gam N w0 Pr X Z ρ st a w) {o : Oper} {c : Call} {fo : Operand} (ho : o.op = .call c) (hc : c.callee = .value fo) {p : Prop} {r : V} {st' : St} (h : callV C st fo c.args.toList = some (p, r, st')) (hp : p) :
    o.wp P a w (Leaves N w0 Pr X Z a o r st') Q := by
  unfold callV at h
  split at h
  · rename_i f caps hf
    split at h
    · obtain ⟨q, hq, e⟩ := Option.map_eq_some_iff.1 h
      simp only [Prod.mk.injEq] at e
      obtain ⟨rfl, rfl, rfl⟩ := e
      exact wp_call hΓ hg ho hc hf hp (.inl hq)
    · split at h
      · rename_i p' r' hq
        split at h
        · rename_i hs
          simp only [Option.some.injEq, Prod.mk.injEq] at h
          obtain ⟨rfl, rfl, rfl⟩ := h
          exact wp_call hΓ hg ho hc hf hp (.inr ⟨hq, hs⟩)
        · split at h
          · rename_i f' caps' hf'
            split at h
            · obtain ⟨q, hq, e⟩ := Option.map_eq_some_iff.1 h
              simp only [Prod.mk.injEq] at e
              obtain ⟨rfl, rfl, rfl⟩ := e
              exact wp_call hΓ (frzAll_Gam _ hg) ho hc hf' hp (.inl hq)
            · simp at h
          · simp at h
      · simp at h
  · simp at h
theorem cellsC_spec {n : Nat} {σ : Nat → Nat} : ∀ {cs : List V} {k : Nat} {cs' : List V} {rs : List Nat}, cellsC cs k = some (cs', rs) → 100000 ≤ k → k + rs.length ≤ 100000 + n → (∀ j o, rs[j]? = some o → σ (k + j) = o) → cs'.map (V.ren σ) = cs ∧ cs'.all (V.inF n) = true
  | [], k, cs', rs, h, _, _, _ => by
    simp only [cellsC, Option.some.injEq, Prod.mk.injEq] at h
    obtain ⟨rfl, rfl⟩ := h
    exact ⟨rfl, rfl⟩
  | x :: r, k, cs', rs, h, hk, hn, hσ => by
    cases x <;> simp only [cellsC, reduceCtorEq] at h
    case row o =>
      obtain ⟨⟨a, b⟩, hq, e⟩ := Option.map_eq_some_iff.1 h
      simp only [Prod.mk.injEq] at e
      obtain ⟨rfl, rfl⟩ := e
      simp only [List.length_cons] at hn
      have ih := cellsC_spec (σ := σ) (n := n) hq (by omega) (by omega) (fun j o hj => by
        have := hσ (j + 1) o (by rw [List.getElem?_cons_succ]; exact hj)
        rwa [show k + (j + 1) = k + 1 + j by omega] at this)
      have h0 := hσ 0 o rfl
      rw [Nat.add_zero] at h0
      refine ⟨by simp only [List.map_cons, V.ren, V.rens_eq, h0, ih.1], ?_⟩
      simp only [List.all_cons, V.inF, ih.2, Bool.and_true, Bool.and_eq_true, decide_eq_true_eq]
      omega
    all_goals
      obtain ⟨⟨a, b⟩, hq, e⟩ := Option.map_eq_some_iff.1 h
      simp only [Prod.mk.injEq] at e
      obtain ⟨rfl, rfl⟩ := e
      have ih := cellsC_spec (σ := σ) (n := n) hq hk hn hσ
      exact ⟨by simp only [List.map_cons, V.ren, V.rens_eq, ih.1], by simp only [List.all_cons, V.inF, ih.2, Bool.and_true]⟩
theorem rowObjs_spec {os : Nat → Option O} : ∀ {rs : List Nat} {l : List O}, rowObjs os rs = some l → l.length = rs.length ∧ ∀ (j : Nat) (x : O), l[j]? = some x → ∃ o, rs[j]? = some o ∧ os o = some x ∧ ∃ rows m e, x = .row rows m e
  | [], l, h => by
    simp only [rowObjs, Option.some.injEq] at h
    subst h
    exact ⟨rfl, fun j x h => by simp at h⟩
  | o :: r, l, h => by
    simp only [rowObjs] at h
    split at h
    · rename_i rows m e l' ho hl
      simp only [Option.some.injEq] at h
      subst h
      have ih := rowObjs_spec hl
      refine ⟨by simp [ih.1], fun j x hj => ?_⟩
      cases j with
      | zero =>
        simp only [List.getElem?_cons_zero, Option.some.injEq] at hj
        subst hj
        exact ⟨o, rfl, ho, _, _, _, rfl⟩
      | succ j =>
        rw [List.getElem?_cons_succ] at hj
        obtain ⟨o', h1, h2⟩ := ih.2 j x hj
        exact ⟨o', by rw [List.getElem?_cons_succ]; exact h1, h2⟩
    · cases h
theorem pure1_inF {n : Nat} {x : V} (h : x.pure1 = true) : x.inF n = true := by cases x <;> simp only [V.pure1, Bool.false_eq_true] at h <;> simp only [V.inF]
theorem pures_inF {n : Nat} {cs : List V} (h : cs.all V.pure1 = true) : V.inFs n cs = true := by
  rw [V.inFs_eq, List.all_eq_true]
  exact fun x hx => pure1_inF (List.all_eq_true.1 h x hx)
theorem pure_inF {n : Nat} {x : V} (h : x.pure = true) : x.inF n = true := by cases x <;> simp only [V.pure, V.pure1, Bool.false_eq_true] at h <;> simp only [V.inF] <;> exact pures_inF h
theorem pure_ren {σ : Nat → Nat} {x : V} (h : x.pure = true) : x.ren σ = x := by
  cases x <;> simp only [V.pure, V.pure1, Bool.false_eq_true] at h <;> simp only [V.ren, V.rens_eq]
  all_goals rw [ren_pures h]
theorem pures_ren {σ : Nat → Nat} {l : List V} (h : l.all V.pure = true) : l.map (V.ren σ) = l := by
  conv => rhs; rw [← List.map_id l]
  exact List.map_congr_left fun x hx => pure_ren (List.all_eq_true.1 h x hx)
theorem footL_spec {os : Nat → Option O} {n : Nat} {σ : Nat → Nat} : ∀ {vals : List V} {k : Nat} {args : List V} {fp : List O} {fl : List Nat}, footL os k vals = some (args, fp, fl) → 100000 ≤ k → k + fl.length ≤ 100000 + n → (∀ j o, fl[j]? = some o → σ (k + j) = o) →
    args.map (V.ren σ) = vals ∧ (∀ x ∈ args, x.inF n = true) ∧ fl.length = fp.length ∧ ∀ (j : Nat) (x : O), fp[j]? = some x → ∃ o, fl[j]? = some o ∧ os o = some (x.ren σ) ∧ x.inF n = true
  | [], k, args, fp, fl, h, _, _, _ => by
    simp only [footL, Option.some.injEq, Prod.mk.injEq] at h
    obtain ⟨rfl, rfl, rfl⟩ := h
    exact ⟨rfl, fun x hx => by simp at hx, rfl, fun j x hj => by simp at hj⟩
  | v :: rest, k, args, fp, fl, h, hk, hn, hσ => by
    unfold footL at h
    split at h
    · rename_i e0; cases e0
    · rename_i k _ _ o rest' e0
      cases e0
      split at h
      · rename_i cs e ho
        split at h
        · rename_i cs' rs hcs
          split at h
          · rename_i l hl
            obtain ⟨⟨a, f, m⟩, hq, e1⟩ := Option.map_eq_some_iff.1 h
            simp only [Prod.mk.injEq] at e1
            obtain ⟨rfl, rfl, rfl⟩ := e1
            obtain ⟨l1, l2⟩ := rowObjs_spec hl
            simp only [List.length_cons, List.length_append] at hn
            have h0 : σ k = o := by have := hσ 0 o rfl; rwa [Nat.add_zero] at this
            have hrow : ∀ j o', rs[j]? = some o' → σ (k + 1 + j) = o' := fun j o' hj => by
              have := hσ (j + 1) o' (by rw [List.getElem?_cons_succ, List.getElem?_append_left (List.getElem?_eq_some_iff.1 hj).1]; exact hj)
              rwa [show k + (j + 1) = k + 1 + j by omega] at this
            have hc := cellsC_spec (n := n) (σ := σ) hcs (by omega) (by omega) hrow
            obtain ⟨i1, i2, i3, i4⟩ := footL_spec (n := n) (σ := σ) hq (by omega) (by omega) (fun j o' hj => by
              have := hσ (rs.length + j + 1) o' (by rw [List.getElem?_cons_succ, List.getElem?_append_right (by omega), show rs.length + j - rs.length = j by omega]; exact hj)
              rwa [show k + (rs.length + j + 1) = k + 1 + rs.length + j by omega] at this)
            refine ⟨by rw [List.map_cons, i1]; simp only [V.ren, V.rens_eq, h0], fun x hx => ?_, by simp [l1, i3], fun j x hj => ?_⟩
            · rcases List.mem_cons.1 hx with rfl | hx
              · simp only [V.inF, Bool.and_eq_true, decide_eq_true_eq]; omega
              · exact i2 x hx
            · cases j with
              | zero =>
                simp only [List.getElem?_cons_zero, Option.some.injEq] at hj
                subst hj
                exact ⟨o, rfl, by simp only [O.ren, hc.1]; exact ho, by simp only [O.inF]; exact hc.2⟩
              | succ j =>
                rw [List.getElem?_cons_succ] at hj
                by_cases c : j < l.length
                · rw [List.getElem?_append_left c] at hj
                  obtain ⟨o', g1, g2, rows, m', e', rfl⟩ := l2 j x hj
                  exact ⟨o', by rw [List.getElem?_cons_succ, List.getElem?_append_left (by omega)]; exact g1, g2, rfl⟩
                · rw [List.getElem?_append_right (by omega)] at hj
                  obtain ⟨o', g1, g2, g3⟩ := i4 _ x hj
                  exact ⟨o', by rw [List.getElem?_cons_succ, List.getElem?_append_right (by omega), ← l1]; exact g1, g2, g3⟩
          · cases h
        · cases h
      · cases h
    · rename_i k _ _ o rest' e0
      cases e0
      split at h
      · rename_i K ho
        obtain ⟨⟨a, f, m⟩, hq, e1⟩ := Option.map_eq_some_iff.1 h
        simp only [Prod.mk.injEq] at e1
        obtain ⟨rfl, rfl, rfl⟩ := e1
        simp only [List.length_cons] at hn
        have h0 : σ k = o := by have := hσ 0 o rfl; rwa [Nat.add_zero] at this
        obtain ⟨i1, i2, i3, i4⟩ := footL_spec (n := n) (σ := σ) hq (by omega) (by omega) (fun j o' hj => by
          have := hσ (j + 1) o' (by rw [List.getElem?_cons_succ]; exact hj)
          rwa [show k + (j + 1) = k + 1 + j by omega] at this)
        refine ⟨by rw [List.map_cons, i1]; simp only [V.ren, V.rens_eq, h0], fun x hx => ?_, by simp [i3], fun j x hj => ?_⟩
        · rcases List.mem_cons.1 hx with rfl | hx
          · simp only [V.inF, Bool.and_eq_true, decide_eq_true_eq]; omega
          · exact i2 x hx
        · cases j with
          | zero =>
            simp only [List.getElem?_cons_zero, Option.some.injEq] at hj
            subst hj
            exact ⟨o, rfl, ho, rfl⟩
          | succ j =>
            rw [List.getElem?_cons_succ] at hj
            obtain ⟨o', g1, g2, g3⟩ := i4 _ x hj
            exact ⟨o', by rw [List.getElem?_cons_succ]; exact g1, g2, g3⟩
      · rename_i rws mm ee ho
        obtain ⟨⟨a, f, m⟩, hq, e1⟩ := Option.map_eq_some_iff.1 h
        simp only [Prod.mk.injEq] at e1
        obtain ⟨rfl, rfl, rfl⟩ := e1
        simp only [List.length_cons] at hn
        have h0 : σ k = o := by have := hσ 0 o rfl; rwa [Nat.add_zero] at this
        obtain ⟨i1, i2, i3, i4⟩ := footL_spec (n := n) (σ := σ) hq (by omega) (by omega) (fun j o' hj => by
          have := hσ (j + 1) o' (by rw [List.getElem?_cons_succ]; exact hj)
          rwa [show k + (j + 1) = k + 1 + j by omega] at this)
        refine ⟨by rw [List.map_cons, i1]; simp only [V.ren, V.rens_eq, h0], fun x hx => ?_, by simp [i3], fun j x hj => ?_⟩
        · rcases List.mem_cons.1 hx with rfl | hx
          · simp only [V.inF, Bool.and_eq_true, decide_eq_true_eq]; omega
          · exact i2 x hx
        · cases j with
          | zero =>
            simp only [List.getElem?_cons_zero, Option.some.injEq] at hj
            subst hj
            exact ⟨o, rfl, ho, rfl⟩
          | succ j =>
            rw [List.getElem?_cons_succ] at hj
            obtain ⟨o', g1, g2, g3⟩ := i4 _ x hj
            exact ⟨o', by rw [List.getElem?_cons_succ]; exact g1, g2, g3⟩
      · cases h
    · rename_i k _ _ x rest' _ _ e0
      cases e0
      split at h
      · rename_i hp
        obtain ⟨⟨a, f, m⟩, hq, e1⟩ := Option.map_eq_some_iff.1 h
        simp only [Prod.mk.injEq] at e1
        obtain ⟨rfl, rfl, rfl⟩ := e1
        obtain ⟨i1, i2, i3, i4⟩ := footL_spec (n := n) (σ := σ) hq hk hn hσ
        refine ⟨by rw [List.map_cons, i1, pure_ren hp], fun x hx => ?_, i3, i4⟩
        rcases List.mem_cons.1 hx with rfl | hx
        · exact pure_inF hp
        · exact i2 x hx
      · cases h
theorem memB_true {x : Nat} : ∀ {l : List Nat}, memB x l = true → x ∈ l
  | [], h => by cases h
  | y :: r, h => by
    simp only [memB, Bool.or_eq_true] at h
    rcases h with h | h
    · rw [Nat.eq_of_beq_eq_true h]; exact List.mem_cons_self
    · exact List.mem_cons_of_mem _ (memB_true h)
theorem pos_mem {o : Nat} : ∀ {l : List Nat}, o ∈ l → ∃ k, pos l o = some k
  | [], h => by simp at h
  | y :: r, h => by
    unfold pos
    by_cases c : o = y
    · exact ⟨0, if_pos c⟩
    · rw [if_neg c]
      rcases List.mem_cons.1 h with h | h
      · exact absurd h c
      · obtain ⟨k, hk⟩ := pos_mem h
        exact ⟨k + 1, by rw [hk]; rfl⟩
theorem toF_spec {fl : List Nat} {o : Nat} (h : memB o fl = true) (t : List Nat) : 100000 ≤ toF fl o ∧ toF fl o < 100000 + fl.length ∧ nameOf (fl ++ t) (toF fl o) = o := by
  obtain ⟨k, hk⟩ := pos_mem (memB_true h)
  have hg := pos_get hk
  have hlt := (List.getElem?_eq_some_iff.1 hg).1
  have e : toF fl o = 100000 + k := by unfold toF; rw [hk]
  rw [e]
  refine ⟨by omega, by omega, nameOf_at (by rw [List.getElem?_append_left hlt]; exact hg)⟩
mutual
theorem V.toF_ok {fl : List Nat} (t : List Nat) : ∀ x : V, x.inL fl = true → (x.ren (toF fl)).ren (nameOf (fl ++ t)) = x ∧ (x.ren (toF fl)).inF fl.length = true
  | .d _, _ => ⟨rfl, rfl⟩
  | .nil, _ => ⟨rfl, rfl⟩
  | .ptr o c, h => by
    obtain ⟨h1, h2, h3⟩ := toF_spec (show memB o fl = true from h) t
    refine ⟨by simp only [V.ren, h3], ?_⟩
    simp only [V.ren, V.inF, Bool.and_eq_true, decide_eq_true_eq]; exact ⟨h1, h2⟩
  | .row o, h => by
    obtain ⟨h1, h2, h3⟩ := toF_spec (show memB o fl = true from h) t
    refine ⟨by simp only [V.ren, h3], ?_⟩
    simp only [V.ren, V.inF, Bool.and_eq_true, decide_eq_true_eq]; exact ⟨h1, h2⟩
  | .rptr o _ _ _, h => by
    obtain ⟨h1, h2, h3⟩ := toF_spec (show memB o fl = true from h) t
    refine ⟨by simp only [V.ren, h3], ?_⟩
    simp only [V.ren, V.inF, Bool.and_eq_true, decide_eq_true_eq]; exact ⟨h1, h2⟩
  | .dptr _, _ => ⟨rfl, rfl⟩
  | .agg cs, h => by
    obtain ⟨h1, h2⟩ := V.toFs_ok t cs h
    simp only [V.ren, V.inF]; exact ⟨congrArg V.agg h1, h2⟩
  | .tup cs, h => by
    obtain ⟨h1, h2⟩ := V.toFs_ok t cs h
    simp only [V.ren, V.inF]; exact ⟨congrArg V.tup h1, h2⟩
  | .fnc f cs, h => by
    obtain ⟨h1, h2⟩ := V.toFs_ok t cs h
    simp only [V.ren, V.inF]; exact ⟨congrArg (V.fnc f) h1, h2⟩
  | .whn b x, h => by
    obtain ⟨h1, h2⟩ := V.toF_ok t x h
    simp only [V.ren, V.inF]; exact ⟨congrArg (V.whn b) h1, h2⟩
  | .top, _ => ⟨rfl, rfl⟩
theorem V.toFs_ok {fl : List Nat} (t : List Nat) : ∀ cs : List V, V.inLs fl cs = true → V.rens (nameOf (fl ++ t)) (V.rens (toF fl) cs) = cs ∧ V.inFs fl.length (V.rens (toF fl) cs) = true
  | [], _ => ⟨rfl, rfl⟩
  | x :: r, h => by
    simp only [V.inLs, Bool.and_eq_true] at h
    obtain ⟨h1, h2⟩ := V.toF_ok t x h.1
    obtain ⟨h3, h4⟩ := V.toFs_ok t r h.2
    refine ⟨by simp only [V.rens, h1, h3], by simp only [V.rens, V.inFs, h2, h4, Bool.and_self]⟩
end
theorem objsL_spec {os : Nat → Option O} : ∀ {rs : List Nat} {l : List O}, objsL os rs = some l → l.length = rs.length ∧ ∀ (j : Nat) (x : O), l[j]? = some x → ∃ o, rs[j]? = some o ∧ os o = some x
  | [], l, h => by
    simp only [objsL, Option.some.injEq] at h
    subst h
    exact ⟨rfl, fun j x h => by simp at h⟩
  | o :: r, l, h => by
    simp only [objsL] at h
    split at h
    · rename_i y l' ho hl
      simp only [Option.some.injEq] at h
      subst h
      have ih := objsL_spec hl
      refine ⟨by simp [ih.1], fun j x hj => ?_⟩
      cases j with
      | zero =>
        simp only [List.getElem?_cons_zero, Option.some.injEq] at hj
        subst hj
        exact ⟨o, rfl, ho⟩
      | succ j =>
        rw [List.getElem?_cons_succ] at hj
        obtain ⟨o', h1, h2⟩ := ih.2 j x hj
        exact ⟨o', by rw [List.getElem?_cons_succ]; exact h1, h2⟩
    · cases h
theorem footG_spec {os : Nat → Option O} {vals args : List V} {fp : List O} {fl : List Nat} (h : footG os vals = some (args, fp, fl)) (t : List Nat) :
    args.map (V.ren (nameOf (fl ++ t))) = vals ∧ (∀ x ∈ args, x.inF fp.length = true) ∧ fl.length = fp.length ∧ ∀ (k : Nat) (x : O), fp[k]? = some x → ∃ o, fl[k]? = some o ∧ os o = some (x.ren (nameOf (fl ++ t))) ∧ x.inF fp.length = true := by
  unfold footG at h
  split at h
  · rename_i fl' hr
    split at h
    · rename_i l hl
      split at h
      · rename_i hc
        simp only [Option.some.injEq, Prod.mk.injEq] at h
        obtain ⟨rfl, rfl, rfl⟩ := h
        rw [Bool.and_eq_true] at hc
        obtain ⟨l1, l2⟩ := objsL_spec hl
        obtain ⟨c1, c2⟩ := V.toFs_ok t vals hc.1
        have hlen : (l.map (O.ren (toF fl'))).length = fl'.length := by rw [List.length_map, l1]
        rw [V.rens_eq, V.rens_eq] at c1
        rw [V.rens_eq, V.inFs_eq] at c2
        rw [hlen]
        refine ⟨c1, fun x hx => List.all_eq_true.1 c2 x hx, rfl, fun k x hk => ?_⟩
        rw [List.getElem?_map] at hk
        obtain ⟨y, hy, rfl⟩ := Option.map_eq_some_iff.1 hk
        obtain ⟨o, h1, h2⟩ := l2 k y hy
        have hy2 := List.all_eq_true.1 hc.2 y (List.mem_of_getElem? hy)
        refine ⟨o, h1, ?_, ?_⟩
        · rw [h2]
          cases y with
          | box cs e =>
            obtain ⟨d1, _⟩ := V.toFs_ok t cs hy2
            rw [V.rens_eq, V.rens_eq] at d1
            simp only [O.ren, d1]
          | _ => rfl
        · cases y with
          | box cs e =>
            obtain ⟨_, d2⟩ := V.toFs_ok t cs hy2
            rw [V.rens_eq, V.inFs_eq] at d2
            exact d2
          | _ => rfl
      · cases h
    · cases h
  · cases h
theorem footE_spec {os : Nat → Option O} {vals args : List V} {fp : List O} {fl : List Nat} (h : footE os vals = some (args, fp, fl)) (t : List Nat) :
    args.map (V.ren (nameOf (fl ++ t))) = vals ∧ (∀ x ∈ args, x.inF fp.length = true) ∧ fl.length = fp.length ∧ ∀ (k : Nat) (x : O), fp[k]? = some x → ∃ o, fl[k]? = some o ∧ os o = some (x.ren (nameOf (fl ++ t))) ∧ x.inF fp.length = true := by
  unfold footE at h
  split at h
  · rename_i q hq
    simp only [Option.some.injEq] at h
    subst h
    have h3 : fl.length = fp.length := (footL_spec (n := fl.length) (σ := fun k => fl.getD (k - 100000) 0) hq (Nat.le_refl _) (Nat.le_refl _) (fun j o hj => by simp [hj])).2.2.1
    exact footL_spec (n := fp.length) (σ := nameOf (fl ++ t)) hq (Nat.le_refl _) (by omega) (fun j o hj => nameOf_at (by rw [List.getElem?_append_left (List.getElem?_eq_some_iff.1 hj).1]; exact hj))
  · exact footG_spec h t
theorem memB_mem {x : Nat} : ∀ {l : List Nat}, memB x l = false → x ∉ l
  | [], _ => by simp
  | y :: r, h => by
    simp only [memB, Bool.or_eq_false_iff] at h
    have hne : x ≠ y := fun e => by
      have : Nat.beq x y = true := by rw [e]; exact Nat.beq_refl y
      rw [this] at h
      cases h.1
    rw [List.mem_cons]
    exact fun hx => hx.elim hne (memB_mem h.2)
theorem nodupB_nodup : ∀ {l : List Nat}, nodupB l = true → l.Nodup
  | [], _ => List.nodup_nil
  | x :: r, h => by
    simp only [nodupB, Bool.and_eq_true, Bool.not_eq_true'] at h
    exact List.nodup_cons.2 ⟨memB_mem h.1, nodupB_nodup h.2⟩
theorem freeB_ok {os : Nat → Option O} : ∀ {l : List Nat}, freeB os l = true → ∀ o ∈ l, os o = none
  | [], _, o, h => by simp at h
  | x :: r, h, o, ho => by
    rw [freeB, Bool.and_eq_true] at h
    rcases List.mem_cons.1 ho with rfl | ho
    · simpa using h.1
    · exact freeB_ok h.2 o ho
/-- An object is seen as another one. -/
theorem Gam.swap (h : Gam N w0 Pr X Z ρ st a w) (o : Nat) (x y : O) (ho : st.os o = some x) (hxy : ∀ B w ρ L, objOk B w ρ L o x → objOk B w ρ L o y) (hrow : y.isRow = true → ∀ u, Z o ≠ some u) : Gam N w0 Pr X Z ρ { st with os := upd st.os o (some y) } a w := by
  have dom : ∀ o', upd st.os o (some y) o' ≠ none ↔ st.os o' ≠ none := fun o' => by
    by_cases c : o' = o
    · subst c; rw [upd_same, ho]; simp
    · rw [upd_ne _ _ c]
  have hL : ∀ o', Lv st.os o' → Lv (upd st.os o (some y)) o' := fun o' ho' => (dom o').2 ho'
  have hb : ∀ b, Bk X st.os ρ w b → Bk X (upd st.os o (some y)) ρ w b := fun b hb => ⟨hb.1, fun o' ho' => hb.2 o' ((dom o').1 ho')⟩
  refine ⟨h.defers, h.size, fun t => (h.env t).mono hb (fun _ _ => rfl) hL (fun _ _ => rfl), fun o' z ho' => ?_, fun o1 o2 b h1 h2 e1 e2 => h.inj o1 o2 b ((dom o1).1 h1) ((dom o2).1 h2) e1 e2, h.one, h.keep, fun o' b ho' e => h.prot o' b ((dom o').1 ho') e, h.low, h.grow, h.os', h.tape, h.output, h.hX, fun o' b ho' e => h.xo o' b ((dom o').1 ho') e, fun o' u hz => ?_, h.gp⟩
  · by_cases c : o' = o
    · subst c
      simp only [upd_same, Option.some.injEq] at ho'
      subst ho'
      exact hxy _ _ _ _ ((h.obj o' x ho).mono hb (fun _ _ => rfl) hL (fun _ _ => rfl) rfl (fun _ _ => rfl))
    · simp only [upd_ne _ _ c] at ho'
      exact (h.obj o' z ho').mono hb (fun _ _ => rfl) hL (fun _ _ => rfl) rfl (fun _ _ => rfl)
  · obtain ⟨h1, h2, z, h3, h4⟩ := h.fix o' u hz
    by_cases c : o' = o
    · subst c
      refine ⟨h1, h2, y, upd_same _ _ _, ?_⟩
      cases hr : y.isRow with
      | false => rfl
      | true => exact absurd hz (hrow hr u)
    · exact ⟨h1, h2, z, by simp only [upd_ne _ _ c]; exact h3, h4⟩
theorem Gam.toArr (h : Gam N w0 Pr X Z ρ st a w) (o : Nat) : Gam N w0 Pr X Z ρ (st.toArr o) a w := by
  unfold St.toArr
  split
  · rename_i rows m e ho
    exact h.swap o _ (.arr rows m e) ho (fun B w ρ L h => h) (fun h => by cases h)
  · exact h
theorem Gam.toRow (h : Gam N w0 Pr X Z ρ st a w) (o : Nat) (hz : ∀ u, Z o ≠ some u) : Gam N w0 Pr X Z ρ (st.toRow o) a w := by
  unfold St.toRow
  split
  · rename_i rows m e ho
    exact h.swap o _ (.row rows m e) ho (fun B w ρ L h => h) (fun _ => hz)
  · exact h
theorem Gam.arrAll : ∀ (l : List Nat) {st : St}, Gam N w0 Pr X Z ρ st a w → Gam N w0 Pr X Z ρ (VE.arrAll st l) a w
  | [], st, h => h
  | o :: r, st, h => Gam.arrAll r (h.toArr o)
theorem Gam.rowAll : ∀ (l : List Nat) {st : St}, (∀ o ∈ l, ∀ u, Z o ≠ some u) → Gam N w0 Pr X Z ρ st a w → Gam N w0 Pr X Z ρ (VE.rowAll st l) a w
  | [], st, _, h => h
  | o :: r, st, hl, h => Gam.rowAll r (fun o' ho' => hl o' (by simp [ho'])) (h.toRow o (hl o (by simp)))
theorem toRow_dom (st : St) (o o' : Nat) : (st.toRow o).os o' ≠ none ↔ st.os o' ≠ none := by
  unfold St.toRow
  split
  · rename_i rows m e ho
    by_cases c : o' = o
    · subst c; simp [upd_same, ho]
    · simp only [upd_ne _ _ c]
  · exact Iff.rfl
theorem rowAll_dom : ∀ (l : List Nat) (st : St) (o' : Nat), (VE.rowAll st l).os o' ≠ none ↔ st.os o' ≠ none
  | [], st, o' => Iff.rfl
  | o :: r, st, o' => (rowAll_dom r (st.toRow o) o').trans (toRow_dom st o o')
theorem rowsR_mem {os : Nat → Option O} : ∀ {l : List Nat} {o : Nat}, o ∈ rowsR os l → ∃ rows m e, os o = some (.row rows m e)
  | [], o, h => by simp [rowsR] at h
  | o1 :: r, o, h => by
    unfold rowsR at h
    split at h
    · rename_i c
      rcases List.mem_cons.1 h with rfl | h
      · unfold rowIs at c
        split at c
        · rename_i rows m e he; exact ⟨rows, m, e, he⟩
        · cases c
      · exact rowsR_mem h
    · exact rowsR_mem h
theorem Out.rowAll {st' : St} {r : V} {z : Value} {w' : World} (l : List Nat) (hl : ∀ o ∈ l, ∀ u, Z o ≠ some u) (h : Out N w0 Pr X Z st' a r z w') : Out N w0 Pr X Z (VE.rowAll st' l) a r z w' := by
  obtain ⟨ρ', hg, hr⟩ := h
  refine ⟨ρ', hg.rowAll l hl, hr.mono (fun b hb => ⟨hb.1, fun o ho => hb.2 o ((rowAll_dom l st' o).1 ho)⟩) (fun _ _ => rfl) (fun o ho => (rowAll_dom l st' o).2 ho) (fun _ _ => rfl)⟩
theorem callE_run {C : Cx} (hΓ : COk P C) (hg : Gam N w0 Pr X Z ρ st a w) {o : Oper} {c : Call} {fo : Operand} (ho : o.op = .call c) (hc : c.callee = .value fo) {d : Nat} {p : Prop} {r : V} {st' : St} (h : callE C st d fo c.args.toList = some (p, r, st')) (hdl : d < 100000) (hp : p) :
    o.wp P a w (Leaves N w0 Pr X Z a o r st') Q := by
  unfold callE at h
  split at h
  · rename_i f caps s hs
    simp only [Prod.mk.injEq] at hs
    obtain ⟨hf, hs⟩ := hs
    rw [hs] at hf
    obtain ⟨hgs, hsd⟩ := (frzAll_Gam (rowsOf (c.args.toList.map (ev st.env))) hg).fresh d hdl
    rw [hs] at hgs hsd
    split at h
    · rename_i args fp fl hfoot
      split at h
      · rename_i p' r' fp' hΔ
        split at h
        · rename_i hok
          simp only [Option.some.injEq, Prod.mk.injEq] at h
          obtain ⟨rfl, rfl, rfl⟩ := h
          rw [Bool.and_eq_true, Bool.and_eq_true, beq_iff_eq] at hok
          obtain ⟨hfree, hok⟩ := hok
          obtain ⟨hfn, heff⟩ := hΓ.d f args fp _ _ fp' hΔ
          obtain ⟨vs, hv, hcaps⟩ := callee_run hgs hf
          have hall := (evs_Gs hgs c.args.toList).append hcaps
          have hnames : ∃ t, namesE fl fp.length fp'.length d r' = fl ++ t ∧ ∀ x ∈ t, s.os x = none := ⟨_, rfl, freeB_ok hfree⟩
          obtain ⟨t, ht, htd⟩ := hnames
          obtain ⟨f1, f2, f3, f4⟩ := footE_spec hfoot t
          rw [ht] at hok ⊢
          unfold Oper.wp
          rw [exec_call ho hc hfn hv]
          refine (eff_call hgs heff (fl ++ t) (nodupB_nodup hok.1) hok.2 (fun k x hk => ?_) (fun k o hk hk2 => ?_) f2 (by rw [f1]; exact hall) hp).mono ?_
          · obtain ⟨o', e1, e2⟩ := f4 k x hk
            exact ⟨o', by rw [List.getElem?_append_left (List.getElem?_eq_some_iff.1 e1).1]; exact e1, e2⟩
          · rw [List.getElem?_append_right (by omega)] at hk2
            exact htd o (List.mem_of_getElem? hk2)
          · rintro e w' ⟨v, ρ', rfl, hg', hr⟩
            exact ⟨v, rfl, ρ', hg', hr⟩
        · cases h
      · cases h
    · cases h
  · cases h
theorem callH_run {C : Cx} (hΓ : COk P C) (hg : Gam N w0 Pr X Z ρ st a w) {o : Oper} {c : Call} {fo : Operand} (ho : o.op = .call c) (hc : c.callee = .value fo) {d : Nat} {p : Prop} {r : V} {st' : St} (h : callH C st d fo c.args.toList = some (p, r, st')) (hdl : d < 100000) (hp : p) :
    o.wp P a w (Leaves N w0 Pr X Z a o r st') Q := by
  unfold callH at h
  split at h
  · obtain ⟨⟨p', r', s⟩, hq, e⟩ := Option.map_eq_some_iff.1 h
    simp only [Prod.mk.injEq] at e
    obtain ⟨rfl, rfl, rfl⟩ := e
    have := callE_run (Q := Q) hΓ (hg.arrAll _) ho hc hq hdl hp
    refine Oper.wp_mono (fun a' w' ⟨z, e1, e2⟩ => ⟨z, e1, e2.rowAll _ fun o' ho' u hu => ?_⟩) this
    obtain ⟨rows, m, e, he⟩ := rowsR_mem ho'
    obtain ⟨_, _, x, h3, h4⟩ := hg.fix o' u hu
    rw [he] at h3
    cases h3
    cases h4
  · exact callE_run hΓ hg ho hc h hdl hp
theorem storeV_run {C : Cx} (hT : TOK P C.T) (hg : Gam N w0 Pr X Z ρ st a w) {t : TypeId} {x y : V} {p : Prop} {r : V} {st' : St} (h : storeV C st t x y = some (p, r, st')) (hp : p) {u v : Value} (hu : G (Bk X st.os ρ w) w ρ (Lv st.os) x u) (hv : G (Bk X st.os ρ w) w ρ (Lv st.os) y v) :
    r = .top ∧ ∃ w', (Instr.storeAt t u v).run P w = .ok () w' ∧ Gam N w0 Pr X Z ρ st' a w' := by
  unfold storeV at h
  split at h
  · rename_i i hi
    split at h
    · rename_i ys hys
      obtain ⟨vs, hvs, hg2, h1⟩ := flat_cells hv hys hg.one
      split at h
      · rename_i hsz
        split at h
        · rename_i o c
          split at h
          · rename_i cs e ho
            split at h
            · rename_i hle
              simp only [Option.some.injEq, Prod.mk.injEq] at h
              obtain ⟨rfl, rfl, rfl⟩ := h
              exact ⟨rfl, storeBox hT hg hi ho hvs hg2 h1 hsz hle hu⟩
            · simp at h
          · simp at h
        · rename_i o m k j
          split at h
          · rename_i rows m' e ho
            split at h
            · rename_i hc
              obtain ⟨rfl, hle⟩ := hc
              obtain ⟨ds, hds, e2⟩ := Option.map_eq_some_iff.1 h
              simp only [Prod.mk.injEq] at e2
              obtain ⟨rfl, rfl, rfl⟩ := e2
              have hd := toDs_Rd hg2 hds
              have hl : ds.length = ys.length := by rw [hd.1, hg2.1]
              exact ⟨rfl, storeRow hT hg hi ho hvs hd (by omega) hp (by omega) hu⟩
            · simp at h
          · simp at h
        · simp at h
      · simp at h
    · simp at h
  · simp at h
theorem argRows_spec (hg : Gam N w0 Pr X Z ρ st a w) {m : Nat} {x : V} {rows2 : List (List D)} (h : argRows st.os m x = some rows2) {u : Value} (hu : G (Bk X st.os ρ w) w ρ (Lv st.os) x u) :
    ∃ A c, u = .slice A rows2.length c ∧ (∀ q (h : q < rows2.length), rows2[q].length = m) ∧ ((rows2 = [] ∧ A = none ∧ c = 0) ∨ ∃ a : Addr, A = some a ∧ (rows2 ≠ [] → ∃ b off, a = ⟨b, off, none⟩ ∧ ∀ q (h : q < rows2.length) j (h2 : j < rows2[q].length), ∃ z, w.cell? ⟨b, off + q * m + j, none⟩ = some z ∧ Rd (Bk X st.os ρ w) w rows2[q][j] z)) := by
  unfold argRows at h
  split at h
  · simp only [Option.some.injEq] at h
    subst h
    rw [G] at hu
    subst hu
    exact ⟨none, 0, rfl, fun q h => by simp at h, .inl ⟨rfl, rfl, rfl⟩⟩
  · split at h
    · rename_i hm
      subst hm
      simp only [Option.some.injEq] at h
      subst h
      rw [G, Rd] at hu
      obtain ⟨A, c, rfl, h1, h2, h0, h3, h4⟩ := hu
      refine ⟨A, c, rfl, h3, ?_⟩
      cases A with
      | none =>
        left
        refine ⟨?_, rfl, h0 rfl⟩
        apply Classical.byContradiction
        intro hne
        obtain ⟨b, off, e, _⟩ := h4 hne
        cases e
      | some ad =>
        right
        refine ⟨ad, rfl, fun hne => ?_⟩
        obtain ⟨b, off, e, _, hc⟩ := h4 hne
        exact ⟨b, off, by simpa using e, hc⟩
    · simp at h
  · rename_i o
    split at h
    · rename_i rows m' e ho
      split at h
      · rename_i hm
        subst hm
        simp only [Option.some.injEq] at h
        subst h
        rw [G] at hu
        obtain ⟨hrl, hsh⟩ := row_shape (hg.obj o _ ho)
        rw [hu.2]
        rcases hsh with ⟨rfl, e1⟩ | ⟨b, cap, e1, hc1, hc2, hb, hc⟩
        · exact ⟨none, 0, e1, fun q h => by simp at h, .inl ⟨rfl, rfl, rfl⟩⟩
        · refine ⟨_, cap, e1, hrl, .inr ⟨_, rfl, fun _ => ⟨b, 0, rfl, fun q hq j hj => ?_⟩⟩⟩
          obtain ⟨z, hz, _, hr⟩ := hc q hq j hj
          exact ⟨z, by rw [← hz, Nat.zero_add], hr⟩
      · simp at h
    · simp at h
  · simp at h
/-- A row of the abstract state is only kept by its own limb. -/
theorem appendNil {C : Cx} (hT : TOK P C.T) (hg : Gam N w0 Pr X Z ρ st a w) (d : Nat) (hd : st.os d = none) (hdl : d < 100000) {t ty e : TypeId} {i ie : TI} (hi : C.T t = some i) (hk : i.kind = .slice e) (hie : C.T e = some ie) (hpos : 0 < ie.size) {x : V} {rows2 : List (List D)} (h2 : argRows st.os ie.size x = some rows2) {u : Value} (hu : G (Bk X st.os ρ w) w ρ (Lv st.os) x u)
    (hb1 : rows2.length * ie.bytes ≤ 140737488355328) (hb2 : rows2.length ≤ 9223372036854775807) :
    ∃ v' w', (Builtin.append_ #[t, t] ty #[.slice none 0 0, u]).run P w = .ok v' w' ∧ Out N w0 Pr X Z { st with os := upd st.os d (some (.row rows2 ie.size e)) } a (.row d) v' w' := by
  obtain ⟨j, dd, z, hj, hdd, hs, hby, _, _, hz, _, hzs, _⟩ := hT.facts hie
  have ht := slice_facts hT hi hk
  have key : ∃ v' w' news, (Builtin.append_ #[t, t] ty #[.slice none 0 0, u]).run P w = .ok v' w' ∧ w'.ownsRow 0 e j.size v' rows2.length news ∧ w.grownBy w' none ∧ (∀ b, blockOf v' = some b → w.heap.size ≤ b) ∧ rowOk (Bk X st.os ρ w) w rows2 ie.size news := by
    obtain ⟨A, c, rfl, hm2, hA⟩ := argRows_spec hg h2 hu
    rcases hA with ⟨rfl, rfl, rfl⟩ | ⟨ad, rfl, hc⟩
    · refine ⟨.slice none 0 0, w, [], ?_, World.ownsRow_nil _ _ _ _, ⟨rfl, rfl, rfl, Nat.le_refl _, fun _ _ _ => rfl⟩, fun b e => by simp [blockOf] at e, ⟨fun q h => by simp at h, fun q h => by simp at h⟩⟩
      exact run_append_owned_none (P := P) w 0 t ty e j j.size ht hj (.slice none 0 0) 0 [] (World.ownsRow_nil _ _ _ _)
    · have hnews : ∃ news : List Value, news.length = rows2.length * ie.size ∧ (∀ j u, news[j]? = some u → w.cell? (ad.add j) = some u) ∧ rowOk (Bk X st.os ρ w) w rows2 ie.size news ∧ ∀ u ∈ news, u.oneCell' = true := by
        by_cases hne : rows2 = []
        · subst hne
          exact ⟨[], by simp, by simp, ⟨fun q h => by simp at h, fun q h => by simp at h⟩, by simp⟩
        · obtain ⟨b, off, hbo, hc2⟩ := hc hne
          subst hbo
          exact data_cells hm2 hc2
      obtain ⟨news, hl, hn, hr, h1⟩ := hnews
      obtain ⟨v', w', hr1, hr2, hr3, hr4⟩ := append_own (P := P) t ty e j z ht hj hz (by rw [hzs, hs]) (by rw [hs]; exact hpos) (.slice none 0 0) 0 [] (World.ownsRow_nil _ _ _ _) ad rows2.length c news (by rw [hl, hs]) hn h1 (by simp only [maxLen]; omega) (by rw [hby]; simpa using hb1)
      refine ⟨v', w', news, hr1, by simpa using hr2, hr3, fun b e => ?_, hr⟩
      rcases hr4 b e with e2 | e2
      · simp [blockOf] at e2
      · exact e2
  obtain ⟨v', w', news, hr1, hr2, hr3, hr4, hr5⟩ := key
  have hm : More w w' := ⟨hr3.size, fun b hb => hr3.block b hb (by simp), hr3.os, hr3.tape, hr3.output⟩
  refine ⟨v', w', hr1, upd ρ d v', hg.newObj hm d hd hdl v' _ (ownsRow_one hr2) hr4 ?_, ?_⟩
  · refine ⟨news, by rw [upd_same, ← hs]; exact hr2, hr5.mono (fun b hb => ⟨⟨Nat.lt_of_lt_of_le hb.1.1 hm.size, hb.1.2⟩, fun o ho e2 => ?_⟩) (fun b hb => hm.block b hb.1.1)⟩
    by_cases c : o = d
    · subst c
      rw [upd_same] at e2
      have := hr4 b e2
      have := hb.1.1
      omega
    · rw [upd_ne _ _ c] at ho e2
      exact hb.2 o ho e2
  · rw [G]
    exact ⟨by simp [Lv, upd_same], (upd_same _ _ _).symm⟩
theorem appV_run {C : Cx} (hT : TOK P C.T) (hg : Gam N w0 Pr X Z ρ st a w) {d : Nat} {t ty : TypeId} {so xo : Operand} {p : Prop} {r : V} {st' : St} (h : appV C st d t so xo = some (p, r, st')) (hdl : d < 100000) (hp : p) :
    ∃ v' w', (Builtin.append_ #[t, t] ty #[a.eval so, a.eval xo]).run P w = .ok v' w' ∧ Out N w0 Pr X Z st' a r v' w' := by
  have hs := ev_G hg so
  unfold appV at h
  split at h
  · rename_i i hi
    split at h
    · rename_i e hk
      split at h
      · rename_i ie hie
        split at h
        · rename_i hpos
          split at h
          · rename_i o hso
            rw [hso] at hs
            split at h
            · rename_i rows m e' ho
              split at h
              · rename_i hc
                obtain ⟨rfl, rfl⟩ := hc
                obtain ⟨rows2, h2, e2⟩ := Option.map_eq_some_iff.1 h
                simp only [Prod.mk.injEq] at e2
                obtain ⟨rfl, rfl, rfl⟩ := e2
                rw [G] at hs
                rw [hs.2]
                exact appendRow hT hg hi hk hie hpos ho rfl rfl (argRows_spec hg h2 (ev_G hg xo)) hp.1 hp.2
              · simp at h
            · simp at h
          · rename_i hso
            rw [hso] at hs
            obtain ⟨rows2, h2, e2⟩ := Option.map_eq_some_iff.1 h
            simp only [Prod.mk.injEq] at e2
            obtain ⟨rfl, rfl, rfl⟩ := e2
            rw [G] at hs
            rw [hs]
            obtain ⟨hg', hd'⟩ := hg.fresh d hdl
            exact appendNil hT hg' d hd' hdl hi hk hie hpos h2 (ev_G hg' xo) hp.1 hp.2
          · simp at h
        · simp at h
      · simp at h
    · simp at h
  · simp at h
theorem getElem_rowsD (m len : Nat) (ds : List D) (i : Nat) (h : i < (rowsD m len ds).length) : (rowsD m len ds)[i] = (ds.drop (i * m)).take m := by simp [rowsD]
theorem rowsD_ok {B : Nat → Prop} {m len : Nat} {ds : List D} {vs : List Value} (hl : ds.length = len * m) (hv : ds.length = vs.length ∧ ∀ i (h : i < ds.length) (h2 : i < vs.length), Rd B w ds[i] vs[i]) : rowOk B w (rowsD m len ds) m vs := by
  have hrl : (rowsD m len ds).length = len := by simp [rowsD]
  have bound : ∀ i, i < len → i * m + m ≤ ds.length := fun i hi => by rw [hl, ← Nat.succ_mul]; exact Nat.mul_le_mul_right _ hi
  refine ⟨fun i hi => ?_, fun i hi j hj => ?_⟩
  · rw [getElem_rowsD, List.length_take, List.length_drop]
    have := bound i (by omega)
    omega
  · have hb := bound i (by omega)
    have e := getElem_rowsD m len ds i hi
    have hj' : j < m := by rw [e, List.length_take] at hj; omega
    refine ⟨vs[i * m + j]'(by omega), List.getElem?_eq_getElem _, ?_⟩
    have e2 : ((rowsD m len ds)[i])[j] = ds[i * m + j]'(by omega) := by
      simp only [e]
      rw [List.getElem_take, List.getElem_drop]
    rw [e2]
    exact hv.2 _ _ _
end
end Go.Proofs.YtgnnakibcjonbaaGreatDoor.VE

/- The evaluator: any operation is carried out soundly. -/
namespace Go.Proofs.YtgnnakibcjonbaaGreatDoor.VE
open Go Go.RowKit
set_option linter.unusedVariables false
set_option linter.unusedSimpArgs false
section
variable {P : Program} {N : Nat} {w0 : World} {Pr X : Nat → Prop} {Z : Nat → Option Value} {ρ : Nat → Value} {st : St} {a : Act} {w : World} {Q : Exit → Act → World → Prop}
theorem getBang_mod (xs : List Value) (q : Nat) (h : xs.length ≠ 0) : xs.toArray[q % xs.length]! = xs[q % xs.length]'(Nat.mod_lt _ (by omega)) := by
  have : q % xs.length < xs.length := Nat.mod_lt _ (by omega)
  simp [this]
/-- Zero cells, as often as wanted. -/
theorem zeros_Gs {B : Nat → Prop} {L : Nat → Prop} {zero : List V} {z : Array Value} (hz : Gs B w ρ L zero z.toList) (hz1 : ∀ u ∈ z.toList, u.oneCell' = true) {m : Nat} (hm : zero.length = m) (hpos : 0 < m) (k : Nat) :
    ∃ vs : List Value, (Array.range k).map (z[· % z.size]!) = vs.toArray ∧ Gs B w ρ L ((List.range k).map fun q => zero.getD (q % m) .top) vs ∧ ∀ u ∈ vs, u.oneCell' = true := by
  have hzs : z.size = m := by rw [← hm, ← hz.1]; simp
  refine ⟨(List.range k).map fun q => z.toList.getD (q % m) undef, ?_, ⟨by simp, fun i h1 h2 => ?_⟩, fun u hu => ?_⟩
  · apply Array.ext'
    simp only [Array.toList_map, Array.toList_range, List.toList_toArray]
    apply List.map_congr_left
    intro q _
    have : q % m < z.size := by rw [hzs]; exact Nat.mod_lt _ hpos
    rw [hzs]
    simp [this, List.getD_eq_getElem?_getD]
  · simp only [List.getElem_map, List.getElem_range]
    have hlt : i % m < zero.length := by rw [hm]; exact Nat.mod_lt _ hpos
    have hlt2 : i % m < z.toList.length := by rw [hz.1]; exact hlt
    rw [List.getD_eq_getElem?_getD, List.getD_eq_getElem?_getD, List.getElem?_eq_getElem hlt, List.getElem?_eq_getElem hlt2]
    exact hz.2 _ _ _
  · rw [List.mem_map] at hu
    obtain ⟨q, _, rfl⟩ := hu
    have hlt2 : q % m < z.toList.length := by rw [hz.1, hm]; exact Nat.mod_lt _ hpos
    rw [List.getD_eq_getElem?_getD, List.getElem?_eq_getElem hlt2]
    exact hz1 _ (List.getElem_mem _)
theorem evp_Gs (hg : Gam N w0 Pr X Z ρ st a w) (xs : List (Nat × Operand)) : (xs.map fun p => (p.1, a.eval p.2)).map (·.1) = (xs.map fun p => (p.1, ev st.env p.2)).map (·.1) ∧ Gs (Bk X st.os ρ w) w ρ (Lv st.os) ((xs.map fun p => (p.1, ev st.env p.2)).map (·.2)) ((xs.map fun p => (p.1, a.eval p.2)).map (·.2)) := by
  refine ⟨by simp, by simp, fun i h1 h2 => ?_⟩
  simp only [List.map_map, List.getElem_map, Function.comp]
  exact ev_G hg _
theorem parts_map (a : Act) (parts : Array (Nat × Operand)) : (parts.map fun (i, x) => (i, a.eval x)).toList = parts.toList.map fun p => (p.1, a.eval p.2) := by simp
theorem litV_run {C : Cx} (hT : TOK P C.T) (hg : Gam N w0 Pr X Z ρ st a w) {dst : Nat} {t : TypeId} {len : Nat} {parts : Array (Nat × Operand)} {p : Prop} {r : V} {st' : St} (h : litV C st dst t len parts.toList = some (p, r, st')) (hdl : dst < 100000) :
    ∃ z w', (Instr.buildSlice t len (parts.map fun (i, x) => (i, a.eval x))).run P w = .ok z w' ∧ Out N w0 Pr X Z st' a r z w' := by
  unfold litV at h
  split at h
  · rename_i i hi
    split at h
    · rename_i e hk
      have ht := slice_facts hT hi hk
      split at h
      · rename_i ie hie
        obtain ⟨j, d, z, hj, hd, hs, _, _, _, hz, hzb, hzs, hz1⟩ := hT.facts hie
        split at h
        · rename_i h0
          subst h0
          split at h
          · rename_i hp0
            simp only [Option.some.injEq, Prod.mk.injEq] at h
            obtain ⟨rfl, rfl, rfl⟩ := h
            have hpe : parts = #[] := by cases parts; simp at hp0; simp [hp0]
            subst hpe
            obtain ⟨hgf, hdf⟩ := hg.fresh dst hdl
            have hr := newRowObj hgf dst hdf hdl (rows := []) (m := ie.size) (cap := 0) (e := e) (cur := #[]) (Nat.le_refl _) (Nat.zero_le _) (by simp) ⟨fun i h => by simp at h, fun i h => by simp at h⟩
            refine ⟨_, _, ?_, hr⟩
            have e0 : (Array.map (fun x => (default : Value)) (Array.range 0)) = #[] := Array.ext' (by simp)
            simp [Instr.buildSlice, run_und ht, run_siz hj, Instr.fill, newRow]
            rw [e0]
          · simp at h
        · rename_i hne
          split at h
          · rename_i hc
            obtain ⟨hc1, hpos⟩ := hc
            have hdl0 := hdl
            split at h
            · rename_i hint
              split at h
              · rename_i cs hcs
                obtain ⟨ds, hds, e2⟩ := Option.map_eq_some_iff.1 h
                simp only [Prod.mk.injEq] at e2
                obtain ⟨rfl, rfl, rfl⟩ := e2
                obtain ⟨hg', hdf⟩ := (frzAll_Gam (rowsOf (parts.toList.map fun p => ev st.env p.2)) hg).fresh dst hdl0
                have hzl : ie.zero.length = ie.size := by
                  have := (zeroB_Gs (B := fun _ => False) (w := w) (ρ := ρ) (L := fun _ => False) hzb).1
                  rw [← this]; simpa using hzs
                obtain ⟨zs, e3, hzs2, hz2⟩ := zeros_Gs (w := w) (ρ := ρ) (B := Bk X (fresh (frzAll st (rowsOf (parts.toList.map fun p => ev st.env p.2))) dst).os ρ w) (L := Lv (fresh (frzAll st (rowsOf (parts.toList.map fun p => ev st.env p.2))) dst).os) (zeroB_Gs hzb) hz1 hzl hpos (len * ie.size)
                obtain ⟨hi1, hi2⟩ := evp_Gs hg' parts.toList
                obtain ⟨ws, e4, hws, _⟩ := fillV_run hg'.one (fun q => some (q * ie.size, ie.size)) _ _ _ _ _ hzs2 hz2 hi1 hi2 hcs
                have hd := toDs_Rd hws hds
                have hdl : ds.length = len * ie.size := by
                  have hk1 : ∀ (xs : List (Nat × V)) (cs rs : List V), fillV (fun q => some (q * ie.size, ie.size)) cs xs = some rs → rs.length = cs.length := by
                    intro xs
                    induction xs with
                    | nil => intro cs rs h; simp only [fillV, Option.some.injEq] at h; rw [h]
                    | cons x xs ih =>
                      intro cs rs h
                      obtain ⟨q, x⟩ := x
                      simp only [fillV] at h
                      split at h
                      · split at h
                        · rename_i off sz ys e5 _ hc3
                          rw [ih _ _ h, putL_length _ _ _ (by omega)]
                        · simp at h
                      · simp at h
                  have := hk1 _ _ _ hcs
                  rw [hd.1, hws.1, this]; simp
                have hrow := rowsD_ok (w := w) (len := len) hdl hd
                have hrl : (rowsD ie.size len ds).length = len := by simp [rowsD]
                have hrun := run_buildSlice (P := P) w t e len (parts.map fun (i, x) => (i, a.eval x)) ws.toArray j z ht hj hz (by rw [hs]; omega) (by rw [hs]; have := Nat.mul_pos (Nat.pos_of_ne_zero hne) hpos; omega) (by
                  rw [parts_map, hs, ← e4, ← e3])
                have hmx : len ≤ maxLen := by simp only [maxLen]; have := Nat.le_mul_of_pos_right len hpos; omega
                have hwl : ws.toArray.size = len * ie.size := by simp only [List.size_toArray]; rw [← hd.1, hdl]
                have hnew := newRowObj hg' dst hdf hdl0 (rows := rowsD ie.size len ds) (m := ie.size) (cap := len) (e := e) (cur := ws.toArray) (by omega) hmx hwl (by
                  rw [hrl, List.take_of_length_le (by have := hwl; simp only [List.size_toArray] at this; simp only [List.toList_toArray]; omega)]
                  exact hrow)
                rw [hrl] at hnew
                exact ⟨_, _, hrun, hnew⟩
              · simp at h
            · rename_i hint
              split at h
              · rename_i cs hcs
                obtain ⟨ds, hds, e2⟩ := Option.map_eq_some_iff.1 h
                simp only [Prod.mk.injEq] at e2
                obtain ⟨rfl, rfl, rfl⟩ := e2
                have hg' := frzAll_Gam (rowsOf (parts.toList.map fun p => ev st.env p.2)) hg
                have hzl : ie.zero.length = ie.size := by
                  have := (zeroB_Gs (B := fun _ => False) (w := w) (ρ := ρ) (L := fun _ => False) hzb).1
                  rw [← this]; simpa using hzs
                obtain ⟨zs, e3, hzs2, hz2⟩ := zeros_Gs (w := w) (ρ := ρ) (B := Bk X (frzAll st (rowsOf (parts.toList.map fun p => ev st.env p.2))).os ρ w) (L := Lv (frzAll st (rowsOf (parts.toList.map fun p => ev st.env p.2))).os) (zeroB_Gs hzb) hz1 hzl hpos (len * ie.size)
                obtain ⟨hi1, hi2⟩ := evp_Gs hg' parts.toList
                obtain ⟨ws, e4, hws, _⟩ := fillV_run hg'.one (fun q => some (q * ie.size, ie.size)) _ _ _ _ _ hzs2 hz2 hi1 hi2 hcs
                have hd := toDs_Rd hws hds
                have hdl : ds.length = len * ie.size := by
                  have hk1 : ∀ (xs : List (Nat × V)) (cs rs : List V), fillV (fun q => some (q * ie.size, ie.size)) cs xs = some rs → rs.length = cs.length := by
                    intro xs
                    induction xs with
                    | nil => intro cs rs h; simp only [fillV, Option.some.injEq] at h; rw [h]
                    | cons x xs ih =>
                      intro cs rs h
                      obtain ⟨q, x⟩ := x
                      simp only [fillV] at h
                      split at h
                      · split at h
                        · rename_i off sz ys e5 _ hc3
                          rw [ih _ _ h, putL_length _ _ _ (by omega)]
                        · simp at h
                      · simp at h
                  have := hk1 _ _ _ hcs
                  rw [hd.1, hws.1, this]; simp
                have hrow := rowsD_ok (w := w) (len := len) hdl hd
                have hrl : (rowsD ie.size len ds).length = len := by simp [rowsD]
                have hrun := run_buildSlice (P := P) w t e len (parts.map fun (i, x) => (i, a.eval x)) ws.toArray j z ht hj hz (by rw [hs]; omega) (by rw [hs]; have := Nat.mul_pos (Nat.pos_of_ne_zero hne) hpos; omega) (by
                  rw [parts_map, hs, ← e4, ← e3])
                have hnew := newData hg' (rows := rowsD ie.size len ds) (m := ie.size) (cap := len) (e := e) (cur := ws.toArray) (fr := (0, 0)) (w' := w.alloc (.cells ws.toArray e)) ⟨by simp, fun b hb => Below.heap_alloc _ _ _ hb, rfl, rfl, rfl⟩ (heap_alloc_new w _) (by omega) (by simp only [maxLen]; have := Nat.le_mul_of_pos_right len hpos; omega) hrow
                rw [hrl] at hnew
                exact ⟨_, _, hrun, ρ, hnew.1, hnew.2⟩
              · simp at h
          · simp at h
      · simp at h
    · simp at h
  · simp at h
theorem makeV_run {C : Cx} (hT : TOK P C.T) (hg : Gam N w0 Pr X Z ρ st a w) {dst : Nat} {t : TypeId} {l c : V} {p : Prop} {r : V} {st' : St} (h : makeV C st dst t l c = some (p, r, st')) (hdl : dst < 100000) (hp : p) {u v : Value} (hu : G (Bk X st.os ρ w) w ρ (Lv st.os) l u) (hv : G (Bk X st.os ρ w) w ρ (Lv st.os) c v) :
    ∃ z w', (Instr.makeSlice t u v).run P w = .ok z w' ∧ Out N w0 Pr X Z st' a r z w' := by
  unfold makeV at h
  split at h
  · rename_i k n k' n'
    rw [Rd.int hu, Rd.int hv]
    split at h
    · rename_i i hi
      split at h
      · rename_i e hk
        have ht := slice_facts hT hi hk
        split at h
        · rename_i ie hie
          obtain ⟨j, d, z, hj, hd, hs, hby, _, _, hz, hzb, hzs, hz1⟩ := hT.facts hie
          obtain ⟨zd, hzd, e2⟩ := Option.map_eq_some_iff.1 h
          simp only [Prod.mk.injEq] at e2
          obtain ⟨rfl, rfl, rfl⟩ := e2
          obtain ⟨h0, h1, h2, h3⟩ := hp
          have hrun := run_make (P := P) w t e j z ht hj hz k k' n n' h0 h1 (by rw [hby]; exact h2) h3
          have hzd2 := toDs_Rd (zeroB_Gs (B := Bk X st.os ρ w) (w := w) (ρ := ρ) (L := Lv st.os) hzb) hzd
          have hzl : zd.length = ie.size := by rw [hzd2.1]; simpa using hzs
          have hcells : (madeCells z.cells (n'.toNat * j.size)).size = n'.toNat * ie.size := by rw [size_madeCells, hs]
          have hn1 : n.toNat ≤ n'.toNat := by omega
          have hnm : n.toNat * ie.size ≤ n'.toNat * ie.size := Nat.mul_le_mul_right _ hn1
          obtain ⟨hgf, hdf⟩ := hg.fresh dst hdl
          have hzd3 := toDs_Rd (zeroB_Gs (B := Bk X (fresh st dst).os ρ w) (w := w) (ρ := ρ) (L := Lv (fresh st dst).os) hzb) hzd
          have hnew := newRowObj hgf dst hdf hdl (rows := List.replicate n.toNat zd) (m := ie.size) (cap := n'.toNat) (e := e) (cur := madeCells z.cells (n'.toNat * j.size)) (by simp; omega) (by simp only [maxLen]; omega) hcells (by
            refine ⟨fun q hq => by simp [hzl], fun q hq c hc => ?_⟩
            simp only [List.getElem_replicate] at hc ⊢
            simp only [List.length_replicate] at hq
            have hqc : q * ie.size + c < n.toNat * ie.size := by
              have : q * ie.size + ie.size ≤ n.toNat * ie.size := by rw [← Nat.succ_mul]; exact Nat.mul_le_mul_right _ hq
              omega
            have hcz : c < z.cells.toList.length := by omega
            refine ⟨z.cells.toList[c], ?_, hzd3.2 c hc hcz⟩
            rw [List.length_replicate, List.getElem?_take, if_pos hqc, Array.getElem?_toList]
            have hmod : (q * ie.size + c) % ie.size = c := by rw [Nat.mul_comm, Nat.mul_add_mod, Nat.mod_eq_of_lt (by omega)]
            have hlt : q * ie.size + c < n'.toNat * j.size := by rw [hs]; omega
            have hcs : c < z.cells.size := by omega
            simp [madeCells, hlt, hzs, hmod, hcs]
            exact getElem!_pos z.cells c hcs)
          rw [List.length_replicate] at hnew
          exact ⟨_, _, hrun, hnew⟩
        · simp at h
      · simp at h
    · simp at h
  · simp at h
theorem step_run {C : Cx} (hT : TOK P C.T) (hΓ : COk P C) (hg : Gam N w0 Pr X Z ρ st a w) {o : Oper} {d : Nat} {p : Prop} {r : V} {st' : St} (h : stepV C st d o.op = some (p, r, st')) (hdl : d < 100000) (hp : p) : o.wp P a w (Leaves N w0 Pr X Z a o r st') Q := by
  have E := fun x => ev_G hg x
  unfold stepV at h
  split at h
  · rename_i p' v' hv
    simp only [Option.some.injEq, Prod.mk.injEq] at h
    obtain ⟨rfl, rfl, rfl⟩ := h
    obtain ⟨z, hz, hr⟩ := val_run hT hg hv hp
    exact wp_value hz ⟨ρ, hg, hr⟩
  · obtain ⟨dst, op, ty, pos, after, guard⟩ := o
    simp only at h
    rename_i hval
    clear hval
    unfold act at h
    split at h
    · rename_i e
      split at h
      · rename_i i hi
        simp only [Option.some.injEq, Prod.mk.injEq] at h
        obtain ⟨rfl, rfl, rfl⟩ := h
        obtain ⟨j, dd, z, hj, hd, hs, _, _, _, hz, hzb, hzs, hz1⟩ := hT.facts hi
        obtain ⟨hgf, hdf⟩ := hg.fresh d hdl
        have hb := newBox hgf d hdf hdl (zeroB_Gs hzb) hz1 e
        exact wp_value (z := .pointer (some ⟨w.heap.size, 0, none⟩)) (w' := w.alloc (.cells z.cells e)) (by simp [execOp, Instr.alloc, zeroValue, run_inf hj, hz, newVar, newRow]) (by simpa using hb)
      · simp at h
    · rename_i e x
      split at h
      · rename_i cs hcs
        simp only [Option.some.injEq, Prod.mk.injEq] at h
        obtain ⟨rfl, rfl, rfl⟩ := h
        obtain ⟨hgf, hdf⟩ := hg.fresh d hdl
        obtain ⟨vs, hvs, hg2, h1⟩ := flat_cells (ev_G hgf x) hcs hgf.one
        exact wp_value (z := .pointer (some ⟨w.heap.size, 0, none⟩)) (w' := w.alloc (.cells vs.toArray e)) (by simp [execOp, Instr.box, newVar, newRow, hvs]) (newBox hgf d hdf hdl hg2 h1 e)
      · simp at h
    · rename_i t x y
      obtain ⟨rfl, w', hr, hg'⟩ := storeV_run hT hg h hp (E x) (E y)
      exact wp_skip' (by simp [execOp, hr]) ⟨ρ, hg'⟩
    · rename_i t parts
      obtain ⟨v, hv, e2⟩ := Option.map_eq_some_iff.1 h
      simp only [Prod.mk.injEq] at e2
      obtain ⟨rfl, rfl, rfl⟩ := e2
      obtain ⟨z, hz, hr⟩ := buildV_run hT hg hv
      exact wp_value (by simp only [execOp]; simp [hz]) ⟨ρ, hg, hr⟩
    · rename_i t len parts
      obtain ⟨z, w', hz, hr⟩ := litV_run hT hg h hdl
      exact wp_value (by simp only [execOp]; simp [hz]) hr
    · rename_i t l c
      obtain ⟨z, w', hz, hr⟩ := makeV_run hT hg h hdl hp (E l) (E c)
      exact wp_value (by simp only [execOp]; simp [hz]) hr
    · rename_i t x
      obtain ⟨z, w', hz, hr⟩ := rangeV_run hT hg hdl h (E x)
      exact wp_value (by simp only [execOp]; simp [hz]) hr
    · rename_i x
      obtain ⟨z, w', hz, hr⟩ := nextV_run (P := P) hg h ty (E x)
      exact wp_value (by simp only [execOp]; simp [hz]) hr
    · rename_i t
      simp only [Option.some.injEq, Prod.mk.injEq] at h
      obtain ⟨rfl, rfl, rfl⟩ := h
      obtain ⟨hgf, hdf⟩ := hg.fresh d hdl
      exact wp_value (z := .map (some w.heap.size)) (w' := w.alloc (.map #[] 0)) (by simp only [execOp]; simp [run_makeMap]) (newRaw hgf d hdf hdl (.map []) (.map #[] 0) _ rfl rfl ⟨⟨_, rfl⟩, _, _, rfl, rfl, rfl⟩)
    · rename_i t m k x
      obtain ⟨rfl, w', hr, hg'⟩ := mapUpV_run hT hg h (E m) (E k) (E x)
      exact wp_skip' (by simp [execOp, hr]) ⟨ρ, hg'⟩
    · rename_i t m k ok
      obtain ⟨⟨p', v'⟩, hv, e2⟩ := Option.map_eq_some_iff.1 h
      simp only [Prod.mk.injEq] at e2
      obtain ⟨rfl, rfl, rfl⟩ := e2
      obtain ⟨z, hz, hr⟩ := lookV_run hT hg hv (E m) (E k)
      exact wp_value (by simp only [execOp]; simp [hz]) ⟨ρ, hg, hr⟩
    · rename_i s dt x
      split at h
      · rename_i b hx
        split at h
        · rename_i h8
          split at h
          · rename_i i hi
            simp only [Option.some.injEq, Prod.mk.injEq] at h
            obtain ⟨rfl, rfl, rfl⟩ := h
            obtain ⟨ds, hds⟩ := und_facts hT hi
            obtain ⟨e, he1, he2⟩ := isU8_facts hT h8
            have hu := E x
            rw [hx] at hu
            have hu := Rd.str hu
            have hrun := Lib.run_convert_string_bytes (P := P) w s dt e b hds he1 he2
            have hmore : More w (Lib.bytesWorld w e b) := ⟨by rw [Lib.bytesWorld_size]; omega, fun q hq => Lib.bytesWorld_at_old w e b q hq, rfl, rfl, rfl⟩
            have hrl : (strRows b).length = b.size := by simp [strRows]
            have hnew := newData hg (rows := strRows b) (m := 1) (cap := grownCap w b.size 0 e) hmore (Lib.bytesWorld_at_new w e b) (by rw [hrl]; exact grownCap_ge _ _ _ _) (grownCap_le_maxLen _ _ _ _ (by simp only [maxLen]; omega)) (by
              refine ⟨fun q hq => by simp [strRows], fun q hq c hc => ?_⟩
              have hq' : q < b.size := by rw [← hrl]; exact hq
              have hqd : q < b.data.toList.length := by simpa using hq'
              have e3 : (strRows b)[q] = [D.int .u8 ((b.data.toList[q]).toNat : Int)] := by simp [strRows]
              have hc0 : c = 0 := by rw [e3] at hc; simpa using hc
              subst hc0
              refine ⟨.int .u8 ((b.data.toList[q]).toNat : Int), ?_, ?_⟩
              · have hqs : q < b.data.size := by simpa using hqd
                simp [Lib.bytesCells, List.getElem?_append]
                rw [if_pos hq', Array.getElem?_eq_getElem hqs]
                rfl
              · simp only [e3]
                rw [List.getElem_cons_zero, Rd])
            rw [hrl] at hnew
            exact wp_value (by simp only [execOp]; simp [hu, hrun]) ⟨ρ, hnew.1, hnew.2⟩
          · simp at h
        · simp at h
      · simp at h
    · rename_i fo args ats
      split at h
      · split at h
        · rename_i q hq
          simp only [Option.some.injEq] at h
          subst h
          exact callV_run hΓ hg rfl rfl hq hp
        · exact callH_run (c := { callee := .value fo, args := args, argTypes := ats }) hΓ hg rfl rfl h hdl hp
      · cases h
    · rename_i args ats
      split at h
      · rename_i s x t t' hx ht
        split at h
        · rename_i htt
          subst htt
          have ha : args = #[s, x] := by cases args; simp_all
          have hts : ats = #[t', t'] := by cases ats; simp_all
          subst ha hts
          obtain ⟨z, w', hz, hr⟩ := appV_run (ty := ty) hT hg h hdl hp
          exact wp_value (by simp [execOp, resolve, invoke, builtin, hz]) hr
        · simp at h
      · simp at h
    · simp at h
end
end Go.Proofs.YtgnnakibcjonbaaGreatDoor.VE

/- The evaluator: regions. -/
namespace Go.Proofs.YtgnnakibcjonbaaGreatDoor.VE
open Go Go.RowKit
set_option linter.unusedVariables false
set_option linter.unusedSimpArgs false
def pcall (C : Cx) (st : St) (fo : Operand) (xs : List Operand) : Option (Prop × V) :=
  if (ev st.env fo :: xs.map (ev st.env)).all (ptrOk st.os) then (match calleeV (ev st.env fo) with
  | some (f, caps) =>
    if (xs.map (ev st.env) ++ caps).all V.pure then C.Γ f (xs.map (ev st.env) ++ caps)
    else match C.Γ f ((xs.map (ev st.env) ++ caps).map (asD st.os)) with
      | some (p, r) => if r.scal then some (p, r) else none
      | none => none
  | none => none) else none
/-- New data, which leaves the state as it is. -/
def actP (C : Cx) (st : St) : Op → Option (Prop × V)
  | .build t parts => (act C st 99999 (.build t parts)).map fun q => (q.1, q.2.1)
  | .buildSlice t len parts => if (rowsOf (parts.toList.map fun p => ev st.env p.2)).isEmpty && len != 0 then (act C st 99999 (.buildSlice t len parts)).map fun q => (q.1, q.2.1) else none
  | .convert s dt x => (act C st 99999 (.convert s dt x)).map fun q => (q.1, q.2.1)
  | _ => none
/-- An operation that leaves the state as it is but for its value. -/
def pureV (C : Cx) (st : St) (o : Op) : Option (Prop × V) :=
  match val C st o with
  | some q => some q
  | none => match o with
    | .call { callee := .value fo, args, .. } => pcall C st fo args.toList
    | o => actP C st o
def opT (x : Operand) (r : List Nat) : List Nat :=
  match x with
  | .tmp t => t :: r
  | _ => r
def optT (x : Option Operand) (r : List Nat) : List Nat :=
  match x with
  | some x => opT x r
  | none => r
def argsT : List Operand → List Nat
  | [] => []
  | x :: r => opT x (argsT r)
/-- The variables that an operation reads for certain. -/
def usedT : Op → List Nat
  | .move x => opT x []
  | .assign x => opT x []
  | .pick c _ _ => opT c []
  | .binOp _ _ x y _ => opT x (opT y [])
  | .unOp _ _ x => opT x []
  | .extract x _ => opT x []
  | .nilCheck x => opT x []
  | .fieldAddr _ x _ => opT x []
  | .field _ x _ => opT x []
  | .indexAddr _ x i => opT x (opT i [])
  | .index _ x i => opT x (opT i [])
  | .load _ x => opT x []
  | .slice _ x lo hi _ => opT x (optT lo (optT hi []))
  | .convert _ _ x => opT x []
  | .makeFunc _ _ caps => argsT caps.toList
  | .call { callee := .value f, args, .. } => opT f (argsT args.toList)
  | .call { callee := .builtin _, args, .. } => argsT args.toList
  | .store _ x y => opT x (opT y [])
  | _ => []
/-- Values that came under a guard, taken as being there; what must hold for it. -/
def stripP (env : Nat → V) : List Nat → Prop × (Nat → V)
  | [] => (True, env)
  | t :: r => match env t with
    | .whn q v => (q = true ∧ (stripP (upd env t v) r).1, (stripP (upd env t v) r).2)
    | _ => stripP env r
def strip (st : St) (op : Op) : St := ⟨(stripP st.env (usedT op)).2, st.os⟩
def stripC (st : St) (op : Op) : Prop := (stripP st.env (usedT op)).1
/-- Under a guard. -/
def pureG (C : Cx) (st : St) (op : Op) : Option (Prop × V) :=
  match pureV C (strip st op) op with
  | some (p, v) => some (stripC st op ∧ p, v)
  | none => none
/-- Whether an operation is wanted: always, or as a bool says. -/
def guardB (ops : Array Oper) (env : Nat → V) (o : Oper) : Option (Option Bool) :=
  match o.guard with
  | none => some none
  | some (j, want) => match (ops[j]?).bind (·.dst) with
    | none => none
    | some t => match env t with
      | .d (.bool b) => some (some (b == want))
      | .whn q (.d (.bool b)) => some (some (q && (b == want)))
      | _ => none
def putE (st : St) (d : Option Nat) (v : V) : St :=
  match d with
  | some t => { st with env := upd st.env t v }
  | none => st
/-- A slice is compared with nil: the answer is open, but where it is nil it is empty. -/
def nilR (e : Bool) (os : Nat → Option O) : V → Option (Bool × Prop × Prop)
  | .d (.sl _ rows) => some (e, rows = [], True)
  | .row o => match os o with
    | some (.row rows _ _) => some (e, rows = [], True)
    | _ => none
  | .nil => some (e, True, False)
  | _ => none
def nilQ (C : Cx) (st : St) : Op → Option (Bool × Prop × Prop)
  | .binOp .eql t x (.const (.slice none 0 0)) _ => match (C.T t).map (·.kind) with
    | some (TK.slice _) => nilR true st.os (ev st.env x)
    | _ => none
  | .binOp .neq t x (.const (.slice none 0 0)) _ => match (C.T t).map (·.kind) with
    | some (TK.slice _) => nilR false st.os (ev st.env x)
    | _ => none
  | _ => none
/-- The package-level variable is read. -/
def globQ (C : Cx) (env : Nat → V) : Op → Option (Prop × V)
  | .load t (.global g) => if g = gIx then (match C.T t with
    | some i => (takeV i.agg i.size [.d (.int .i64 C.gm.m)]).map fun v => (True, v)
    | none => none) else none
  | .call { callee := .value (.func f), args, .. } => C.gm.ext f (args.toList.map (ev env))
  | _ => none
/-- One operation, then what follows. -/
def opP (C : Cx) (ops : Array Oper) (o : Oper) (st : St) (K : St → Prop) : Prop :=
  match guardB ops st.env o with
  | some none => match globQ C st.env o.op with
    | some (p, v) => p ∧ K (putE st o.dst v)
    | none => match nilQ C st o.op with
    | some (e, q, q') => ∀ b : Bool, (b = true → q) → (b = false → q') → K (putE st o.dst (.d (.bool (b == e))))
    | none => match stepV C st (o.dst.getD 0) o.op with
      | some (p, v, st') => p ∧ K (putE st' o.dst v)
      | none => False
  | some (some b) => match pureG C st o.op with
    | some (p, v) => (b = true → p) ∧ K (putE st o.dst (.whn b v))
    | none => (b = true → stripC st o.op ∧ match stepV C (strip st o.op) (o.dst.getD 0) o.op with
      | some (p, v, st') => p ∧ K (putE st' o.dst v)
      | none => False) ∧ (b = false → K (putE st o.dst .top))
  | none => False
def runOps (C : Cx) (ops : Array Oper) : List Oper → St → (St → Prop) → Prop
  | [], st, K => K st
  | o :: r, st, K => opP C ops o st fun st' => runOps C ops r st' K
/-- Some state for which K holds is that of the frame and the world. -/
def Sat (N : Nat) (w0 : World) (Pr X : Nat → Prop) (Z : Nat → Option Value) (K : St → Prop) : Act → World → Prop := fun a w => ∃ st ρ, K st ∧ Gam N w0 Pr X Z ρ st a w
section
variable {P : Program} {N : Nat} {w0 : World} {Pr X : Nat → Prop} {Z : Nat → Option Value} {ρ : Nat → Value} {st : St} {a : Act} {w : World} {Q : Exit → Act → World → Prop}
theorem pcall_run {C : Cx} (hΓ : COk P C) (hg : Gam N w0 Pr X Z ρ st a w) {o : Oper} {c : Call} {fo : Operand} (ho : o.op = .call c) (hc : c.callee = .value fo) {p : Prop} {r : V} (h : pcall C st fo c.args.toList = some (p, r)) (hp : p) :
    o.wp P a w (Leaves N w0 Pr X Z a o r st) Q := by
  unfold pcall at h
  split at h
  · split at h
    · rename_i f caps hf
      split at h
      · exact wp_call hΓ hg ho hc hf hp (.inl h)
      · split at h
        · rename_i p' r' hq
          split at h
          · rename_i hs
            simp only [Option.some.injEq, Prod.mk.injEq] at h
            obtain ⟨rfl, rfl⟩ := h
            exact wp_call hΓ hg ho hc hf hp (.inr ⟨hq, hs⟩)
          · simp at h
        · simp at h
    · simp at h
  · cases h
theorem actP_act {C : Cx} {op : Op} {p : Prop} {r : V} (h : actP C st op = some (p, r)) : val C st op = none → act C st 99999 op = some (p, r, st) := by
  intro hv
  unfold actP at h
  split at h
  · obtain ⟨⟨p', v', s'⟩, hq, e⟩ := Option.map_eq_some_iff.1 h
    simp only [Prod.mk.injEq] at e
    obtain ⟨rfl, rfl⟩ := e
    rw [hq]
    simp only [act] at hq
    obtain ⟨v, _, e⟩ := Option.map_eq_some_iff.1 hq
    simp only [Prod.mk.injEq] at e
    rw [← e.2.2]
  · rename_i t len parts
    split at h
    · rename_i hc
      rw [Bool.and_eq_true, List.isEmpty_iff, bne_iff_ne] at hc
      obtain ⟨⟨p', v', s'⟩, hq, e⟩ := Option.map_eq_some_iff.1 h
      simp only [Prod.mk.injEq] at e
      obtain ⟨rfl, rfl⟩ := e
      rw [hq]
      simp only [act, litV, if_neg hc.2, hc.1, frzAll, hintR_99, Bool.false_eq_true, if_false] at hq
      split at hq
      · split at hq
        · split at hq
          · split at hq
            · split at hq
              · obtain ⟨v, _, e⟩ := Option.map_eq_some_iff.1 hq
                simp only [Prod.mk.injEq] at e
                rw [← e.2.2]
              · cases hq
            · cases hq
          · cases hq
        · cases hq
      · cases hq
    · cases h
  · obtain ⟨⟨p', v', s'⟩, hq, e⟩ := Option.map_eq_some_iff.1 h
    simp only [Prod.mk.injEq] at e
    obtain ⟨rfl, rfl⟩ := e
    rw [hq]
    simp only [act] at hq
    split at hq
    · split at hq
      · split at hq
        · simp only [Option.some.injEq, Prod.mk.injEq] at hq
          rw [← hq.2.2]
        · cases hq
      · cases hq
    · cases hq
  · cases h
theorem pureV_run {C : Cx} (hT : TOK P C.T) (hΓ : COk P C) (hg : Gam N w0 Pr X Z ρ st a w) {o : Oper} {p : Prop} {r : V} (h : pureV C st o.op = some (p, r)) (hp : p) : o.wp P a w (Leaves N w0 Pr X Z a o r st) Q := by
  unfold pureV at h
  split at h
  · rename_i q hq
    simp only [Option.some.injEq] at h
    subst h
    obtain ⟨z, hz, hr⟩ := val_run hT hg hq hp
    exact wp_value hz ⟨ρ, hg, hr⟩
  · rename_i hval
    obtain ⟨dst, op, ty, pos, after, guard⟩ := o
    simp only at h hval
    split at h
    · exact pcall_run hΓ hg rfl rfl h hp
    · exact step_run (d := 99999) hT hΓ hg (by simp only [stepV, hval]; exact actP_act h hval) (by omega) hp
theorem whn_iff {B : Nat → Prop} {L : Nat → Prop} {q : Bool} {v : V} {z : Value} (hq : q = true) : G B w ρ L (.whn q v) z ↔ G B w ρ L v z := by
  rw [G]
  exact ⟨fun h => h.1 hq, fun h => ⟨fun _ => h, fun e => by rw [hq] at e; cases e⟩⟩
theorem stripP_Gam : ∀ (l : List Nat) {env : Nat → V} {os : Nat → Option O}, (stripP env l).1 → (Gam N w0 Pr X Z ρ ⟨env, os⟩ a w ↔ Gam N w0 Pr X Z ρ ⟨(stripP env l).2, os⟩ a w)
  | [], env, os, _ => Iff.rfl
  | t :: r, env, os, h => by
    unfold stripP at h ⊢
    split at h
    · rename_i q v hv
      simp only [hv] at h ⊢
      refine Iff.trans ?_ (stripP_Gam r h.2)
      have env_iff : (∀ s, G (Bk X os ρ w) w ρ (Lv os) (env s) (a.tmps.getD s Go.undef)) ↔ ∀ s, G (Bk X os ρ w) w ρ (Lv os) (upd env t v s) (a.tmps.getD s Go.undef) := by
        refine forall_congr' fun s => ?_
        by_cases c : s = t
        · subst c
          rw [upd_same, hv]
          exact whn_iff h.1
        · rw [upd_ne _ _ c]
      exact ⟨fun g => ⟨g.defers, g.size, env_iff.1 g.env, g.obj, g.inj, g.one, g.keep, g.prot, g.low, g.grow, g.os', g.tape, g.output, g.hX, g.xo, g.fix, g.gp⟩, fun g => ⟨g.defers, g.size, env_iff.2 g.env, g.obj, g.inj, g.one, g.keep, g.prot, g.low, g.grow, g.os', g.tape, g.output, g.hX, g.xo, g.fix, g.gp⟩⟩
    · rename_i hne
      exact stripP_Gam r h
theorem strip_Gam {op : Op} (h : stripC st op) : Gam N w0 Pr X Z ρ st a w ↔ Gam N w0 Pr X Z ρ (strip st op) a w := stripP_Gam (usedT op) h
theorem pureG_run {C : Cx} (hT : TOK P C.T) (hΓ : COk P C) (hg : Gam N w0 Pr X Z ρ st a w) {o : Oper} {p : Prop} {r : V} (h : pureG C st o.op = some (p, r)) (hp : p) : o.wp P a w (Leaves N w0 Pr X Z a o r st) Q := by
  unfold pureG at h
  split at h
  · rename_i p' v hv
    simp only [Option.some.injEq, Prod.mk.injEq] at h
    obtain ⟨rfl, rfl⟩ := h
    refine Oper.wp_mono ?_ (pureV_run hT hΓ ((strip_Gam hp.1).1 hg) hv hp.2)
    rintro a' w' ⟨z, rfl, ρ', hg', hr⟩
    exact ⟨z, rfl, ρ', (strip_Gam hp.1).2 hg', hr⟩
  · simp at h
theorem Out.put {st' : St} {r : V} {z : Value} {w' : World} (h : Out N w0 Pr X Z st' a r z w') (d : Option Nat) (hd : ∀ t, d = some t → t < N) : ∃ ρ', Gam N w0 Pr X Z ρ' (putE st' d r) (a.put d z) w' := by
  obtain ⟨ρ', hg, hr⟩ := h
  cases d with
  | none => exact ⟨ρ', hg⟩
  | some t => exact ⟨ρ', hg.put t (hd t rfl) r z hr⟩
theorem yielded_at {ops : Array Oper} (hg : Gam N w0 Pr X Z ρ st a w) {j t : Nat} (hj : (ops[j]?).bind (·.dst) = some t) :
    (∀ b, st.env t = .d (.bool b) → yielded ops a.tmps j = some b) ∧ (∀ q b, st.env t = .whn q (.d (.bool b)) → yielded ops a.tmps j = if q then some b else none) := by
  have hv := hg.env t
  have look : ∀ b, a.tmps.getD t undef = .bool b → yielded ops a.tmps j = some b := fun b e => by
    have ht : t < a.tmps.size := by
      rcases Nat.lt_or_ge t a.tmps.size with c | c
      · exact c
      · simp [Array.getD_eq_getD_getElem?, Array.getElem?_eq_none c, undef] at e
    simp [Array.getD_eq_getD_getElem?, ht] at e
    simp [yielded, hj, ht, e]
  have no : a.tmps.getD t undef = undef → yielded ops a.tmps j = none := fun e => by
    unfold yielded
    rw [hj]
    simp only [Option.bind_some]
    cases ht : a.tmps[t]? with
    | none => rfl
    | some v =>
      simp [Array.getD_eq_getD_getElem?, ht] at e
      subst e
      rfl
  refine ⟨fun b e => ?_, fun q b e => ?_⟩
  · rw [e] at hv
    exact look b (Rd.bool hv)
  · rw [e, G] at hv
    cases q with
    | true => exact look b (Rd.bool (hv.1 rfl))
    | false => exact no (hv.2 rfl)
theorem guardB_run {ops : Array Oper} (hg : Gam N w0 Pr X Z ρ st a w) {o : Oper} {g : Option Bool} (h : guardB ops st.env o = some g) : Region.wanted o (yielded ops a.tmps) = g.getD true := by
  unfold guardB at h
  unfold Region.wanted
  split at h
  · rename_i e
    rw [e]
    simp only [Option.some.injEq] at h
    subst h
    rfl
  · rename_i j want e
    rw [e]
    split at h
    · simp at h
    · rename_i t ht
      obtain ⟨y1, y2⟩ := yielded_at hg ht
      split at h
      · rename_i b hb
        simp only [Option.some.injEq] at h
        subst h
        simp only [y1 b hb, Option.getD_some]
        cases b <;> cases want <;> rfl
      · rename_i q b hb
        simp only [Option.some.injEq] at h
        subst h
        simp only [y2 q b hb, Option.getD_some]
        cases q <;> cases b <;> cases want <;> rfl
      · simp at h
theorem nilR_spec (hg : Gam N w0 Pr X Z ρ st a w) {e e' : Bool} {x : V} {q q' : Prop} (h : nilR e st.os x = some (e', q, q')) {v : Value} (hv : G (Bk X st.os ρ w) w ρ (Lv st.os) x v) : e' = e ∧ ∃ A l c, v = .slice A l c ∧ (A.isNone = true → q) ∧ (A.isNone = false → q') := by
  unfold nilR at h
  split at h
  · rename_i m rows
    simp only [Option.some.injEq, Prod.mk.injEq] at h
    obtain ⟨rfl, rfl, rfl⟩ := h
    rw [G, Rd] at hv
    obtain ⟨A, c, e1, e2, e3, e4, e5, e6⟩ := hv
    refine ⟨rfl, A, _, c, e1, fun hn => ?_, fun _ => trivial⟩
    cases A with
    | some a => cases hn
    | none =>
      have := e4 rfl
      exact List.length_eq_zero_iff.1 (by omega)
  · rename_i o
    split at h
    · rename_i rows m e2 ho
      simp only [Option.some.injEq, Prod.mk.injEq] at h
      obtain ⟨rfl, rfl, rfl⟩ := h
      rw [G] at hv
      obtain ⟨xs, ⟨_, h2⟩, _⟩ := hg.obj o _ ho
      refine ⟨rfl, ?_⟩
      rcases h2 with ⟨h2, h3⟩ | ⟨g, cap, cur, h2, _⟩
      · exact ⟨none, 0, 0, by rw [hv.2, h2], fun _ => List.length_eq_zero_iff.1 h3, fun _ => trivial⟩
      · exact ⟨some ⟨g, 0, none⟩, rows.length, cap, by rw [hv.2, h2], (fun hn => by cases hn), fun _ => trivial⟩
    · cases h
  · simp only [Option.some.injEq, Prod.mk.injEq] at h
    obtain ⟨rfl, rfl, rfl⟩ := h
    rw [G] at hv
    exact ⟨rfl, none, 0, 0, hv, fun _ => trivial, (fun hn => by cases hn)⟩
  · cases h
theorem nilQ_run {C : Cx} (hT : TOK P C.T) (hg : Gam N w0 Pr X Z ρ st a w) {o : Oper} {e : Bool} {q q' : Prop} (h : nilQ C st o.op = some (e, q, q')) : ∃ b : Bool, (b = true → q) ∧ (b = false → q') ∧ o.wp P a w (Leaves N w0 Pr X Z a o (.d (.bool (b == e))) st) Q := by
  obtain ⟨dst, op, ty, ps, after, guard⟩ := o
  unfold nilQ at h
  simp only at h
  split at h
  · rename_i t x yt
    split at h
    · rename_i el hk
      obtain ⟨i, hi, hk⟩ := Option.map_eq_some_iff.1 hk
      obtain ⟨j, d, z, _, hd, _, _, _, hok, _⟩ := hT.facts hi
      rw [hk] at hok
      obtain ⟨el', rfl⟩ : ∃ el', d = .slice el' := by cases d <;> simp [TK.ok] at hok ⊢
      obtain ⟨rfl, A, l, c, hv, hA, hA'⟩ := nilR_spec hg h (ev_G hg x)
      refine ⟨A.isNone, hA, hA', wp_value (z := .bool (A.isNone)) (w' := w) ?_ ⟨ρ, hg, by rw [G, Rd]; simp⟩⟩
      have he : (Op.equal t (.slice A l c) (.slice none 0 0)).run P w = .ok A.isNone w := run_equal_slice_nil w t el' A l c hd
      have e2 : a.eval (.const (.slice none 0 0)) = .slice none 0 0 := rfl
      simp only [execOp, hv, e2]
      simp [eqGuard, binOp, he]
    · cases h
  · rename_i t x yt
    split at h
    · rename_i el hk
      obtain ⟨i, hi, hk⟩ := Option.map_eq_some_iff.1 hk
      obtain ⟨j, d, z, _, hd, _, _, _, hok, _⟩ := hT.facts hi
      rw [hk] at hok
      obtain ⟨el', rfl⟩ : ∃ el', d = .slice el' := by cases d <;> simp [TK.ok] at hok ⊢
      obtain ⟨rfl, A, l, c, hv, hA, hA'⟩ := nilR_spec hg h (ev_G hg x)
      refine ⟨A.isNone, hA, hA', wp_value (z := .bool (!A.isNone)) (w' := w) ?_ ⟨ρ, hg, by rw [G, Rd]; simp⟩⟩
      have he : (Op.equal t (.slice A l c) (.slice none 0 0)).run P w = .ok A.isNone w := run_equal_slice_nil w t el' A l c hd
      have e2 : a.eval (.const (.slice none 0 0)) = .slice none 0 0 := rfl
      simp only [execOp, hv, e2]
      simp [eqGuard, binOp, he]
    · cases h
  · cases h
theorem globQ_run {C : Cx} (hT : TOK P C.T) (hΓ : COk P C) (hm : GWm C.gm.m w0) (hg : Gam N w0 Pr X Z ρ st a w) {o : Oper} {p : Prop} {v : V} (h : globQ C st.env o.op = some (p, v)) (hp : p) : o.wp P a w (Leaves N w0 Pr X Z a o v st) Q := by
  obtain ⟨dst, op, ty, ps, after, guard⟩ := o
  unfold globQ at h
  simp only at h
  split at h
  · rename_i t g
    split at h
    · rename_i e
      subst e
      split at h
      · rename_i i hi
        obtain ⟨v', hv, e2⟩ := Option.map_eq_some_iff.1 h
        simp only [Prod.mk.injEq] at e2
        obtain ⟨rfl, rfl⟩ := e2
        obtain ⟨z, hz, hr⟩ := loadVar_run (P := P) (w := w) (B := Bk X st.os ρ w) (L := Lv st.os) (ρ := ρ) hT hi hv gIx 0 (fun j hj => by
          have hj0 : j = 0 := by simpa using hj
          subst hj0
          exact ⟨_, hg.gm hm, by rw [List.getElem_cons_zero, G, Rd]⟩)
        have e2 : a.eval (.global gIx) = .pointer (some ⟨gIx, 0, none⟩) := rfl
        exact wp_value (z := z) (w' := w) (by simp only [execOp, e2]; simp [hz]) ⟨ρ, hg, hr⟩
      · cases h
    · cases h
  · rename_i f args ats
    obtain ⟨z, hz, hr⟩ := hΓ.x f _ _ _ h w (Bk X st.os ρ w) ρ (Lv st.os) _ (fun b hb => hb.1.1) (hg.gm hm) hg.one (evs_Gs hg args.toList) hp
    refine wp_value (z := z) (w' := w) ?_ ⟨ρ, hg, hr⟩
    rw [← hz]
    have harr : (args.map a.eval) = (args.toList.map a.eval).toArray := Array.ext' (by simp)
    simp [execOp, resolve, Act.eval, Deferred.ofValue, invoke, harr]
  · cases h
/-- One operation of a region. -/
theorem opP_run {C : Cx} (hT : TOK P C.T) (hΓ : COk P C) (hm : GWm C.gm.m w0) (hg : Gam N w0 Pr X Z ρ st a w) {ops : Array Oper} {o : Oper} (hd : ∀ t, o.dst = some t → t < N) (hdl : o.dst.getD 0 < 100000) {K : St → Prop} (h : opP C ops o st K) :
    if Region.wanted o (yielded ops a.tmps) then o.wp P a w (Sat N w0 Pr X Z K) Q else Sat N w0 Pr X Z K (a.put o.dst undef) w := by
  have fin : ∀ {r : V} {st' : St}, K (putE st' o.dst r) → ∀ a' w', Leaves N w0 Pr X Z a o r st' a' w' → Sat N w0 Pr X Z K a' w' := by
    rintro r st' hk a' w' ⟨z, rfl, ho⟩
    obtain ⟨ρ', hg'⟩ := ho.put o.dst hd
    exact ⟨_, ρ', hk, hg'⟩
  unfold opP at h
  split at h
  · rename_i hgd
    rw [guardB_run hg hgd]
    simp only [Option.getD_none, if_true]
    split at h
    · rename_i p v hq
      exact Oper.wp_mono (fin h.2) (globQ_run hT hΓ hm hg hq h.1)
    split at h
    · rename_i e q q' hq
      obtain ⟨b, hb, hb', hw⟩ := nilQ_run (Q := Q) hT hg hq
      exact Oper.wp_mono (fin (h b hb hb')) hw
    split at h
    · rename_i p v st' hs
      exact Oper.wp_mono (fin h.2) (step_run hT hΓ hg hs hdl h.1)
    · exact h.elim
  · rename_i b hgd
    rw [guardB_run hg hgd]
    simp only [Option.getD_some]
    split at h
    · rename_i p v hv
      cases b with
      | true =>
        simp only [if_true]
        refine Oper.wp_mono ?_ (pureG_run hT hΓ hg hv (h.1 rfl))
        rintro a' w' ⟨z, rfl, ρ', hg', hr⟩
        obtain ⟨ρ2, hg2⟩ := Out.put (r := .whn true v) (st' := st) (z := z) ⟨ρ', hg', by rw [G]; exact ⟨fun _ => hr, fun e => by cases e⟩⟩ o.dst hd
        exact ⟨_, ρ2, h.2, hg2⟩
      | false =>
        simp only [Bool.false_eq_true, if_false]
        obtain ⟨ρ2, hg2⟩ := Out.put (r := .whn false v) (st' := st) (a := a) (w' := w) (z := undef) ⟨ρ, hg, by rw [G]; exact ⟨fun e => by (cases e), fun _ => rfl⟩⟩ o.dst hd
        exact ⟨_, ρ2, h.2, hg2⟩
    · cases b with
      | true =>
        simp only [if_true]
        obtain ⟨hc, h1⟩ := h.1 rfl
        split at h1
        · rename_i p v st' hs
          exact Oper.wp_mono (fin h1.2) (step_run hT hΓ ((strip_Gam hc).1 hg) hs hdl h1.1)
        · exact h1.elim
      | false =>
        simp only [Bool.false_eq_true, if_false]
        obtain ⟨ρ2, hg2⟩ := Out.put (r := .top) (st' := st) (a := a) (w' := w) (z := undef) ⟨ρ, hg, by rw [G]; trivial⟩ o.dst hd
        exact ⟨_, ρ2, h.2 rfl, hg2⟩
  · exact h.elim
def dstsOk (N : Nat) (ops : Array Oper) : Bool := decide (N ≤ 100000) && ops.all fun o => match o.dst with | some t => decide (t < N) | none => true
theorem dstsOk_spec {ops : Array Oper} (h : dstsOk N ops = true) {i : Nat} {o : Oper} (ho : ops[i]? = some o) : ∀ t, o.dst = some t → t < N := by
  intro t ht
  unfold dstsOk at h
  rw [Bool.and_eq_true] at h
  replace h := h.2
  rw [Array.all_eq_true_iff_forall_mem] at h
  have := h o (Array.mem_of_getElem? ho)
  rw [ht] at this
  simpa using this
theorem dstsOk_low {ops : Array Oper} (h : dstsOk N ops = true) {i : Nat} {o : Oper} (ho : ops[i]? = some o) : o.dst.getD 0 < 100000 := by
  have hN : N ≤ 100000 := by
    unfold dstsOk at h
    rw [Bool.and_eq_true, decide_eq_true_eq] at h
    exact h.1
  cases e : o.dst with
  | none => simp
  | some t => exact Nat.lt_of_lt_of_le (dstsOk_spec h ho t e) hN
theorem runOps_sound {C : Cx} (hT : TOK P C.T) (hΓ : COk P C) (hm : GWm C.gm.m w0) {ops : Array Oper} (hd : dstsOk N ops = true) {K : St → Prop} (hK : ∀ a w, Sat N w0 Pr X Z K a w → Q .normal a w) : ∀ (l : List Nat) (st : St) (ρ : Nat → Value) (a : Act) (w : World), (∀ i ∈ l, i < ops.size) → Gam N w0 Pr X Z ρ st a w → runOps C ops (l.filterMap (ops[·]?)) st K → wpOps P ops Q l a w
  | [], st, ρ, a, w, hl, hg, h => hK a w ⟨st, ρ, h, hg⟩
  | i :: r, st, ρ, a, w, hl, hg, h => by
    have hi : i < ops.size := hl i (by simp)
    have ho : ops[i]? = some ops[i] := Array.getElem?_eq_getElem hi
    rw [List.filterMap_cons, ho] at h
    have h1 := opP_run (Q := Q) hT hΓ hm hg (dstsOk_spec hd ho) (dstsOk_low hd ho) h
    have next : ∀ a' w', Sat N w0 Pr X Z (fun st' => runOps C ops (r.filterMap (ops[·]?)) st' K) a' w' → wpOps P ops Q r a' w' := by
      rintro a' w' ⟨st', ρ', h2, hg'⟩
      exact runOps_sound hT hΓ hm hd hK r st' ρ' a' w' (fun j hj => hl j (by simp [hj])) hg' h2
    simp only [wpOps, ho]
    split
    · rename_i hw
      rw [if_pos hw] at h1
      exact .inl (Oper.wp_mono next h1)
    · rename_i hw
      rw [if_neg hw] at h1
      exact next _ _ h1
theorem range_all (ops : Array Oper) : (List.range ops.size).filterMap (ops[·]?) = ops.toList := by
  have key : ∀ n, n ≤ ops.size → (List.range n).filterMap (ops[·]?) = ops.toList.take n := by
    intro n
    induction n with
    | zero => intro _; rfl
    | succ n ih =>
      intro hn
      have hlt : n < ops.toList.length := by rw [Array.length_toList]; omega
      rw [List.range_succ, List.filterMap_append, ih (by omega), List.take_succ_eq_append_getElem hlt]
      simp [Array.getElem?_eq_getElem (show n < ops.size by omega)]
  rw [key ops.size (Nat.le_refl _), List.take_of_length_le (by simp)]
theorem region_sound {C : Cx} (hT : TOK P C.T) (hΓ : COk P C) (hm : GWm C.gm.m w0) {ops : Array Oper} (hd : dstsOk N ops = true) {K : St → Prop} (hK : ∀ a w, Sat N w0 Pr X Z K a w → Q .normal a w) (hg : Gam N w0 Pr X Z ρ st a w) {id : Nat} (h : runOps C ops ops.toList st K) :
    (Code.region id ops false).wp P Q a w :=
  wp_region (runOps_sound hT hΓ hm hd hK (List.range ops.size) st ρ a w (fun i hi => List.mem_range.1 hi) hg (by rw [range_all]; exact h))
end
end Go.Proofs.YtgnnakibcjonbaaGreatDoor.VE

/- The evaluator: regions that draw their order, whose operations only give values. -/
namespace Go.Proofs.YtgnnakibcjonbaaGreatDoor.VE
open Go Go.RowKit
set_option linter.unusedVariables false
set_option linter.unusedSimpArgs false
theorem val_congr {C : Cx} {st st' : St} (hos : st.os = st'.os) {op : Op} (h : ∀ x ∈ op.operands, ev st.env x = ev st'.env x) : val C st op = val C st' op := by
  cases op <;> simp only [Op.operands] at h
  case move x => simp only [val, h x (by simp)]
  case assign x => simp only [val, h x (by simp)]
  case pick c a b => simp only [val, h c (by simp), h a (by simp), h b (by simp)]
  case binOp op t x y yt => simp only [val, h x (by simp), h y (by simp)]
  case unOp op t x => simp only [val, h x (by simp)]
  case extract x i => simp only [val, h x (by simp)]
  case nilCheck x => simp only [val, h x (by simp)]
  case fieldAddr s x f => simp only [val, h x (by simp)]
  case field s x f => simp only [val, h x (by simp)]
  case indexAddr t x i => simp only [val, h x (by simp), h i (by simp), hos]
  case index t x i => simp only [val, h x (by simp), h i (by simp)]
  case load t x => simp only [val, h x (by simp), hos]
  case slice t x lo hi mx =>
    have hx := h x (by simp)
    have hlo : ∀ y, lo = some y → ev st.env y = ev st'.env y := fun y e => h y (by simp [e])
    have hhi : ∀ y, hi = some y → ev st.env y = ev st'.env y := fun y e => h y (by simp [e])
    have bnd : ∀ (z : Option Operand) d, (∀ y, z = some y → ev st.env y = ev st'.env y) → bndV C (ev st.env) z d = bndV C (ev st'.env) z d := fun z d hz => by
      unfold bndV
      cases z with
      | none => rfl
      | some y => simp only [hz y rfl]
    simp only [val, sliceV, hx, bnd lo _ hlo, bnd hi _ hhi]
  case convert s d x => simp only [val, h x (by simp), hos]
  case makeFunc fn first caps =>
    have hc : caps.toList.map (ev st.env) = caps.toList.map (ev st'.env) := List.map_congr_left fun x hx => h x (by simp at hx; simp [hx])
    cases fn <;> simp only [val, hc]
  case call c =>
    obtain ⟨callee, args, ats⟩ := c
    have ha : ∀ x ∈ args.toList, ev st.env x = ev st'.env x := fun x hx => h x (by
      simp at hx
      simp [Call.operands, hx])
    cases callee with
    | value f => rfl
    | invoke r m => rfl
    | builtin b =>
      cases b <;> first
        | rfl
        | (simp only [val]
           split
           · rename_i x t e1 e2
             have := ha x (by rw [e1]; simp)
             simp only [this, hos]
           · rfl)
        | (simp only [val]
           split
           · rename_i x y e1
             have h1 := ha x (by rw [e1]; simp)
             have h2 := ha y (by rw [e1]; simp)
             simp only [h1, h2]
           · rfl)
  all_goals rfl
theorem actP_congr {C : Cx} {st st' : St} (hos : st.os = st'.os) {op : Op} (h : ∀ x ∈ op.operands, ev st.env x = ev st'.env x) : actP C st op = actP C st' op := by
  have hp : ∀ parts : Array (Nat × Operand), (∀ x ∈ (parts.toList.map (·.2)).toArray, ev st.env x = ev st'.env x) → (parts.toList.map fun p => (p.1, ev st.env p.2)) = parts.toList.map fun p => (p.1, ev st'.env p.2) := fun parts hx => List.map_congr_left fun q hq => by
    rw [hx q.2 (by simp only [List.mem_toArray]; exact List.mem_map.2 ⟨q, hq, rfl⟩)]
  have hr : ∀ parts : Array (Nat × Operand), (∀ x ∈ (parts.toList.map (·.2)).toArray, ev st.env x = ev st'.env x) → (parts.toList.map fun p => ev st.env p.2) = parts.toList.map fun p => ev st'.env p.2 := fun parts hx => List.map_congr_left fun q hq => hx q.2 (by simp only [List.mem_toArray]; exact List.mem_map.2 ⟨q, hq, rfl⟩)
  cases op <;> try rfl
  case build t parts =>
    simp only [Op.operands] at h
    have e := hp parts h
    have hb : buildV C (ev st.env) t parts.toList = buildV C (ev st'.env) t parts.toList := by
      unfold buildV
      rw [e]
    simp only [actP, act, hb, Option.map_map]
    rfl
  case buildSlice t len parts =>
    simp only [Op.operands] at h
    have e := hp parts h
    have e2 := hr parts h
    simp only [actP, e2]
    split
    · rename_i hc
      rw [Bool.and_eq_true, List.isEmpty_iff, bne_iff_ne] at hc
      have l1 : ∀ s : St, (parts.toList.map fun p => ev s.env p.2) = (parts.toList.map fun p => ev st'.env p.2) → (parts.toList.map fun p => (p.1, ev s.env p.2)) = (parts.toList.map fun p => (p.1, ev st'.env p.2)) → (act C s 99999 (.buildSlice t len parts)).map (fun q => (q.1, q.2.1)) = match C.T t with
        | some i => match i.kind with
          | .slice e => match C.T e with
            | some ie => if len * ie.size ≤ 16777216 ∧ 0 < ie.size then (match fillV (fun q => some (q * ie.size, ie.size)) ((List.range (len * ie.size)).map fun q => ie.zero.getD (q % ie.size) .top) (parts.toList.map fun p => (p.1, ev st'.env p.2)) with
              | some cs => (toDs cs).map fun ds => (True, .d (.sl ie.size (rowsD ie.size len ds)))
              | none => none) else none
            | none => none
          | _ => none
        | none => none := fun s g1 g2 => by
        simp only [act, litV, if_neg hc.2, g1, hc.1, frzAll, g2, hintR_99, Bool.false_eq_true, if_false]
        cases C.T t with
        | none => rfl
        | some i =>
          simp only
          cases i.kind <;> try rfl
          rename_i el
          simp only
          cases C.T el with
          | none => rfl
          | some ie =>
            simp only
            split
            · cases fillV (fun q => some (q * ie.size, ie.size)) ((List.range (len * ie.size)).map fun q => ie.zero.getD (q % ie.size) .top) (parts.toList.map fun p => (p.1, ev st'.env p.2)) with
              | none => rfl
              | some cs => simp only [Option.map_map]; rfl
            · rfl
      rw [l1 st e2 e, l1 st' rfl rfl]
    · rfl
  case convert s d x =>
    simp only [Op.operands] at h
    simp only [actP, act, h x (by simp)]
    cases ev st'.env x <;> try rfl
    rename_i x
    cases x <;> try rfl
    simp only
    split
    · cases C.T s <;> rfl
    · rfl
theorem pureV_congr {C : Cx} {st st' : St} (hos : st.os = st'.os) {op : Op} (h : ∀ x ∈ op.operands, ev st.env x = ev st'.env x) : pureV C st op = pureV C st' op := by
  unfold pureV
  rw [val_congr hos h]
  split
  · rfl
  · split
    · rename_i f args ats hv
      simp only [Op.operands] at h
      have hf : ev st.env f = ev st'.env f := h f (by simp [Call.operands])
      have ha : args.toList.map (ev st.env) = args.toList.map (ev st'.env) := List.map_congr_left fun x hx => h x (by
        simp at hx
        simp [Call.operands, hx])
      simp only [pcall, hf, ha, hos]
    · exact actP_congr hos h
theorem opT_mem {t : Nat} {x : Operand} {r : List Nat} : t ∈ opT x r ↔ .tmp t = x ∨ t ∈ r := by
  cases x <;> simp [opT]
theorem optT_mem {t : Nat} {x : Option Operand} {r : List Nat} : t ∈ optT x r ↔ some (.tmp t) = x ∨ t ∈ r := by
  cases x <;> simp [optT, opT_mem]
theorem argsT_mem {t : Nat} : ∀ {l : List Operand}, t ∈ argsT l ↔ .tmp t ∈ l
  | [] => by simp [argsT]
  | x :: r => by rw [argsT, opT_mem, argsT_mem, List.mem_cons]
theorem usedT_operands {op : Op} {t : Nat} (h : t ∈ usedT op) : .tmp t ∈ op.operands := by
  unfold usedT at h
  split at h <;> simp only [opT_mem, optT_mem, argsT_mem, List.not_mem_nil, or_false] at h <;> simp only [Op.operands, Call.operands]
  all_goals first
    | (simp [h]; done)
    | (rcases h with h | h <;> simp [h]; done)
    | (rcases h with rfl | rfl | rfl <;> simp; done)
    | (have h' := Array.mem_toList_iff.1 h; simp [h']; done)
    | (rcases h with h | h
       · simp [h]
       · have h' := Array.mem_toList_iff.1 h
         simp [h'])
theorem stripP_congr {S : Nat → Prop} : ∀ (l : List Nat) {e e' : Nat → V}, (∀ t ∈ l, S t) → (∀ t, S t → e t = e' t) → (stripP e l).1 = (stripP e' l).1 ∧ ∀ t, S t → (stripP e l).2 t = (stripP e' l).2 t
  | [], e, e', _, h => ⟨rfl, h⟩
  | t :: r, e, e', hl, h => by
    have ht := h t (hl t (by simp))
    unfold stripP
    rw [ht]
    split
    · rename_i q v hv
      have ih := stripP_congr r (e := upd e t v) (e' := upd e' t v) (fun s hs => hl s (by simp [hs])) (fun s hs => by
        by_cases c : s = t
        · subst c; rw [upd_same, upd_same]
        · rw [upd_ne _ _ c, upd_ne _ _ c]; exact h s hs)
      exact ⟨by rw [ih.1], ih.2⟩
    · exact stripP_congr r (fun s hs => hl s (by simp [hs])) h
theorem pureG_congr {C : Cx} {st st' : St} (hos : st.os = st'.os) {op : Op} (h : ∀ x ∈ op.operands, ev st.env x = ev st'.env x) : pureG C st op = pureG C st' op := by
  obtain ⟨h1, h2⟩ := stripP_congr (S := fun t => .tmp t ∈ op.operands) (usedT op) (e := st.env) (e' := st'.env) (fun t ht => usedT_operands ht) (fun t ht => h (.tmp t) ht)
  unfold pureG
  have e1 : stripC st op = stripC st' op := h1
  have e2 : pureV C (strip st op) op = pureV C (strip st' op) op := pureV_congr (st := strip st op) (st' := strip st' op) hos fun x hx => by
    cases x with
    | tmp t => exact h2 t hx
    | _ => rfl
  rw [e1, e2]
/-- One operation as a step of the state alone. -/
def pstep (C : Cx) (ops : Array Oper) (o : Oper) (st : St) : Option (Prop × St) :=
  match guardB ops st.env o with
  | some none => (pureV C st o.op).map fun q => (q.1, putE st o.dst q.2)
  | some (some b) => (pureG C st o.op).map fun q => ((b = true → q.1), putE st o.dst (.whn b q.2))
  | none => none
theorem guardB_congr {ops : Array Oper} {e e' : Nat → V} {o : Oper} (h : ∀ t, (match o.guard with | some (j, _) => (ops[j]?).bind (·.dst) | none => none) = some t → e t = e' t) : guardB ops e o = guardB ops e' o := by
  unfold guardB
  split
  · rfl
  · rename_i j want hg
    rw [hg] at h
    simp only at h
    split
    · rfl
    · rename_i t ht
      rw [h t ht]
theorem looks_operand {ops : Array Oper} {o : Oper} {t : Nat} (h : .tmp t ∈ o.op.operands) : t ∈ o.looksAt ops := by
  unfold Oper.looksAt
  refine List.mem_append.2 (.inl (List.mem_filterMap.2 ⟨.tmp t, by simpa using h, rfl⟩))
theorem looks_guard {ops : Array Oper} {o : Oper} {t : Nat} (h : (match o.guard with | some (j, _) => (ops[j]?).bind (·.dst) | none => none) = some t) : t ∈ o.looksAt ops := by
  unfold Oper.looksAt
  refine List.mem_append.2 (.inr ?_)
  split at h
  · rename_i j q hg
    rw [hg]
    simp [h]
  · cases h
/-- A step does not see what it does not look at. -/
theorem pstep_parts {C : Cx} {ops : Array Oper} {o : Oper} {st st' : St} (hos : st.os = st'.os) (h : ∀ t ∈ o.looksAt ops, st.env t = st'.env t) : guardB ops st.env o = guardB ops st'.env o ∧ pureV C st o.op = pureV C st' o.op ∧ pureG C st o.op = pureG C st' o.op := by
  have key : ∀ x ∈ o.op.operands, ev st.env x = ev st'.env x := fun x hx => by
    cases x with
    | tmp t => exact h t (looks_operand hx)
    | _ => rfl
  exact ⟨guardB_congr fun t ht => h t (looks_guard ht), pureV_congr hos key, pureG_congr hos key⟩
theorem putE_os (st : St) (d : Option Nat) (v : V) : (putE st d v).os = st.os := by cases d <;> rfl
theorem putE_env {st : St} {d : Option Nat} {v : V} {t : Nat} (h : d ≠ some t) : (putE st d v).env t = st.env t := by
  cases d with
  | none => rfl
  | some s => exact upd_ne _ _ (fun e => h (by rw [e]))
theorem putE_comm (st : St) {d d' : Option Nat} (v v' : V) (h : ∀ t, d = some t → d' ≠ some t) : putE (putE st d v) d' v' = putE (putE st d' v') d v := by
  cases d with
  | none => rfl
  | some s =>
    cases d' with
    | none => rfl
    | some s' =>
      have hne : s' ≠ s := fun e => h s rfl (by rw [e])
      simp only [putE]
      congr 1
      funext q
      simp only [upd]
      split <;> split <;> simp_all
/-- Two operations that do not look at one another may be taken in either order. -/
theorem pstep_comm {C : Cx} {ops : Array Oper} {x y : Oper} (hap : x.apart ops y = true) {st s1 s2 : St} {p q : Prop} (h1 : pstep C ops x st = some (p, s1)) (h2 : pstep C ops y s1 = some (q, s2)) :
    ∃ s1', pstep C ops y st = some (q, s1') ∧ pstep C ops x s1' = some (p, s2) := by
  obtain ⟨a1, a2, a3⟩ := Oper.apart_spec hap
  unfold pstep at h1
  -- what y sees behind x is what it sees ahead of x
  have seeY : ∀ v, guardB ops (putE st x.dst v).env y = guardB ops st.env y ∧ pureV C (putE st x.dst v) y.op = pureV C st y.op ∧ pureG C (putE st x.dst v) y.op = pureG C st y.op := fun v =>
    pstep_parts (putE_os _ _ _) fun t ht => putE_env (fun e => a1 t e ht)
  have seeX : ∀ v, guardB ops (putE st y.dst v).env x = guardB ops st.env x ∧ pureV C (putE st y.dst v) x.op = pureV C st x.op ∧ pureG C (putE st y.dst v) x.op = pureG C st x.op := fun v =>
    pstep_parts (putE_os _ _ _) fun t ht => putE_env (fun e => a3 t e ht)
  split at h1
  · rename_i gx
    obtain ⟨⟨p', v⟩, hv, e⟩ := Option.map_eq_some_iff.1 h1
    simp only [Prod.mk.injEq] at e
    obtain ⟨rfl, rfl⟩ := e
    obtain ⟨g1, g2, g3⟩ := seeY v
    unfold pstep at h2
    rw [g1, g2, g3] at h2
    split at h2
    · rename_i gy
      obtain ⟨⟨q', u⟩, hu, e⟩ := Option.map_eq_some_iff.1 h2
      simp only [Prod.mk.injEq] at e
      obtain ⟨rfl, rfl⟩ := e
      refine ⟨putE st y.dst u, by simp only [pstep, gy, hu, Option.map_some], ?_⟩
      obtain ⟨k1, k2, k3⟩ := seeX u
      simp only [pstep, k1, k2, k3, gx, hv, Option.map_some, putE_comm st v u a2]
    · rename_i b gy
      obtain ⟨⟨q', u⟩, hu, e⟩ := Option.map_eq_some_iff.1 h2
      simp only [Prod.mk.injEq] at e
      obtain ⟨rfl, rfl⟩ := e
      refine ⟨putE st y.dst (.whn b u), by simp only [pstep, gy, hu, Option.map_some], ?_⟩
      obtain ⟨k1, k2, k3⟩ := seeX (.whn b u)
      simp only [pstep, k1, k2, k3, gx, hv, Option.map_some, putE_comm st v (.whn b u) a2]
    · simp at h2
  · rename_i b gx
    obtain ⟨⟨p', v⟩, hv, e⟩ := Option.map_eq_some_iff.1 h1
    simp only [Prod.mk.injEq] at e
    obtain ⟨rfl, rfl⟩ := e
    obtain ⟨g1, g2, g3⟩ := seeY (.whn b v)
    unfold pstep at h2
    rw [g1, g2, g3] at h2
    split at h2
    · rename_i gy
      obtain ⟨⟨q', u⟩, hu, e⟩ := Option.map_eq_some_iff.1 h2
      simp only [Prod.mk.injEq] at e
      obtain ⟨rfl, rfl⟩ := e
      refine ⟨putE st y.dst u, by simp only [pstep, gy, hu, Option.map_some], ?_⟩
      obtain ⟨k1, k2, k3⟩ := seeX u
      simp only [pstep, k1, k2, k3, gx, hv, Option.map_some, putE_comm st (.whn b v) u a2]
    · rename_i b' gy
      obtain ⟨⟨q', u⟩, hu, e⟩ := Option.map_eq_some_iff.1 h2
      simp only [Prod.mk.injEq] at e
      obtain ⟨rfl, rfl⟩ := e
      refine ⟨putE st y.dst (.whn b' u), by simp only [pstep, gy, hu, Option.map_some], ?_⟩
      obtain ⟨k1, k2, k3⟩ := seeX (.whn b' u)
      simp only [pstep, k1, k2, k3, gx, hv, Option.map_some, putE_comm st (.whn b v) (.whn b' u) a2]
    · simp at h2
  · simp at h1
/-- The operations in the order of the text, all of them pure. -/
def runPure (C : Cx) (ops : Array Oper) : List Oper → St → (St → Prop) → Prop
  | [], st, K => K st
  | o :: r, st, K => match pstep C ops o st with
    | some (p, s) => p ∧ runPure C ops r s K
    | none => False
/-- What makes the order indifferent: an operation waits only for earlier ones, and for each earlier one that it does not wait for it is apart. -/
def lexOk (ops : Array Oper) : Bool :=
  (List.range ops.size).all fun i => match ops[i]? with
    | none => true
    | some o => (o.after.toList.all fun e => !Region.binds .any e || decide (e.on < i)) && (List.range i).all fun r => (o.after.toList.any fun e => Region.binds .any e && e.on == r) || (match ops[r]? with | some x => x.apart ops o | none => true)
end Go.Proofs.YtgnnakibcjonbaaGreatDoor.VE
