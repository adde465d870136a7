/- Texts put together (merge.py). -/
import Derived.Test.YtgnnakibcjonbaaGreatDoorM7
import Derived.Test.YtgnnakibcjonbaaGreatDoorM6
import Derived.Shelf.Strings.Search3
import Derived.KernelRfl
import Derived.Test.YtgnnakibcjonbaaGreatDoorProg
/- The evaluator as a program: code. What it tells holds in the evaluator. -/
namespace Go.Proofs.YtgnnakibcjonbaaGreatDoor.VE
open Go Go.RowKit
set_option linter.unusedVariables false
set_option linter.unusedSimpArgs false
/-- Equal values. -/
def strB (a b : ByteArray) : Bool := a.data.toList == b.data.toList
theorem strB_ok {a b : ByteArray} (h : strB a b = true) : a = b := by
  unfold strB at h
  apply ByteArray.ext
  apply Array.ext'
  simpa using h
mutual
def D.beq : D → D → Bool
  | .int k n, .int k' n' => decide (k = k') && decide (n = n')
  | .bool b, .bool b' => b == b'
  | .str s, .str s' => strB s s'
  | .fn f, .fn f' => decide (f = f')
  | .sl m rows, .sl m' rows' => decide (m = m') && D.beqss rows rows'
  | _, _ => false
def D.beqs : List D → List D → Bool
  | [], [] => true
  | x :: r, y :: q => D.beq x y && D.beqs r q
  | _, _ => false
def D.beqss : List (List D) → List (List D) → Bool
  | [], [] => true
  | x :: r, y :: q => D.beqs x y && D.beqss r q
  | _, _ => false
end
mutual
theorem D.beq_ok : ∀ {x y : D}, D.beq x y = true → x = y
  | .int k n, y, h => by
    cases y <;> simp only [D.beq, Bool.and_eq_true, decide_eq_true_eq, Bool.false_eq_true] at h
    rw [h.1, h.2]
  | .bool b, y, h => by
    cases y <;> simp only [D.beq, beq_iff_eq, Bool.false_eq_true] at h
    rw [h]
  | .str s, y, h => by
    cases y <;> simp only [D.beq, Bool.false_eq_true] at h
    rw [strB_ok h]
  | .fn f, y, h => by
    cases y <;> simp only [D.beq, decide_eq_true_eq, Bool.false_eq_true] at h
    rw [h]
  | .sl m rows, y, h => by
    cases y <;> simp only [D.beq, Bool.and_eq_true, decide_eq_true_eq, Bool.false_eq_true] at h
    rw [h.1, D.beqss_ok h.2]
theorem D.beqs_ok : ∀ {x y : List D}, D.beqs x y = true → x = y
  | [], y, h => by cases y <;> simp only [D.beqs, Bool.false_eq_true] at h; rfl
  | x :: r, y, h => by
    cases y <;> simp only [D.beqs, Bool.and_eq_true, Bool.false_eq_true] at h
    rw [D.beq_ok h.1, D.beqs_ok h.2]
theorem D.beqss_ok : ∀ {x y : List (List D)}, D.beqss x y = true → x = y
  | [], y, h => by cases y <;> simp only [D.beqss, Bool.false_eq_true] at h; rfl
  | x :: r, y, h => by
    cases y <;> simp only [D.beqss, Bool.and_eq_true, Bool.false_eq_true] at h
    rw [D.beqs_ok h.1, D.beqss_ok h.2]
end
mutual
def V.beq : V → V → Bool
  | .d x, .d y => D.beq x y
  | .nil, .nil => true
  | .ptr o c, .ptr o' c' => decide (o = o') && decide (c = c')
  | .row o, .row o' => decide (o = o')
  | .rptr o m i j, .rptr o' m' i' j' => decide (o = o') && (decide (m = m') && (decide (i = i') && decide (j = j')))
  | .dptr x, .dptr y => D.beqs x y
  | .agg x, .agg y => V.beqs x y
  | .tup x, .tup y => V.beqs x y
  | .fnc f x, .fnc f' y => decide (f = f') && V.beqs x y
  | .whn b x, .whn b' y => (b == b') && V.beq x y
  | .top, .top => true
  | _, _ => false
def V.beqs : List V → List V → Bool
  | [], [] => true
  | x :: r, y :: q => V.beq x y && V.beqs r q
  | _, _ => false
end
mutual
theorem V.beq_ok : ∀ {x y : V}, V.beq x y = true → x = y
  | .d x, y, h => by
    cases y <;> simp only [V.beq, Bool.false_eq_true] at h
    rw [D.beq_ok h]
  | .nil, y, h => by cases y <;> simp only [V.beq, Bool.false_eq_true] at h; rfl
  | .ptr o c, y, h => by
    cases y <;> simp only [V.beq, Bool.and_eq_true, decide_eq_true_eq, Bool.false_eq_true] at h
    rw [h.1, h.2]
  | .row o, y, h => by
    cases y <;> simp only [V.beq, decide_eq_true_eq, Bool.false_eq_true] at h
    rw [h]
  | .rptr o m i j, y, h => by
    cases y <;> simp only [V.beq, Bool.and_eq_true, decide_eq_true_eq, Bool.false_eq_true] at h
    rw [h.1, h.2.1, h.2.2.1, h.2.2.2]
  | .dptr x, y, h => by
    cases y <;> simp only [V.beq, Bool.false_eq_true] at h
    rw [D.beqs_ok h]
  | .agg x, y, h => by
    cases y <;> simp only [V.beq, Bool.false_eq_true] at h
    rw [V.beqs_ok h]
  | .tup x, y, h => by
    cases y <;> simp only [V.beq, Bool.false_eq_true] at h
    rw [V.beqs_ok h]
  | .fnc f x, y, h => by
    cases y <;> simp only [V.beq, Bool.and_eq_true, decide_eq_true_eq, Bool.false_eq_true] at h
    rw [h.1, V.beqs_ok h.2]
  | .whn b x, y, h => by
    cases y <;> simp only [V.beq, Bool.and_eq_true, beq_iff_eq, Bool.false_eq_true] at h
    rw [h.1, V.beq_ok h.2]
  | .top, y, h => by cases y <;> simp only [V.beq, Bool.false_eq_true] at h; rfl
theorem V.beqs_ok : ∀ {x y : List V}, V.beqs x y = true → x = y
  | [], y, h => by cases y <;> simp only [V.beqs, Bool.false_eq_true] at h; rfl
  | x :: r, y, h => by
    cases y <;> simp only [V.beqs, Bool.and_eq_true, Bool.false_eq_true] at h
    rw [V.beq_ok h.1, V.beqs_ok h.2]
end
/-- One step, its condition met. -/
def stepX (C : Cx) (st : St) (d : Nat) (op : Op) : Option (V × St) :=
  match val C st op with
  | some (_, v) => if valB C st op then some (v, st) else none
  | none => match act C st d op with
    | some (_, v, s) => if actB C st d op then some (v, s) else none
    | none => none
theorem stepX_ok {C : Cx} (hC : Sure C) {st : St} {d : Nat} {op : Op} {v : V} {s : St} (h : stepX C st d op = some (v, s)) : ∃ p, stepV C st d op = some (p, v, s) ∧ p := by
  unfold stepX at h
  unfold stepV
  split at h
  · rename_i p v' hv
    split at h
    · rename_i hb
      simp only [Option.some.injEq, Prod.mk.injEq] at h
      obtain ⟨rfl, rfl⟩ := h
      exact ⟨p, by simp only [hv], valB_ok hv hb⟩
    · cases h
  · rename_i hv
    split at h
    · rename_i p v' s' ha
      split at h
      · rename_i hb
        simp only [Option.some.injEq, Prod.mk.injEq] at h
        obtain ⟨rfl, rfl⟩ := h
        exact ⟨p, by simp only [hv, ha], actB_ok hC ha hb⟩
      · cases h
    · cases h
/-- The condition of an operation that only gives a value. -/
def pureB (C : Cx) (st : St) (op : Op) : Bool :=
  match val C st op with
  | some _ => valB C st op
  | none => match op with
    | .call _ => true
    | op => actB C st 99999 op
theorem pureB_ok {C : Cx} (hC : Sure C) {st : St} {op : Op} {p : Prop} {v : V} (h : pureV C st op = some (p, v)) (hb : pureB C st op = true) : p := by
  unfold pureV at h
  unfold pureB at hb
  split at h
  · rename_i q hv
    simp only [Option.some.injEq] at h
    subst h
    rw [hv] at hb
    exact valB_ok hv hb
  · rename_i hv
    rw [hv] at hb
    simp only at hb
    split at h
    · exact pcall_sure hC h
    · unfold actP at h
      split at h
      · obtain ⟨q, hq, e⟩ := Option.map_eq_some_iff.1 h
        simp only [Prod.mk.injEq] at e
        rw [← e.1]; exact actB_ok hC hq hb
      · split at h
        · obtain ⟨q, hq, e⟩ := Option.map_eq_some_iff.1 h
          simp only [Prod.mk.injEq] at e
          rw [← e.1]; exact actB_ok hC hq hb
        · cases h
      · obtain ⟨q, hq, e⟩ := Option.map_eq_some_iff.1 h
        simp only [Prod.mk.injEq] at e
        rw [← e.1]; exact actB_ok hC hq hb
      · cases h
def stripB (env : Nat → V) : List Nat → Bool
  | [] => true
  | t :: r => match env t with
    | .whn q v => q && stripB (upd env t v) r
    | _ => stripB env r
theorem stripB_ok : ∀ {l : List Nat} {env : Nat → V}, stripB env l = true → (stripP env l).1
  | [], _, _ => trivial
  | t :: r, env, h => by
    unfold stripB at h
    unfold stripP
    cases e : env t with
    | whn q v =>
      simp only [e, Bool.and_eq_true] at h
      exact ⟨h.1, stripB_ok h.2⟩
    | _ => simp only [e] at h; exact stripB_ok h
def pureGB (C : Cx) (st : St) (op : Op) : Bool := stripB st.env (usedT op) && pureB C (strip st op) op
theorem pureGB_ok {C : Cx} (hC : Sure C) {st : St} {op : Op} {p : Prop} {v : V} (h : pureG C st op = some (p, v)) (hb : pureGB C st op = true) : p := by
  unfold pureG at h
  unfold pureGB at hb
  rw [Bool.and_eq_true] at hb
  split at h
  · rename_i q w hq
    simp only [Option.some.injEq, Prod.mk.injEq] at h
    rw [← h.1]
    exact ⟨stripB_ok hb.1, pureB_ok hC hq hb.2⟩
  · cases h
/-- Whether a slice is nil, where that is for certain. -/
def nilX (os : Nat → Option O) : V → Option Bool
  | .d (.sl _ (_ :: _)) => some false
  | .row o => match os o with
    | some (.row (_ :: _) _ _) => some false
    | _ => none
  | .nil => some true
  | _ => none
theorem nilX_ok {e : Bool} {os : Nat → Option O} {x : V} {e' : Bool} {q q' : Prop} {b : Bool} (h : nilR e os x = some (e', q, q')) (hb : nilX os x = some b) : ∀ c : Bool, (c = true → q) → (c = false → q') → c = b := by
  unfold nilX at hb
  split at hb
  · cases hb
    simp only [nilR, Option.some.injEq, Prod.mk.injEq] at h
    obtain ⟨rfl, rfl, rfl⟩ := h
    intro c h1 h2
    cases c
    · rfl
    · cases h1 rfl
  · split at hb
    · rename_i ho
      cases hb
      simp only [nilR, ho, Option.some.injEq, Prod.mk.injEq] at h
      obtain ⟨rfl, rfl, rfl⟩ := h
      intro c h1 h2
      cases c
      · rfl
      · cases h1 rfl
    · cases hb
  · cases hb
    simp only [nilR, Option.some.injEq, Prod.mk.injEq] at h
    obtain ⟨rfl, rfl, rfl⟩ := h
    intro c h1 h2
    cases c
    · exact (h2 rfl).elim
    · rfl
  · cases hb
def nilOp : Op → Option Operand
  | .binOp .eql _ x (.const (.slice none 0 0)) _ => some x
  | .binOp .neq _ x (.const (.slice none 0 0)) _ => some x
  | _ => none
def globB : Op → Bool
  | .load _ (.global g) => decide (g = gIx)
  | _ => false
/-- One operation. -/
def opX (C : Cx) (ops : Array Oper) (o : Oper) (st : St) : Option St :=
  match guardB ops st.env o with
  | some none => if globB o.op then none else match nilQ C st o.op with
    | some (e, _, _) => match nilOp o.op with
      | some x => match nilX st.os (ev st.env x) with
        | some b => some (putE st o.dst (.d (.bool (b == e))))
        | none => none
      | none => none
    | none => match stepX C st (o.dst.getD 0) o.op with
      | some (v, s) => some (putE s o.dst v)
      | none => none
  | some (some true) => match pureG C st o.op with
    | some (_, v) => if pureGB C st o.op then some (putE st o.dst (.whn true v)) else none
    | none => if stripB st.env (usedT o.op) then (match stepX C (strip st o.op) (o.dst.getD 0) o.op with
      | some (v, s) => some (putE s o.dst v)
      | none => none) else none
  | some (some false) => match pureG C st o.op with
    | some (_, v) => some (putE st o.dst (.whn false v))
    | none => some (putE st o.dst .top)
  | none => none
/-- The same functions, another value of the package-level variable. -/
def atm (C : Cx) (m : Int) : Cx := { C with gm := ⟨m, fun _ _ => none⟩ }
theorem val_atm {C : Cx} {m : Int} {st : St} {op : Op} : val (atm C m) st op = val C st op := rfl
theorem act_atm {C : Cx} {m : Int} {st : St} {d : Nat} {op : Op} : act (atm C m) st d op = act C st d op := rfl
theorem stepV_atm {C : Cx} {m : Int} {st : St} {d : Nat} {op : Op} : stepV (atm C m) st d op = stepV C st d op := rfl
theorem pureV_atm {C : Cx} {m : Int} {st : St} {op : Op} : pureV (atm C m) st op = pureV C st op := rfl
theorem pureG_atm {C : Cx} {m : Int} {st : St} {op : Op} : pureG (atm C m) st op = pureG C st op := rfl
theorem nilQ_atm {C : Cx} {m : Int} {st : St} {op : Op} : nilQ (atm C m) st op = nilQ C st op := rfl
theorem pstep_atm {C : Cx} {m : Int} {ops : Array Oper} {o : Oper} {st : St} : pstep (atm C m) ops o st = pstep C ops o st := rfl
theorem estep_atm {C : Cx} {m : Int} {o : Oper} {st : St} : estep (atm C m) o st = estep C o st := rfl
theorem sstep_atm {C : Cx} {m : Int} {ops : Array Oper} {o : Oper} {st : St} : sstep (atm C m) ops o st = sstep C ops o st := rfl
theorem glob_none {C : Cx} {m : Int} {env : Nat → V} {op : Op} (h : globB op = false) : globQ (atm C m) env op = none := by
  unfold globQ
  split
  · rename_i t g
    simp only [globB, decide_eq_false_iff_not] at h
    rw [if_neg h]
  · rfl
  · rfl
theorem nilQ_x {C : Cx} {st : St} {op : Op} {e : Bool} {q q' : Prop} (h : nilQ C st op = some (e, q, q')) {x : Operand} (hx : nilOp op = some x) : ∃ e0, nilR e0 st.os (ev st.env x) = some (e, q, q') := by
  unfold nilQ at h
  split at h
  · split at h
    · simp only [nilOp, Option.some.injEq] at hx
      subst hx
      exact ⟨_, h⟩
    · cases h
  · split at h
    · simp only [nilOp, Option.some.injEq] at hx
      subst hx
      exact ⟨_, h⟩
    · cases h
  · cases h
theorem opX_ok {C : Cx} (hC : Sure C) {m : Int} {ops : Array Oper} {o : Oper} {st s : St} {K : St → Prop} (h : opX C ops o st = some s) (hk : K s) : opP (atm C m) ops o st K := by
  unfold opX at h
  unfold opP
  cases hgd : guardB ops st.env o with
  | none => rw [hgd] at h; cases h
  | some g =>
    rw [hgd] at h
    cases g with
    | none =>
      simp only at h ⊢
      split at h
      · cases h
      · rename_i hgl
        rw [glob_none (by simpa using hgl), nilQ_atm]
        simp only
        split at h
        · rename_i e q q' hq
          rw [hq]
          split at h
          · rename_i x hx
            obtain ⟨e0, hr⟩ := nilQ_x hq hx
            split at h
            · rename_i b hb
              simp only [Option.some.injEq] at h
              intro c h1 h2
              rw [nilX_ok hr hb c h1 h2, h]
              exact hk
            · cases h
          · cases h
        · rename_i hq
          rw [hq, stepV_atm]
          simp only
          split at h
          · rename_i v s' hs
            obtain ⟨p, hs, hp⟩ := stepX_ok hC hs
            simp only [Option.some.injEq] at h
            rw [hs]
            simp only
            rw [h]
            exact ⟨hp, hk⟩
          · cases h
    | some b =>
      cases b with
      | true =>
        simp only at h ⊢
        rw [pureG_atm]
        split at h
        · rename_i p v hv
          rw [hv]
          split at h
          · rename_i hb
            simp only [Option.some.injEq] at h
            simp only
            rw [h]
            exact ⟨fun _ => pureGB_ok hC hv hb, hk⟩
          · cases h
        · rename_i hv
          rw [hv]
          split at h
          · rename_i hb
            refine ⟨fun _ => ⟨stripB_ok hb, ?_⟩, fun e => by cases e⟩
            rw [stepV_atm]
            split at h
            · rename_i v s' hs
              obtain ⟨p, hs, hp⟩ := stepX_ok hC hs
              simp only [Option.some.injEq] at h
              rw [hs]
              simp only
              rw [h]
              exact ⟨hp, hk⟩
            · cases h
          · cases h
      | false =>
        simp only at h ⊢
        rw [pureG_atm]
        split at h
        · rename_i p v hv
          rw [hv]
          simp only [Option.some.injEq] at h
          simp only
          rw [h]
          exact ⟨fun e => (by cases e), hk⟩
        · rename_i hv
          rw [hv]
          simp only [Option.some.injEq] at h
          refine ⟨fun e => (by cases e), fun _ => ?_⟩
          rw [h]
          exact hk
def runOpsX (C : Cx) (ops : Array Oper) : List Oper → St → Option St
  | [], st => some st
  | o :: r, st => match opX C ops o st with
    | some s => runOpsX C ops r s
    | none => none
theorem runOpsX_ok {C : Cx} (hC : Sure C) {m : Int} {ops : Array Oper} {K : St → Prop} : ∀ {l : List Oper} {st s : St}, runOpsX C ops l st = some s → K s → runOps (atm C m) ops l st K
  | [], st, s, h, hk => by
    simp only [runOpsX, Option.some.injEq] at h
    subst h
    exact hk
  | o :: r, st, s, h, hk => by
    unfold runOpsX at h
    split at h
    · rename_i s' hs
      exact opX_ok hC hs (runOpsX_ok hC h hk)
    · cases h
/-- Steps of regions that draw. -/
def pstepB (C : Cx) (ops : Array Oper) (o : Oper) (st : St) : Bool :=
  match guardB ops st.env o with
  | some none => pureB C st o.op
  | some (some true) => pureGB C st o.op
  | _ => true
theorem pstepB_ok {C : Cx} (hC : Sure C) {ops : Array Oper} {o : Oper} {st : St} {p : Prop} {s : St} (h : pstep C ops o st = some (p, s)) (hb : pstepB C ops o st = true) : p := by
  unfold pstep at h
  unfold pstepB at hb
  split at h
  · rename_i hg
    rw [hg] at hb
    obtain ⟨q, hq, e⟩ := Option.map_eq_some_iff.1 h
    simp only [Prod.mk.injEq] at e
    rw [← e.1]
    exact pureB_ok hC hq hb
  · rename_i b hg
    rw [hg] at hb
    obtain ⟨q, hq, e⟩ := Option.map_eq_some_iff.1 h
    simp only [Prod.mk.injEq] at e
    rw [← e.1]
    intro hbt
    subst hbt
    exact pureGB_ok hC hq hb
  · cases h
def sstepX (C : Cx) (ops : Array Oper) (o : Oper) (st : St) : Option St :=
  match pstep C ops o st with
  | some (_, s) => if pstepB C ops o st then some s else none
  | none => match estep C o st with
    | some (_, s) => if actB C st (dOf o) o.op then some s else none
    | none => none
theorem sstepX_ok {C : Cx} (hC : Sure C) {ops : Array Oper} {o : Oper} {st s : St} (h : sstepX C ops o st = some s) : ∃ p, sstep C ops o st = some (p, s) ∧ p := by
  unfold sstepX at h
  unfold sstep
  split at h
  · rename_i p s' hs
    split at h
    · rename_i hb
      simp only [Option.some.injEq] at h
      subst h
      exact ⟨p, by simp only [hs], pstepB_ok hC hs hb⟩
    · cases h
  · rename_i hs
    split at h
    · rename_i p s' he
      split at h
      · rename_i hb
        simp only [Option.some.injEq] at h
        subst h
        refine ⟨p, by simp only [hs, he], ?_⟩
        unfold estep at he
        split at he
        · obtain ⟨q, hq, e⟩ := Option.map_eq_some_iff.1 he
          simp only [Prod.mk.injEq] at e
          rw [← e.1]
          exact actB_ok hC hq hb
        · cases he
      · cases h
    · cases h
def recheckX (C : Cx) (ops : Array Oper) (x : Oper) (s : St) : Bool :=
  match pstep C ops x s with
  | some (_, s2) => pstepB C ops x s && (match x.dst with
    | some t => V.beq (s2.env t) (s.env t)
    | none => true)
  | none => false
theorem recheckX_ok {C : Cx} (hC : Sure C) {m : Int} {ops : Array Oper} {x : Oper} {s : St} (h : recheckX C ops x s = true) : recheck (atm C m) ops x s := by
  unfold recheckX at h
  unfold recheck
  rw [pstep_atm]
  split at h
  · rename_i p s2 hs
    rw [Bool.and_eq_true] at h
    rw [hs]
    refine ⟨pstepB_ok hC hs h.1, ?_⟩
    have h2 := h.2
    split at h2
    · rename_i t ht; simp only [ht]; exact V.beq_ok h2
    · rename_i ht; simp only [ht]
  · cases h
def rechecksX (C : Cx) (ops : Array Oper) : List Nat → St → Bool
  | [], _ => true
  | j :: rc, s => (match ops[j]? with
    | some x => recheckX C ops x s
    | none => false) && rechecksX C ops rc s
theorem rechecksX_ok {C : Cx} (hC : Sure C) {m : Int} {ops : Array Oper} {s : St} : ∀ {rc : List Nat}, rechecksX C ops rc s = true → rechecks (atm C m) ops rc s
  | [], _ => trivial
  | j :: rc, h => by
    unfold rechecksX at h
    rw [Bool.and_eq_true] at h
    refine ⟨?_, rechecksX_ok hC h.2⟩
    have h1 := h.1
    split at h1
    · rename_i x hx; simp only [hx]; exact recheckX_ok hC h1
    · cases h1
def runDX (C : Cx) (ops : Array Oper) : List (Nat × List Nat) → St → Option St
  | [], st => some st
  | (i, rc) :: l, st => match ops[i]? with
    | some o => match sstepX C ops o st with
      | some s => if rechecksX C ops rc s then runDX C ops l s else none
      | none => none
    | none => none
theorem runDX_ok {C : Cx} (hC : Sure C) {m : Int} {ops : Array Oper} {K : St → Prop} : ∀ {l : List (Nat × List Nat)} {st s : St}, runDX C ops l st = some s → K s → runD (atm C m) ops l st K
  | [], st, s, h, hk => by
    simp only [runDX, Option.some.injEq] at h
    subst h
    exact hk
  | (i, rc) :: l, st, s, h, hk => by
    unfold runDX at h
    unfold runD
    split at h
    · rename_i o ho
      simp only [ho]
      split at h
      · rename_i s' hs
        obtain ⟨p, hs, hp⟩ := sstepX_ok hC hs
        rw [sstep_atm, hs]
        split at h
        · rename_i hr
          exact ⟨hp, rechecksX_ok hC hr, runDX_ok hC h hk⟩
        · cases h
      · cases h
    · cases h
/-- Rounds of a loop. -/
def iterX (f : St → Option (Exit × St)) : Nat → St → Option (Exit × St)
  | 0, _ => none
  | n + 1, st => match f st with
    | some (.normal, s) => iterX f n s
    | some (.exit i, s) => some (.exit i, s)
    | some (.ret, s) => some (.ret, s)
    | _ => none
def runX (C : Cx) (n : Nat) : Code → St → Option (Exit × St)
  | .skip, st => some (.normal, st)
  | .label _, st => some (.normal, st)
  | .region _ ops false, st => match runOpsX C ops ops.toList st with
    | some s => some (.normal, s)
    | none => none
  | .region id ops true, st => match runDX C ops (planFor C.pl id ops.size) (freshAll st (allocsOf ops.toList)) with
    | some s => some (.normal, s)
    | none => none
  | .seq x y, st => match runX C n x st with
    | some (.normal, s) => runX C n y s
    | some (.exit i, s) => some (.exit i, s)
    | some (.ret, s) => some (.ret, s)
    | _ => none
  | .cond c x y, st => match ev st.env c with
    | .d (.bool true) => runX C n x st
    | .d (.bool false) => runX C n y st
    | _ => none
  | .block id c, st => match runX C n c st with
    | some (.exit id', s) => if id' = id then some (.normal, s) else some (.exit id', s)
    | some (.normal, s) => some (.normal, s)
    | some (.ret, s) => some (.ret, s)
    | _ => none
  | .loop c, st => iterX (fun s => runX C n c s) n st
  | .exit id, st => some (.exit id, st)
  | .ret, st => some (.ret, st)
  | _, _ => none
theorem iterX_ok {C : Cx} {c : Code} {f : St → Option (Exit × St)} {Q : Exit → St → Prop} {e : Exit} {s : St} (hf : ∀ (st : St) (Q : Exit → St → Prop) (e : Exit) (s : St), f st = some (e, s) → Q e s → run C c st Q) (hq : Q e s) (n : Nat) (st : St) (h : iterX f n st = some (e, s)) : Lp (fun s q => run C c s q) st Q := by
  refine ⟨Nat × St, fun x => x.2, fun x => iterX f x.1 x.2 = some (e, s), fun x => x.1, (n, st), h, Le.refl _, ?_⟩
  rintro ⟨k, s1⟩ hx
  simp only at hx
  cases k with
  | zero => simp [iterX] at hx
  | succ k =>
    unfold iterX at hx
    split at hx
    · rename_i s2 h2
      exact hf _ _ _ _ h2 ⟨(k, s2), hx, Nat.lt_succ_self _, Le.refl _⟩
    · rename_i i s2 h2
      simp only [Option.some.injEq, Prod.mk.injEq] at hx
      obtain ⟨rfl, rfl⟩ := hx
      exact hf _ _ _ _ h2 hq
    · rename_i s2 h2
      simp only [Option.some.injEq, Prod.mk.injEq] at hx
      obtain ⟨rfl, rfl⟩ := hx
      exact hf _ _ _ _ h2 hq
    · cases hx
theorem runX_ok {C : Cx} (hC : Sure C) {m : Int} {n : Nat} : ∀ (c : Code) (st : St) (Q : Exit → St → Prop) (e : Exit) (s : St), runX C n c st = some (e, s) → Q e s → run (atm C m) c st Q
  | .skip, st, Q, e, s, h, hq => by
    simp only [runX, Option.some.injEq, Prod.mk.injEq] at h
    obtain ⟨rfl, rfl⟩ := h
    exact hq
  | .label _, st, Q, e, s, h, hq => by
    simp only [runX, Option.some.injEq, Prod.mk.injEq] at h
    obtain ⟨rfl, rfl⟩ := h
    exact hq
  | .region _ ops false, st, Q, e, s, h, hq => by
    simp only [runX] at h
    split at h
    · rename_i s' hs
      simp only [Option.some.injEq, Prod.mk.injEq] at h
      obtain ⟨rfl, rfl⟩ := h
      exact runOpsX_ok hC hs hq
    · cases h
  | .region id ops true, st, Q, e, s, h, hq => by
    simp only [runX] at h
    split at h
    · rename_i s' hs
      simp only [Option.some.injEq, Prod.mk.injEq] at h
      obtain ⟨rfl, rfl⟩ := h
      exact runDX_ok hC hs hq
    · cases h
  | .seq x y, st, Q, e, s, h, hq => by
    simp only [runX] at h
    refine ?_
    show run (atm C m) x st _
    split at h
    · rename_i s' hs
      exact runX_ok hC x _ _ _ _ hs (runX_ok hC y _ _ _ _ h hq)
    · rename_i i s' hs
      simp only [Option.some.injEq, Prod.mk.injEq] at h
      obtain ⟨rfl, rfl⟩ := h
      exact runX_ok hC x _ _ _ _ hs hq
    · rename_i s' hs
      simp only [Option.some.injEq, Prod.mk.injEq] at h
      obtain ⟨rfl, rfl⟩ := h
      exact runX_ok hC x _ _ _ _ hs hq
    · cases h
  | .cond c x y, st, Q, e, s, h, hq => by
    simp only [runX] at h
    simp only [run]
    split at h
    · rename_i hb
      rw [hb]
      exact ⟨fun _ => runX_ok hC x _ _ _ _ h hq, fun e => by cases e⟩
    · rename_i hb
      rw [hb]
      exact ⟨fun e => (by cases e), fun _ => runX_ok hC y _ _ _ _ h hq⟩
    · cases h
  | .block id c, st, Q, e, s, h, hq => by
    simp only [runX] at h
    show run (atm C m) c st _
    split at h
    · rename_i id' s' hs
      refine runX_ok hC c _ _ _ _ hs ?_
      simp only [blockQ]
      split at h
      · rename_i hi
        rw [if_pos hi]
        simp only [Option.some.injEq, Prod.mk.injEq] at h
        obtain ⟨rfl, rfl⟩ := h
        exact hq
      · rename_i hi
        rw [if_neg hi]
        simp only [Option.some.injEq, Prod.mk.injEq] at h
        obtain ⟨rfl, rfl⟩ := h
        exact hq
    · rename_i s' hs
      simp only [Option.some.injEq, Prod.mk.injEq] at h
      obtain ⟨rfl, rfl⟩ := h
      exact runX_ok hC c _ _ _ _ hs hq
    · rename_i s' hs
      simp only [Option.some.injEq, Prod.mk.injEq] at h
      obtain ⟨rfl, rfl⟩ := h
      exact runX_ok hC c _ _ _ _ hs hq
    · cases h
  | .loop c, st, Q, e, s, h, hq => by
    simp only [runX] at h
    simp only [run]
    exact iterX_ok (fun st Q e s h hq => runX_ok hC c st Q e s h hq) hq n st h
  | .exit id, st, Q, e, s, h, hq => by
    simp only [runX, Option.some.injEq, Prod.mk.injEq] at h
    obtain ⟨rfl, rfl⟩ := h
    exact hq
  | .ret, st, Q, e, s, h, hq => by
    simp only [runX, Option.some.injEq, Prod.mk.injEq] at h
    obtain ⟨rfl, rfl⟩ := h
    exact hq
  | .rangeFunc _ _ _ _, st, Q, e, s, h, hq => by simp [runX] at h
  | .scope _, st, Q, e, s, h, hq => by simp [runX] at h
  | .goto _, st, Q, e, s, h, hq => by simp [runX] at h
  | .refuse _, st, Q, e, s, h, hq => by simp [runX] at h
end Go.Proofs.YtgnnakibcjonbaaGreatDoor.VE

/- The evaluator: functions that leave new rows in what they were handed, or return one. -/
namespace Go.Proofs.YtgnnakibcjonbaaGreatDoor.VE
open Go Go.RowKit
set_option linter.unusedVariables false
set_option linter.unusedSimpArgs false
/-- The function's own name of a contract's object: those beyond the n that it was handed are its own rows. -/
def srcN (n : Nat) (news : List Nat) (o : Nat) : Nat := if o < 100000 + n then o else news.getD (o - 100000 - n) 0
def FitC2 (n : Nat) (news : List Nat) (os : Nat → Option O) : V → V → Prop
  | .nil, .d (.sl _ rows) => rows = []
  | .nil, .nil => True
  | .row o, .d (.sl m rows) => (o < 100000 ∧ o ∉ news) ∧ match os o with
    | some (.row rows' m' _) => rows' = rows ∧ (m' = m ∨ rows = [])
    | _ => False
  | .row o, .row o' => (100000 ≤ o' ∧ o' < 100000 + (n + news.length)) ∧ o = srcN n news o'
  | .d x, .d y => x = y
  | .dptr x, .dptr y => x = y
  | _, .top => True
  | x, y => y.inF n = true ∧ x = y
def FitR2 (n : Nat) (news : List Nat) (os : Nat → Option O) : V → V → Prop
  | .agg xs, .agg ys => FitsL (FitC2 n news os) xs ys
  | .ptr o c, .dptr ds => (o < 100000 ∧ o ∉ news) ∧ match os o with
    | some (.box cs _) => FitsL (FitC2 n news os) (cs.drop c) (ds.map .d)
    | _ => False
  | x, y => FitC2 n news os x y
def FitT2 (n : Nat) (news : List Nat) (os : Nat → Option O) : V → V → Prop
  | .tup xs, .tup ys => FitsL (FitR2 n news os) xs ys
  | x, y => FitR2 n news os x y
def FitO2 (n : Nat) (news : List Nat) (os : Nat → Option O) : Option O → O → Prop
  | some (.box cs e), .box cs' e' => FitsL (FitC2 n news os) cs cs' ∧ e = e'
  | some (.row rows m e), .row rows' m' e' => rows = rows' ∧ m = m' ∧ e = e'
  | some (.arr rows m e), .arr rows' m' e' => rows = rows' ∧ m = m' ∧ e = e'
  | some (.raw K), .raw K' => K = K'
  | _, _ => False
def FitOs2 (n : Nat) (news : List Nat) (os : Nat → Option O) : Nat → List O → Prop
  | _, [] => True
  | k, x :: r => FitO2 n news os (os (srcN n news k)) x ∧ FitOs2 n news os (k + 1) r
theorem FitOs2_get {n : Nat} {news : List Nat} {os : Nat → Option O} : ∀ {l : List O} {k : Nat}, FitOs2 n news os k l → ∀ (j : Nat) (x : O), l[j]? = some x → FitO2 n news os (os (srcN n news (k + j))) x
  | [], _, _, j, x, h => by simp at h
  | y :: r, k, h, 0, x, hx => by
    simp only [List.getElem?_cons_zero, Option.some.injEq] at hx
    subst hx
    exact h.1
  | y :: r, k, h, j + 1, x, hx => by
    rw [List.getElem?_cons_succ] at hx
    have := FitOs2_get h.2 j x hx
    rwa [show k + 1 + j = k + (j + 1) by omega] at this
section
variable {P : Program} {N n : Nat} {news : List Nat} {w0 : World} {Pr X : Nat → Prop} {Z : Nat → Option Value}
theorem FitC2_G {ρ : Nat → Value} {st : St} {a : Act} {w : World} (hg : Gam N w0 Pr X Z ρ st a w) {B : Nat → Prop} {ρ' : Nat → Value} {L' : Nat → Prop}
    (hB : ∀ b, Bk X st.os ρ w b → B b) (hR : ∀ o b, (o < 100000 ∧ o ∉ news) → st.os o ≠ none → blockOf (ρ o) = some b → B b) (hL : ∀ o, 100000 ≤ o → o < 100000 + (n + news.length) → L' o ∧ ρ' o = ρ (srcN n news o)) {x y : V} (hf : FitC2 n news st.os x y) {v : Value} (h : G (Bk X st.os ρ w) w ρ (Lv st.os) x v) : G B w ρ' L' y v := by
  unfold FitC2 at hf
  split at hf
  · subst hf
    rw [G] at h
    subst h
    rw [G, Rd]
    exact ⟨none, 0, rfl, Nat.le_refl _, Nat.zero_le _, fun _ => rfl, fun i h => by simp at h, fun h => absurd rfl h⟩
  · rw [G] at h ⊢; exact h
  · rename_i o m rows
    obtain ⟨hlow, hf⟩ := hf
    split at hf
    · rename_i rows' m' e ho
      obtain ⟨rfl, hm⟩ := hf
      rw [G] at h
      rw [G, h.2]
      have := row_Rd (B := Bk X st.os ρ w) (B' := B) (hg.obj o _ ho) hB (fun b hb => hR o b hlow (by rw [ho]; simp) hb)
      rcases hm with rfl | rfl
      · exact this
      · rw [Rd] at this ⊢
        obtain ⟨A, c, e1, e2, e3, e4, _, _⟩ := this
        exact ⟨A, c, e1, e2, e3, e4, fun i h => by simp at h, fun h => absurd rfl h⟩
    · exact hf.elim
  · obtain ⟨h1, rfl⟩ := hf
    rw [G] at h ⊢
    obtain ⟨h2, h3⟩ := hL _ h1.1 h1.2
    exact ⟨h2, by rw [h3]; exact h.2⟩
  · subst hf
    rw [G] at h ⊢
    exact h.mono hB (fun _ _ => rfl)
  · subst hf
    exact (h.mono hB (fun _ _ => rfl) (fun _ h => h) (fun _ _ => rfl)).pure1' rfl
  · rw [G]; trivial
  · obtain ⟨hin, rfl⟩ := hf
    exact (G.inF (n := n) (fun o h1 h2 => by rw [(hL o h1 (by omega)).2]; unfold srcN; rw [if_pos h2]) (fun o h1 h2 => (hL o h1 (by omega)).1) hin h).mono hB (fun _ _ => rfl) (fun _ h => h) (fun _ _ => rfl)
theorem FitR2_G {ρ : Nat → Value} {st : St} {a : Act} {w : World} (hg : Gam N w0 Pr X Z ρ st a w) {B : Nat → Prop} {ρ' : Nat → Value} {L' : Nat → Prop}
    (hB : ∀ b, Bk X st.os ρ w b → B b) (hR : ∀ o b, (o < 100000 ∧ o ∉ news) → st.os o ≠ none → blockOf (ρ o) = some b → B b) (hL : ∀ o, 100000 ≤ o → o < 100000 + (n + news.length) → L' o ∧ ρ' o = ρ (srcN n news o)) {x y : V} (hf : FitR2 n news st.os x y) {v : Value} (h : G (Bk X st.os ρ w) w ρ (Lv st.os) x v) : G B w ρ' L' y v := by
  unfold FitR2 at hf
  split at hf
  · obtain ⟨e1, e2⟩ := FitsL_get hf
    rw [G] at h ⊢
    obtain ⟨vs, rfl, hl, hv⟩ := h
    exact ⟨vs, rfl, by omega, fun i h1 h2 => FitC2_G hg hB hR hL (e2 i (by omega) h1) (hv i (by omega) h2)⟩
  · rename_i o c ds
    obtain ⟨hlow, hf⟩ := hf
    split at hf
    · rename_i cs e ho
      obtain ⟨e1, e2⟩ := FitsL_get hf
      rw [G] at h
      obtain ⟨hl, b, hb, rfl⟩ := h
      obtain ⟨b', g1, g2, g3⟩ := box_cells (hg.obj o _ ho)
      rw [hb] at g2
      simp only [Option.some.injEq] at g2
      subst g2
      rw [G]
      refine ⟨b, c, rfl, hR o b hlow (by rw [ho]; simp) hb, fun j hj => ?_⟩
      rw [List.length_map, List.length_drop] at e1
      obtain ⟨u, k1, _, k2⟩ := g3 (c + j) (by omega)
      have h3 := e2 j (by rw [List.length_drop]; omega) (by simpa using hj)
      rw [List.getElem_drop, List.getElem_map] at h3
      have h4 := FitC2_G hg hB hR hL h3 k2
      rw [G] at h4
      exact ⟨u, k1, h4⟩
    · exact hf.elim
  · exact FitC2_G hg hB hR hL hf h
theorem FitT2_G {ρ : Nat → Value} {st : St} {a : Act} {w : World} (hg : Gam N w0 Pr X Z ρ st a w) {B : Nat → Prop} {ρ' : Nat → Value} {L' : Nat → Prop}
    (hB : ∀ b, Bk X st.os ρ w b → B b) (hR : ∀ o b, (o < 100000 ∧ o ∉ news) → st.os o ≠ none → blockOf (ρ o) = some b → B b) (hL : ∀ o, 100000 ≤ o → o < 100000 + (n + news.length) → L' o ∧ ρ' o = ρ (srcN n news o)) {x y : V} (hf : FitT2 n news st.os x y) {v : Value} (h : G (Bk X st.os ρ w) w ρ (Lv st.os) x v) : G B w ρ' L' y v := by
  unfold FitT2 at hf
  split at hf
  · obtain ⟨e1, e2⟩ := FitsL_get hf
    rw [G] at h ⊢
    obtain ⟨vs, rfl, hl, hv⟩ := h
    exact ⟨vs, rfl, by omega, fun i h1 h2 => FitR2_G hg hB hR hL (e2 i (by omega) h1) (hv i (by omega) h2)⟩
  · exact FitR2_G hg hB hR hL hf h
end
/-- What such a function must come to. -/
def RetN (n : Nat) (news : List Nat) (C : Cx) (rs : List ResultVar) (r : V) (fp' : List O) : Exit → St → Prop := fun e st => (e = .normal ∨ e = .ret) ∧ FitOs2 n news st.os 100000 fp' ∧ match resV C st rs with
  | some (p, x) => p ∧ FitT2 n news st.os x r
  | none => False
theorem eff_fn2 {P : Program} {C : Int → Cx} (hT : ∀ m, TOK P (C m).T) (hΓ : ∀ m, COk P (C m)) (hcg : ∀ m, (C m).gm.m = m) (hm : P.follows .mixedOrders = true) {f : FuncId} {fn : Func} {code : Code} (hf : P.funcs[f]? = some fn) (hb : fn.body = some code) {args : List V} {fp : List O} {p : Prop} {r : V} {fp' : List O} {news : List Nat}
    (hn : args.length ≤ fn.ntmps) (hlen : fp'.length = fp.length + news.length) (hlow : ∀ o ∈ news, o < 100000) (hnd : news.Nodup) (hkinds : (fp'.take fp.length).map O.isRow = fp.map O.isRow) (hrows : (fp'.drop fp.length).all O.isRow = true) (hok : ∀ m, codeOk (C m).pl fn.ntmps code = true)
    (h : ∀ m, p → run (C m) code (initE args fp) (RetN fp.length news (C m) fn.results.toList r fp')) : EffOk P f args fp p r fp' := by
  have kind : ∀ (k : Nat) (x y : O), fp'[k]? = some x → fp[k]? = some y → x.isRow = y.isRow := fun k x y hx hy => by
    have hlt := (List.getElem?_eq_some_iff.1 hy).1
    have : ((fp'.take fp.length).map O.isRow)[k]? = (fp.map O.isRow)[k]? := by rw [hkinds]
    simp only [List.getElem?_map, List.getElem?_take, hlt, if_true, hx, hy, Option.map_some, Option.some.injEq] at this
    exact this
  have newRow : ∀ (k : Nat) (x : O), fp.length ≤ k → fp'[k]? = some x → x.isRow = true := fun k x hk hx => by
    refine List.all_eq_true.1 hrows x (List.mem_of_getElem? (i := k - fp.length) ?_)
    rw [List.getElem?_drop, show fp.length + (k - fp.length) = k by omega]
    exact hx
  refine ⟨by omega, fun k x hk => ?_, ?_⟩
  · cases he : fp[k]? with
    | some y => exact kind k _ _ hk he
    | none => exact newRow k x (List.getElem?_eq_none_iff.1 he) hk
  intro w B ρ vs hB ⟨⟨gm, hgm⟩, hgf⟩ hone hobj hinj ha hp
  refine calls_of_wp hf hb ?_
  have hvl : vs.length = args.length := ha.1
  have hg : Gam fn.ntmps w (fun b => b < w.heap.size ∧ ∀ o, fos fp o ≠ none → blockOf (ρ o) ≠ some b) (fun b => B b ∨ w.heap.size ≤ b ∨ ∃ o, fos fp o ≠ none ∧ blockOf (ρ o) = some b)
      (fun o => match fos fp o with | some x => if x.isRow then none else some (ρ o) | none => none) ρ (initE args fp) { tmps := vs.toArray ++ Array.replicate (fn.ntmps - vs.toArray.size) undef, defers := [] } w := by
    have hbk : ∀ b, B b → Bk (fun b => B b ∨ w.heap.size ≤ b ∨ ∃ o, fos fp o ≠ none ∧ blockOf (ρ o) = some b) (initE args fp).os ρ w b := fun b hb => ⟨⟨(hB b hb).1, .inl hb⟩, (hB b hb).2⟩
    refine ⟨rfl, by simp; omega, fun t => ?_, fun o x h => (hobj o x h).mono hbk (fun _ _ => rfl) (fun _ h => h) (fun _ _ => rfl) rfl (fun _ _ => rfl), hinj, hone, fun b hb => rfl, fun o b ho e hp => hp.2 o ho e, fun b h => h.1, Nat.le_refl _, rfl, rfl, rfl, fun b hb => .inr (.inl hb), fun o b ho e => .inr (.inr ⟨o, ho, e⟩), fun o v hz => ?_, ⟨⟨gm, hgm⟩, hgm.lt, hgf⟩⟩
    · by_cases ht : t < args.length
      · have e1 : (initE args fp).env t = args[t] := by simp [initE, List.getD_eq_getElem?_getD, ht]
        have e2 : (vs.toArray ++ Array.replicate (fn.ntmps - vs.toArray.size) undef).getD t undef = vs[t]'(by omega) := by
          simp [Array.getD_eq_getD_getElem?, Array.getElem?_append, show t < vs.length by omega]
        rw [e1, e2]
        exact (ha.2 t ht (by omega)).mono hbk (fun _ _ => rfl) (fun _ h => h) (fun _ _ => rfl)
      · have e1 : (initE args fp).env t = .top := by
          show args.getD t .top = .top
          rw [List.getD_eq_getElem?_getD, List.getElem?_eq_none (by omega)]
          rfl
        rw [e1, G]
        trivial
    · split at hz
      · rename_i x ho
        split at hz
        · cases hz
        · rename_i hxr
          simp only [Option.some.injEq] at hz
          obtain ⟨k, rfl, _⟩ := fos_some ho
          exact ⟨by omega, hz, x, ho, by simpa using hxr⟩
      · cases hz
  refine run_sound (hT gm) (hΓ gm) (by rw [hcg]; exact hgm) hm code (initE args fp) _ _ ρ _ w (hok gm) ?_ hg (h gm hp)
  rintro e a' w' ⟨st', ρs, ⟨he, hfo, hr⟩, hg'⟩
  split at hr
  · rename_i q x hx
    obtain ⟨v, hv, hxv⟩ := resV_run (hT gm) hg' hx hr.1
    have fosLt : ∀ {l : List O} {o}, fos l o ≠ none → 100000 ≤ o ∧ o < 100000 + l.length := fun {l o} h => by
      obtain ⟨x, hx⟩ := Option.ne_none_iff_exists'.1 h
      obtain ⟨k, rfl, hk⟩ := fos_some hx
      have := (List.getElem?_eq_some_iff.1 hk).1
      omega
    have fosOf : ∀ {l : List O} {o}, 100000 ≤ o → o < 100000 + l.length → fos l o ≠ none := fun {l o} h1 h2 => by
      unfold fos
      rw [if_pos h1, List.getElem?_eq_getElem (by omega)]
      simp
    have fit : ∀ {o x}, fos fp' o = some x → FitO2 fp.length news st'.os (st'.os (srcN fp.length news o)) x := fun {o x} h => by
      obtain ⟨k, rfl, hk⟩ := fos_some h
      exact FitOs2_get hfo k x hk
    have liveF : ∀ {o}, fos fp' o ≠ none → st'.os (srcN fp.length news o) ≠ none := fun {o} h => by
      obtain ⟨x, hx⟩ := Option.ne_none_iff_exists'.1 h
      have := fit hx
      intro e
      rw [e] at this
      cases x <;> exact this
    have srcInj : ∀ {o o'}, fos fp' o ≠ none → fos fp' o' ≠ none → srcN fp.length news o = srcN fp.length news o' → o = o' := fun {o o'} h h' e => by
      obtain ⟨a1, a2⟩ := fosLt h
      obtain ⟨b1, b2⟩ := fosLt h'
      have low : ∀ {o}, 100000 + fp.length ≤ o → o < 100000 + fp'.length → ∃ (h : o - 100000 - fp.length < news.length), srcN fp.length news o = news[o - 100000 - fp.length] := fun {o} h1 h2 => by
        have hl : o - 100000 - fp.length < news.length := by omega
        refine ⟨hl, ?_⟩
        unfold srcN
        rw [if_neg (by omega), List.getD_eq_getElem?_getD, List.getElem?_eq_getElem hl]
        rfl
      have hi : ∀ {o}, o < 100000 + fp.length → srcN fp.length news o = o := fun {o} h1 => by unfold srcN; rw [if_pos h1]
      by_cases c : o < 100000 + fp.length
      · by_cases c' : o' < 100000 + fp.length
        · rw [hi c, hi c'] at e; exact e
        · obtain ⟨hl, e2⟩ := low (by omega) b2
          rw [hi c, e2] at e
          have := hlow _ (List.getElem_mem hl)
          omega
      · obtain ⟨hl, e2⟩ := low (by omega) a2
        by_cases c' : o' < 100000 + fp.length
        · rw [hi c', e2] at e
          have := hlow _ (List.getElem_mem hl)
          omega
        · obtain ⟨hl', e2'⟩ := low (by omega) b2
          rw [e2, e2'] at e
          have := (List.getElem_inj hnd).1 e
          omega
    let ρ' : Nat → Value := fun o => match fos fp' o with
      | some _ => ρs (srcN fp.length news o)
      | none => ρ o
    have ρ'_some : ∀ {o}, fos fp' o ≠ none → ρ' o = ρs (srcN fp.length news o) := fun {o} h => by
      obtain ⟨x, hx⟩ := Option.ne_none_iff_exists'.1 h
      simp only [ρ', hx]
    have ρ'_none : ∀ {o}, fos fp' o = none → ρ' o = ρ o := fun {o} h => by simp only [ρ', h]
    have box_fix : ∀ {o x}, fos fp' o = some x → x.isRow = false → ρs (srcN fp.length news o) = ρ o := fun {o x} h hxr => by
      obtain ⟨k, rfl, hk⟩ := fos_some h
      rcases Nat.lt_or_ge k fp.length with c | c
      · have hy : fp[k]? = some (fp[k]'c) := List.getElem?_eq_getElem c
        have := kind k _ _ hk hy
        rw [hxr] at this
        unfold srcN
        rw [if_pos (by omega)]
        exact (hg'.fix (100000 + k) (ρ (100000 + k)) (by simp only [fos_at, hy]; rw [← this]; rfl)).2.1
      · have := newRow k x c hk
        rw [hxr] at this
        cases this
    have newOk : ∀ b, b < w'.heap.size → (B b ∨ w.heap.size ≤ b ∨ ∃ o, fos fp o ≠ none ∧ blockOf (ρ o) = some b) → (∀ o, fos fp' o ≠ none → blockOf (ρs (srcN fp.length news o)) ≠ some b) → newB B w w' (fos fp) ρ (fos fp') ρ' b := fun b hlt hX hno => ⟨hlt, hX, fun o ho => by rw [ρ'_some ho]; exact hno o ho⟩
    have bk_new : ∀ b, Bk (fun b => B b ∨ w.heap.size ≤ b ∨ ∃ o, fos fp o ≠ none ∧ blockOf (ρ o) = some b) st'.os ρs w' b → newB B w w' (fos fp) ρ (fos fp') ρ' b := fun b hb => newOk b hb.1.1 hb.1.2 fun o ho => hb.2 _ (liveF ho)
    have row_new : ∀ o b, (o < 100000 ∧ o ∉ news) → st'.os o ≠ none → blockOf (ρs o) = some b → newB B w w' (fos fp) ρ (fos fp') ρ' b := fun o b hlo hl e => by
      obtain ⟨y, hy⟩ := Option.ne_none_iff_exists'.1 hl
      refine newOk b ((hg'.obj o y hy).lt e) (hg'.xo o b hl e) fun o' ho' e' => ?_
      have h1 := hg'.inj o _ b hl (liveF ho') e e'
      obtain ⟨a1, a2⟩ := fosLt ho'
      unfold srcN at h1
      split at h1
      · omega
      · rw [List.getD_eq_getElem?_getD, List.getElem?_eq_getElem (by omega)] at h1
        exact hlo.2 (h1 ▸ List.getElem_mem _)
    have hL : ∀ o, 100000 ≤ o → o < 100000 + (fp.length + news.length) → Lv (fos fp') o ∧ ρ' o = ρs (srcN fp.length news o) := fun o h1 h2 => ⟨fosOf h1 (by omega), ρ'_some (fosOf h1 (by omega))⟩
    have G1 : ∀ {x y : V} {v : Value}, FitC2 fp.length news st'.os x y → G (Bk (fun b => B b ∨ w.heap.size ≤ b ∨ ∃ o, fos fp o ≠ none ∧ blockOf (ρ o) = some b) st'.os ρs w') w' ρs (Lv st'.os) x v → G (newB B w w' (fos fp) ρ (fos fp') ρ') w' ρ' (Lv (fos fp')) y v := fun hfc hx => FitC2_G hg' bk_new row_new hL hfc hx
    have done : a'.defers = [] ∧ ∃ v, (results fn a'.tmps).run P w' = .ok v w' ∧ ∃ v' ρ', Ending.returned v = .returned v' ∧ Grown w w' (fos fp) ρ ∧ (∀ o, isRowAt (fos fp') o = false → ρ' o = ρ o) ∧ (∀ o, (ρ' o).oneCell' = true) ∧
        (∀ o b, isRowAt (fos fp') o = true → blockOf (ρ' o) = some b → (∃ o', fos fp o' ≠ none ∧ blockOf (ρ o') = some b) ∨ w.heap.size ≤ b) ∧ InjOn (fos fp') ρ' ∧
        (∀ o x, fos fp' o = some x → objOk (newB B w w' (fos fp) ρ (fos fp') ρ') w' ρ' (Lv (fos fp')) o x) ∧ G (newB B w w' (fos fp) ρ (fos fp') ρ') w' ρ' (Lv (fos fp')) r v' := by
      refine ⟨hg'.defers, v, hv, v, ρ', rfl, ⟨hg'.grow, hg'.os', hg'.tape, hg'.output, fun b hb hno => hg'.keep b ⟨hb, hno⟩⟩, fun o ho => ?_, fun o => ?_, fun o b ho e => ?_, fun o o' b h1 h2 e1 e2 => ?_, fun o x ho => ?_, FitT2_G hg' bk_new row_new hL hr.2 hxv⟩
      · cases e : fos fp' o with
        | none => exact ρ'_none e
        | some x =>
          rw [ρ'_some (by rw [e]; simp)]
          exact box_fix e (by rw [isRowAt, e] at ho; exact ho)
      · cases e : fos fp' o with
        | none => rw [ρ'_none e]; exact hone o
        | some x => rw [ρ'_some (by rw [e]; simp)]; exact hg'.one _
      · have hne : fos fp' o ≠ none := fun e2 => by rw [isRowAt, e2] at ho; cases ho
        rw [ρ'_some hne] at e
        rcases hg'.xo _ b (liveF hne) e with h | h | ⟨o', h1, h2⟩
        · exfalso
          exact hg'.prot _ b (liveF hne) e (hB b h)
        · exact .inr h
        · exact .inl ⟨o', h1, h2⟩
      · rw [ρ'_some h1] at e1
        rw [ρ'_some h2] at e2
        exact srcInj h1 h2 (hg'.inj _ _ b (liveF h1) (liveF h2) e1 e2)
      · have hne : fos fp' o ≠ none := by rw [ho]; simp
        have hft := fit ho
        obtain ⟨y, hy⟩ := Option.ne_none_iff_exists'.1 (liveF hne)
        have hoy := hg'.obj _ y hy
        rw [hy] at hft
        cases y with
        | box cs e =>
          cases x with
          | row rows m e2 => exact hft.elim
          | raw K => exact hft.elim
          | arr r k t => exact hft.elim
          | box cs' e' =>
            obtain ⟨f1, rfl⟩ := hft
            obtain ⟨g1, g2⟩ := FitsL_get f1
            obtain ⟨b, vs', k1, k2, k3, k4⟩ := hoy
            exact ⟨b, vs', by rw [ρ'_some hne]; exact k1, k2, ⟨by rw [k3.1, g1], fun i h1 h2 => G1 (g2 i (by omega) h1) (k3.2 i (by omega) h2)⟩, k4⟩
        | row rows m e =>
          cases x with
          | box cs' e' => exact hft.elim
          | raw K => exact hft.elim
          | arr r k t => exact hft.elim
          | row rows' m' e' =>
            obtain ⟨rfl, rfl, rfl⟩ := hft
            obtain ⟨xs, ⟨k1, k2⟩, k3⟩ := hoy
            exact ⟨xs, ⟨k1, by rw [ρ'_some hne]; exact k2⟩, k3.mono bk_new (fun _ _ => rfl)⟩
        | arr rows m e =>
          cases x with
          | box cs' e' => exact hft.elim
          | raw K => exact hft.elim
          | row r k t => exact hft.elim
          | arr rows' m' e' =>
            obtain ⟨rfl, rfl, rfl⟩ := hft
            obtain ⟨xs, ⟨k1, k2⟩, k3⟩ := hoy
            exact ⟨xs, ⟨k1, by rw [ρ'_some hne]; exact k2⟩, k3.mono bk_new (fun _ _ => rfl)⟩
        | raw K =>
          cases x with
          | box cs' e' => exact hft.elim
          | row rows m e2 => exact hft.elim
          | arr r k t => exact hft.elim
          | raw K' =>
            obtain rfl : K = K' := hft
            obtain ⟨b, y, k1, k2, k3⟩ := hoy
            exact ⟨b, y, by rw [ρ'_some hne]; exact k1, k2, by rw [ρ'_some hne]; exact k3⟩
    rcases he with rfl | rfl
    · exact done
    · exact done
  · exact hr.elim
end Go.Proofs.YtgnnakibcjonbaaGreatDoor.VE

/- The evaluator as a program: calls. -/
namespace Go.Proofs.YtgnnakibcjonbaaGreatDoor.VE
open Go Go.RowKit
set_option linter.unusedVariables false
set_option maxRecDepth 100000
set_option linter.unusedSimpArgs false
theorem pos_none {o : Nat} : ∀ {l : List Nat}, pos l o = none → o ∉ l
  | [], _ => by simp
  | x :: r, h => by
    unfold pos at h
    by_cases c : o = x
    · simp [c] at h
    · simp only [if_neg c, Option.map_eq_none_iff] at h
      simp only [List.mem_cons, not_or]
      exact ⟨c, pos_none h⟩
/-- What a contract says of a value: rows of the function's own are new rows of the contract, or data. -/
def outC (n : Nat) (news : List Nat) (os : Nat → Option O) : V → V
  | .nil => .nil
  | .row o => match pos news o with
    | some k => .row (100000 + n + k)
    | none => if o < 100000 then (match os o with
      | some (.row rows m _) => .d (.sl m rows)
      | _ => .top) else if o < 100000 + n then .row o else .top
  | .d x => .d x
  | .dptr x => .dptr x
  | .top => .top
  | x => if x.inF n then x else .top
theorem outC_ok (n : Nat) (news : List Nat) (os : Nat → Option O) (x : V) : FitC2 n news os x (outC n news os x) := by
  cases x with
  | row o =>
    have t : FitC2 n news os (.row o) .top := by simp only [FitC2]
    have e : outC n news os (.row o) = match pos news o with
      | some k => .row (100000 + n + k)
      | none => if o < 100000 then (match os o with
        | some (.row rows m _) => .d (.sl m rows)
        | _ => .top) else if o < 100000 + n then .row o else .top := rfl
    rw [e]
    cases hp : pos news o with
    | some k =>
      have h1 := pos_get hp
      have h2 := (List.getElem?_eq_some_iff.1 h1).1
      show (100000 ≤ 100000 + n + k ∧ 100000 + n + k < 100000 + (n + news.length)) ∧ o = srcN n news (100000 + n + k)
      refine ⟨⟨by omega, by omega⟩, ?_⟩
      unfold srcN
      rw [if_neg (by omega), show 100000 + n + k - 100000 - n = k by omega, List.getD_eq_getElem?_getD, h1]
      rfl
    | none =>
      simp only
      by_cases h : o < 100000
      · rw [if_pos h]
        cases h2 : os o with
        | none => exact t
        | some y =>
          cases y with
          | row rows m e =>
            simp only [FitC2, h2]
            exact ⟨⟨h, pos_none hp⟩, trivial, .inl trivial⟩
          | box cs e => exact t
          | raw K => exact t
          | arr r k t2 => exact t
      · rw [if_neg h]
        by_cases h2 : o < 100000 + n
        · rw [if_pos h2]
          show (100000 ≤ o ∧ o < 100000 + (n + news.length)) ∧ o = srcN n news o
          exact ⟨⟨by omega, by omega⟩, by unfold srcN; rw [if_pos h2]⟩
        · rw [if_neg h2]; exact t
  | ptr o c =>
    simp only [outC]
    split
    · rename_i h; simp only [FitC2]; exact ⟨h, trivial⟩
    · simp only [FitC2]
  | rptr o m i j =>
    simp only [outC]
    split
    · rename_i h; simp only [FitC2]; exact ⟨h, trivial⟩
    · simp only [FitC2]
  | agg cs =>
    simp only [outC]
    split
    · rename_i h; simp only [FitC2]; exact ⟨h, trivial⟩
    · simp only [FitC2]
  | tup cs =>
    simp only [outC]
    split
    · rename_i h; simp only [FitC2]; exact ⟨h, trivial⟩
    · simp only [FitC2]
  | fnc f cs =>
    simp only [outC]
    split
    · rename_i h; simp only [FitC2]; exact ⟨h, trivial⟩
    · simp only [FitC2]
  | whn b x =>
    simp only [outC]
    split
    · rename_i h; simp only [FitC2]; exact ⟨h, trivial⟩
    · simp only [FitC2]
  | _ => simp only [outC, FitC2]
theorem FitsL_map {f : V → V → Prop} {g : V → V} (h : ∀ x, f x (g x)) : ∀ l : List V, FitsL f l (l.map g)
  | [] => trivial
  | x :: r => ⟨h x, FitsL_map h r⟩
def outD (n : Nat) (news : List Nat) (os : Nat → Option O) (x : V) : Option D :=
  match x with
  | .nil => some (.sl 0 [])
  | .d y => some y
  | x => match outC n news os x with
    | .d y => some y
    | _ => none
theorem outD_ok {n : Nat} {news : List Nat} {os : Nat → Option O} {x : V} {y : D} (h : outD n news os x = some y) : FitC2 n news os x (.d y) := by
  unfold outD at h
  split at h
  · simp only [Option.some.injEq] at h; subst h; simp only [FitC2]
  · simp only [Option.some.injEq] at h; subst h; simp only [FitC2]
  · split at h
    · rename_i y' hy
      simp only [Option.some.injEq] at h
      subst h
      have := outC_ok n news os x
      rwa [hy] at this
    · cases h
def outDs (n : Nat) (news : List Nat) (os : Nat → Option O) : List V → Option (List D)
  | [] => some []
  | x :: r => match outD n news os x, outDs n news os r with
    | some y, some l => some (y :: l)
    | _, _ => none
theorem outDs_ok {n : Nat} {news : List Nat} {os : Nat → Option O} : ∀ {xs : List V} {l : List D}, outDs n news os xs = some l → FitsL (FitC2 n news os) xs (l.map .d)
  | [], l, h => by
    simp only [outDs, Option.some.injEq] at h
    subst h; trivial
  | x :: r, l, h => by
    simp only [outDs] at h
    split at h
    · rename_i y q hy hq
      simp only [Option.some.injEq] at h
      subst h
      exact ⟨outD_ok hy, outDs_ok hq⟩
    · cases h
def outPt (n : Nat) (news : List Nat) (os : Nat → Option O) (o c : Nat) : Option O → V
  | some (.box cs _) => match outDs n news os (cs.drop c) with
    | some ds => .dptr ds
    | none => .top
  | _ => .top
def outR (n : Nat) (news : List Nat) (os : Nat → Option O) : V → V
  | .agg xs => .agg (xs.map (outC n news os))
  | .ptr o c => if Nat.ble 100000 o then outC n news os (.ptr o c) else if memB o news then .top else outPt n news os o c (os o)
  | x => outC n news os x
theorem outR_ok (n : Nat) (news : List Nat) (os : Nat → Option O) (x : V) : FitR2 n news os x (outR n news os x) := by
  cases x with
  | agg xs => exact FitsL_map (outC_ok n news os) _
  | ptr o c =>
    have t : FitR2 n news os (.ptr o c) .top := by simp only [FitR2, FitC2]
    simp only [outR]
    split
    · have hk := outC_ok n news os (.ptr o c)
      simp only [outC] at hk ⊢
      split
      · rename_i h; simp only [FitR2, FitC2]; exact ⟨h, trivial⟩
      · exact t
    · rename_i hc
      have h1 : o < 100000 := by
        rcases Nat.lt_or_ge o 100000 with h | h
        · exact h
        · exact absurd (Nat.ble_eq_true_of_le h) hc
      split
      · exact t
      rename_i hc2
      have h2 : o ∉ news := fun h => hc2 (memB_iff.2 h)
      cases ho : os o with
      | none => exact t
      | some y =>
        cases y with
        | box cs e =>
          simp only [outPt]
          split
          · rename_i ds hds
            refine ⟨⟨h1, h2⟩, ?_⟩
            rw [ho]
            exact outDs_ok hds
          · exact t
        | row rows m e => exact t
        | raw K => exact t
        | arr r k t2 => exact t
  | _ => have := outC_ok n news os; simp only [outR, FitR2]; exact this _
def outT (n : Nat) (news : List Nat) (os : Nat → Option O) : V → V
  | .tup xs => .tup (xs.map (outR n news os))
  | x => outR n news os x
theorem outT_ok (n : Nat) (news : List Nat) (os : Nat → Option O) (x : V) : FitT2 n news os x (outT n news os x) := by
  cases x <;> first
    | exact FitsL_map (outR_ok n news os) _
    | (have := outR_ok n news os; simp only [outT, FitT2]; exact this _)
def outO (n : Nat) (news : List Nat) (os : Nat → Option O) : O → O
  | .box cs e => .box (cs.map (outC n news os)) e
  | x => x
theorem outO_ok (n : Nat) (news : List Nat) (os : Nat → Option O) (x : O) : FitO2 n news os (some x) (outO n news os x) := by
  cases x with
  | box cs e => exact ⟨FitsL_map (outC_ok n news os) _, rfl⟩
  | row rows m e => exact ⟨rfl, rfl, rfl⟩
  | raw K => rfl
  | arr rows m e => exact ⟨rfl, rfl, rfl⟩
def outOs (n : Nat) (news : List Nat) (os : Nat → Option O) : Nat → Nat → Option (List O)
  | _, 0 => some []
  | k, c + 1 => match os k, outOs n news os (k + 1) c with
    | some x, some l => some (outO n news os x :: l)
    | _, _ => none
theorem outOs_ok {n : Nat} {news : List Nat} {os : Nat → Option O} : ∀ {c k : Nat} {l : List O}, outOs n news os k c = some l → l.length = c ∧ ∀ (j : Nat) (x : O), l[j]? = some x → FitO2 n news os (os (k + j)) x
  | 0, k, l, h => by
    simp only [outOs, Option.some.injEq] at h
    subst h
    exact ⟨rfl, fun j x h => by simp at h⟩
  | c + 1, k, l, h => by
    simp only [outOs] at h
    split at h
    · rename_i x l' hx hl
      simp only [Option.some.injEq] at h
      subst h
      obtain ⟨h1, h2⟩ := outOs_ok hl
      refine ⟨by simp [h1], fun j y hj => ?_⟩
      cases j with
      | zero =>
        simp only [List.getElem?_cons_zero, Option.some.injEq] at hj
        subst hj
        rw [Nat.add_zero, hx]
        exact outO_ok n news os x
      | succ j =>
        rw [List.getElem?_cons_succ] at hj
        have := h2 j y hj
        rwa [show k + 1 + j = k + (j + 1) by omega] at this
    · cases h
theorem FitOs2_of {n : Nat} {news : List Nat} {os : Nat → Option O} : ∀ {l : List O} {k : Nat}, (∀ (j : Nat) (x : O), l[j]? = some x → FitO2 n news os (os (srcN n news (k + j))) x) → FitOs2 n news os k l
  | [], _, _ => trivial
  | x :: r, k, h => ⟨h 0 x rfl, FitOs2_of fun j y hj => by
    have := h (j + 1) y (by rw [List.getElem?_cons_succ]; exact hj)
    rwa [show k + (j + 1) = k + 1 + j by omega] at this⟩
/-- The function's own rows that its boxes hold, and that it returns. -/
def ownL (os : Nat → Option O) : List V → List Nat → List Nat
  | [], acc => acc
  | .row o :: r, acc => if Nat.ble 100000 o || memB o acc then ownL os r acc else ownL os r (acc ++ [o])
  | _ :: r, acc => ownL os r acc
def ownB (os : Nat → Option O) : Nat → Nat → List Nat → List Nat
  | _, 0, acc => acc
  | k, c + 1, acc => match os k with
    | some (.box cs _) => ownB os (k + 1) c (ownL os cs acc)
    | _ => ownB os (k + 1) c acc
def ownR (os : Nat → Option O) (x : V) (acc : List Nat) : List Nat :=
  match x with
  | .row o => match os o with
    | some (.row _ _ _) => ownL os [.row o] acc
    | _ => acc
  | _ => acc
def lowB (l : List Nat) : Bool := nodupB l && l.all fun o => Nat.blt o 100000
def resB (st : St) : List ResultVar → Bool
  | [] => true
  | .tmp _ :: r => resB st r
  | .cell a _ :: r => loadB st.os (st.env a) && resB st r
theorem resVs_ok {C : Cx} {st : St} : ∀ {rs : List ResultVar} {p : Prop} {vs : List V}, resVs C st rs = some (p, vs) → resB st rs = true → p
  | [], p, vs, h, _ => by
    simp only [resVs, Option.some.injEq, Prod.mk.injEq] at h
    rw [← h.1]; trivial
  | r :: rs, p, vs, h, hb => by
    unfold resVs at h
    split at h
    · rename_i p1 v q vs' h1 h2
      simp only [Option.some.injEq, Prod.mk.injEq] at h
      rw [← h.1]
      cases r with
      | tmp t =>
        simp only [resV1, Option.some.injEq, Prod.mk.injEq] at h1
        rw [← h1.1]
        exact ⟨trivial, resVs_ok h2 hb⟩
      | cell a t =>
        simp only [resB, Bool.and_eq_true] at hb
        exact ⟨loadB_ok h1 hb.1, resVs_ok h2 hb.2⟩
    · cases h
theorem resV_ok {C : Cx} {st : St} {rs : List ResultVar} {p : Prop} {v : V} (h : resV C st rs = some (p, v)) (hb : resB st rs = true) : p := by
  unfold resV at h
  split at h
  · rename_i hs
    simp only [Option.some.injEq, Prod.mk.injEq] at h
    rw [← h.1]; exact resVs_ok hs hb
  · rename_i hs
    simp only [Option.some.injEq, Prod.mk.injEq] at h
    rw [← h.1]; exact resVs_ok hs hb
  · cases h
theorem resVs_atm {C : Cx} {m : Int} {st : St} : ∀ rs : List ResultVar, resVs (atm C m) st rs = resVs C st rs
  | [] => rfl
  | r :: rs => by
    unfold resVs
    rw [resVs_atm rs]
    cases r <;> rfl
theorem resV_atm {C : Cx} {m : Int} {st : St} {rs : List ResultVar} : resV (atm C m) st rs = resV C st rs := by
  unfold resV
  rw [resVs_atm]
/-- A function that may be run. -/
structure FE (P : Program) where
  f : FuncId
  fn : Func
  code : Code
  pl : Nat → List (Nat × List Nat)
  pu : Bool
  hf : P.funcs[f]? = some fn
  hb : fn.body = some code
  ok : codeOk pl fn.ntmps code = true
  nm : (fn.name == "runtime.NumGoroutine") = false
  nb : fn.body.isNone = false
def codeOf : Option Code → Code
  | some c => c
  | none => .skip
theorem codeOf_some {o : Option Code} (h : o.isNone = false) : o = some (codeOf o) := by cases o <;> simp [codeOf] at h ⊢
@[noinline] def FE.of {P : Program} (f : FuncId) (fn : Func) (pl : Nat → List (Nat × List Nat)) (pu : Bool) (hf : P.funcs[f]? = some fn) (nb : fn.body.isNone = false) (ok : codeOk pl fn.ntmps (codeOf fn.body) = true) (nm : (fn.name == "runtime.NumGoroutine") = false) : FE P := ⟨f, fn, codeOf fn.body, pl, pu, hf, codeOf_some nb, ok, nm, nb⟩
theorem FE.fnOk {P : Program} (F : FE P) : FnOk P F.f := ⟨F.fn, F.hf, F.nm, F.nb⟩
/-- A tree of functions. -/
inductive FT (P : Program) where
  | leaf
  | node (F : FE P) (l r : FT P)
def feAt {P : Program} : FT P → FuncId → Option (FE P)
  | .leaf, _ => none
  | .node F l r, f => match Nat.beq f F.f with
    | true => some F
    | false => match Nat.ble f F.f with
      | true => feAt l f
      | false => feAt r f
theorem feAt_f {P : Program} : ∀ {l : FT P} {f : FuncId} {F : FE P}, feAt l f = some F → F.f = f
  | .leaf, _, _, h => by cases h
  | .node G l r, f, F, h => by
    simp only [feAt] at h
    split at h
    · rename_i e
      simp only [Option.some.injEq] at h
      rw [← h]; exact (Nat.eq_of_beq_eq_true e).symm
    · split at h
      · exact feAt_f h
      · exact feAt_f h
def isEnd : Exit → Bool
  | .normal | .ret => true
  | _ => false
theorem isEnd_ok {e : Exit} (h : isEnd e = true) : e = .normal ∨ e = .ret := by
  cases e <;> simp [isEnd] at h <;> simp
/-- What a call leaves, as a contract says it. -/
def kindsB (x y : List O) : Bool := x.map O.isRow == y.map O.isRow
def finN (n : Nat) (news : List Nat) (fp : List O) (x : V) (os : Nat → Option O) : Option (Prop × V × List O) :=
  if lowB news then (match outOs n news os 100000 n, rowObjs os news with
    | some l1, some l2 => if kindsB l1 fp then some (True, outT n news os x, l1 ++ l2) else none
    | _, _ => none) else none
def finX (C : Cx) (fp : List O) (rs : List ResultVar) (st : St) : Option (Prop × V × List O) :=
  if resB st rs then (match resV C st rs with
    | some (_, x) => finN fp.length (ownR st.os x (ownB st.os 100000 fp.length [])) fp x st.os
    | none => none) else none
def begX (args : List V) : List O → St
  | [] => initS args
  | fp => initE args fp
theorem begX_eq (args : List V) (fp : List O) : begX args fp = initE args fp := by
  cases fp with
  | nil =>
    simp only [begX, initS, initE, St.mk.injEq, true_and]
    funext o
    simp [fos]
  | cons x r => rfl
def cxX (Γ : FuncId → List V → Option (Prop × V)) (Δ : FuncId → List V → List O → Option (Prop × V × List O)) (pl : Nat → List (Nat × List Nat)) : Cx := ⟨T, Γ, Δ, pl, ⟨0, fun _ _ => none⟩⟩
/-- One function's call. -/
def callX (Γ : FuncId → List V → Option (Prop × V)) (Δ : FuncId → List V → List O → Option (Prop × V × List O)) (fuel : Nat) (args : List V) (fp : List O) : Option (FE Tryz.prog) → Option (Prop × V × List O)
  | some F => if args.length ≤ F.fn.ntmps then (match runX (cxX Γ Δ F.pl) fuel F.code (begX args fp) with
    | some (e, st) => if isEnd e then finX (cxX Γ Δ F.pl) fp F.fn.results.toList st else none
    | none => none) else none
  | none => none
/-- A result as data, where it is that. -/
def outP1 (os : Nat → Option O) : V → Option V
  | .nil => some .nil
  | .row o => match os o with
    | some (.row rows m _) => some (.d (.sl m rows))
    | _ => none
  | .d x => some (.d x)
  | _ => none
def outPs (f : V → Option V) : List V → Option (List V)
  | [] => some []
  | x :: r => match f x, outPs f r with
    | some y, some l => some (y :: l)
    | _, _ => none
def outP2 (os : Nat → Option O) : V → Option V
  | .agg xs => (outPs (outP1 os) xs).map .agg
  | x => outP1 os x
def outP (os : Nat → Option O) : V → Option V
  | .tup xs => (outPs (outP2 os) xs).map .tup
  | x => outP2 os x
theorem outP1_ok {os : Nat → Option O} {x y : V} (h : outP1 os x = some y) : Fits1 os x y := by
  cases x <;> simp only [outP1, Option.some.injEq, reduceCtorEq] at h
  · subst h; exact rfl
  · subst h; trivial
  · split at h
    · rename_i ho
      simp only [Option.some.injEq] at h
      subst h
      simp only [Fits1, ho]
      exact ⟨trivial, .inl trivial⟩
    · cases h
theorem outPs_ok {f : V → Option V} {F : V → V → Prop} (hf : ∀ {x y}, f x = some y → F x y) : ∀ {xs ys : List V}, outPs f xs = some ys → FitsL F xs ys
  | [], ys, h => by
    simp only [outPs, Option.some.injEq] at h
    subst h; trivial
  | x :: r, ys, h => by
    simp only [outPs] at h
    split at h
    · rename_i y l hy hl
      simp only [Option.some.injEq] at h
      subst h
      exact ⟨hf hy, outPs_ok hf hl⟩
    · cases h
theorem outP2_ok {os : Nat → Option O} {x y : V} (h : outP2 os x = some y) : Fits2 os x y := by
  cases x with
  | agg xs =>
    obtain ⟨l, hl, rfl⟩ := Option.map_eq_some_iff.1 h
    exact outPs_ok outP1_ok hl
  | _ => simp only [outP2] at h; simp only [Fits2]; exact outP1_ok h
theorem outP_ok {os : Nat → Option O} {x y : V} (h : outP os x = some y) : Fits os x y := by
  cases x with
  | tup xs =>
    obtain ⟨l, hl, rfl⟩ := Option.map_eq_some_iff.1 h
    exact outPs_ok outP2_ok hl
  | _ => simp only [outP] at h; simp only [Fits]; exact outP2_ok h
def pureX (Γ : FuncId → List V → Option (Prop × V)) (Δ : FuncId → List V → List O → Option (Prop × V × List O)) (fuel : Nat) (args : List V) : Option (FE Tryz.prog) → Option (Prop × V)
  | some F => if F.pu && (args.all V.pure && decide (args.length ≤ F.fn.ntmps)) then (match runX (cxX Γ Δ F.pl) fuel F.code (initS args) with
    | some (e, st) => if isEnd e && resB st F.fn.results.toList then (match resV (cxX Γ Δ F.pl) st F.fn.results.toList with
      | some (_, x) => (outP st.os x).map fun r => (True, r)
      | none => none) else none
    | none => none) else none
  | none => none
def orK (a : Option (Prop × V)) (b : Option (Prop × V)) : Option (Prop × V) :=
  match a with
  | some q => some q
  | none => b
/-- Calls, n deep: those that only return a value, those that change what they are handed. -/
def callN (kn : FuncId → List V → Option (Prop × V)) (l : FT Tryz.prog) (fuel : Nat) : Nat → (FuncId → List V → Option (Prop × V)) × (FuncId → List V → List O → Option (Prop × V × List O))
  | 0 => (kn, fun _ _ _ => none)
  | n + 1 => (fun f args => orK (kn f args) (pureX (callN kn l fuel n).1 (callN kn l fuel n).2 fuel args (feAt l f)), fun f args fp => callX (callN kn l fuel n).1 (callN kn l fuel n).2 fuel args fp (feAt l f))
section
variable {Γ : FuncId → List V → Option (Prop × V)} {l : FT Tryz.prog} {fuel : Nat}
theorem Sure.of {Δ : FuncId → List V → List O → Option (Prop × V × List O)} {pl : Nat → List (Nat × List Nat)} (hs : ∀ f args p r, Γ f args = some (p, r) → p) (hd : ∀ f args fp p r fp', Δ f args fp = some (p, r, fp') → p) : Sure (cxX Γ Δ pl) := ⟨hs, hd, fun _ _ => rfl⟩
theorem callX_ok {Δ : FuncId → List V → List O → Option (Prop × V × List O)} (hΓ : GOk Tryz.prog Γ) (hs : ∀ f args p r, Γ f args = some (p, r) → p) (hΔ : DOk Tryz.prog Δ) (hd : ∀ f args fp p r fp', Δ f args fp = some (p, r, fp') → p) {args : List V} {fp : List O} {F : FE Tryz.prog} {p : Prop} {r : V} {fp' : List O} (h : callX Γ Δ fuel args fp (some F) = some (p, r, fp')) :
    p ∧ EffOk Tryz.prog F.f args fp p r fp' := by
  simp only [callX] at h
  split at h
  · rename_i hn
    split at h
    · rename_i e st hr
      split at h
      · rename_i he
        have hC := Sure.of (Γ := Γ) (Δ := Δ) (pl := F.pl) hs hd
        have hco : ∀ m, COk Tryz.prog (atm (cxX Γ Δ F.pl) m) := fun m => ⟨hΓ, hΔ, fun f args p r h => (by cases h)⟩
        unfold finX at h
        split at h
        · rename_i hrb
          split at h
          · rename_i q x hx
            have hq := resV_ok hx hrb
            generalize ownR st.os x (ownB st.os 100000 fp.length []) = news at h
            unfold finN at h
            split at h
            · rename_i hlow
              unfold lowB at hlow
              rw [Bool.and_eq_true] at hlow
              split at h
              · rename_i l1 l2 h1 h2
                split at h
                · rename_i hk
                  simp only [Option.some.injEq, Prod.mk.injEq] at h
                  obtain ⟨rfl, rfl, rfl⟩ := h
                  obtain ⟨hl1, hf1⟩ := outOs_ok h1
                  obtain ⟨hl2, hf2⟩ := rowObjs_spec h2
                  refine ⟨trivial, eff_fn2 (C := atm (cxX Γ Δ F.pl)) (news := news) (fun _ => tok) hco (fun _ => rfl) mixed F.hf F.hb hn (by rw [List.length_append, hl1, hl2]) (fun o ho => by simpa using List.all_eq_true.1 hlow.2 o ho) (nodupB_nodup hlow.1) ?_ ?_ (fun _ => F.ok) fun m' _ => ?_⟩
                  · rw [List.take_left' hl1]
                    simpa [kindsB] using hk
                  · rw [List.drop_left' hl1]
                    refine List.all_eq_true.2 fun y hy => ?_
                    obtain ⟨j, hj, rfl⟩ := List.getElem_of_mem hy
                    obtain ⟨_, _, _, rows, m, e, e3⟩ := hf2 j _ (List.getElem?_eq_getElem hj)
                    rw [e3]; rfl
                  · rw [← begX_eq]
                    refine runX_ok hC F.code _ _ _ _ hr ⟨isEnd_ok he, FitOs2_of fun j y hj => ?_, ?_⟩
                    · rcases Nat.lt_or_ge j fp.length with c | c
                      · rw [List.getElem?_append_left (by omega)] at hj
                        unfold srcN
                        rw [if_pos (by omega)]
                        exact hf1 j y hj
                      · rw [List.getElem?_append_right (by omega), hl1] at hj
                        obtain ⟨o, g1, g2, rows, m, e, rfl⟩ := hf2 _ y hj
                        unfold srcN
                        rw [if_neg (by omega), show 100000 + j - 100000 - fp.length = j - fp.length by omega, List.getD_eq_getElem?_getD, g1]
                        show FitO2 _ _ _ (st.os o) _
                        rw [g2]
                        exact ⟨rfl, rfl, rfl⟩
                    · rw [resV_atm, hx]
                      exact ⟨hq, outT_ok _ _ _ _⟩
                · cases h
              · cases h
            · cases h
          · cases h
        · cases h
      · cases h
    · cases h
  · cases h
theorem pureX_ok {Δ : FuncId → List V → List O → Option (Prop × V × List O)} (hΓ : GOk Tryz.prog Γ) (hs : ∀ f args p r, Γ f args = some (p, r) → p) (hΔ : DOk Tryz.prog Δ) (hd : ∀ f args fp p r fp', Δ f args fp = some (p, r, fp') → p) {args : List V} {F : FE Tryz.prog} {p : Prop} {r : V} (h : pureX Γ Δ fuel args (some F) = some (p, r)) :
    p ∧ PureOk Tryz.prog F.f args p r := by
  simp only [pureX] at h
  split at h
  · rename_i hn
    rw [Bool.and_eq_true, Bool.and_eq_true, decide_eq_true_eq] at hn
    split at h
    · rename_i e st hr
      split at h
      · rename_i he
        rw [Bool.and_eq_true] at he
        split at h
        · rename_i q x hx
          obtain ⟨y, hy, e2⟩ := Option.map_eq_some_iff.1 h
          simp only [Prod.mk.injEq] at e2
          obtain ⟨rfl, rfl⟩ := e2
          have hC := Sure.of (Γ := Γ) (Δ := Δ) (pl := F.pl) hs hd
          refine ⟨trivial, pure_fn (C := atm (cxX Γ Δ F.pl)) (fun _ => tok) (fun m => ⟨hΓ, hΔ, fun f args p r h => (by cases h)⟩) mixed F.hf F.hb hn.2.2 hn.2.1 (fun _ => rfl) (fun _ => F.ok) fun m _ => ?_⟩
          refine runX_ok hC F.code _ _ _ _ hr ⟨isEnd_ok he.1, ?_⟩
          rw [resV_atm, hx]
          exact ⟨resV_ok hx he.2, outP_ok hy⟩
        · cases h
      · cases h
    · cases h
  · cases h
structure CallsOk (q : (FuncId → List V → Option (Prop × V)) × (FuncId → List V → List O → Option (Prop × V × List O))) : Prop where
  g : GOk Tryz.prog q.1
  gs : ∀ f args p r, q.1 f args = some (p, r) → p
  d : DOk Tryz.prog q.2
  ds : ∀ f args fp p r fp', q.2 f args fp = some (p, r, fp') → p
theorem callN_ok {kn : FuncId → List V → Option (Prop × V)} (hk : GOk Tryz.prog kn) (hs : ∀ f args p r, kn f args = some (p, r) → p) : ∀ n : Nat, CallsOk (callN kn l fuel n)
  | 0 => ⟨hk, hs, fun f args fp p r fp' h => (by cases h), fun f args fp p r fp' h => (by cases h)⟩
  | n + 1 => by
    have ih := callN_ok hk hs n
    have one : ∀ f args fp p r fp', (callN kn l fuel (n + 1)).2 f args fp = some (p, r, fp') → (FnOk Tryz.prog f ∧ EffOk Tryz.prog f args fp p r fp') ∧ p := fun f args fp p r fp' h => by
      simp only [callN] at h
      cases hF : feAt l f with
      | none => rw [hF] at h; cases h
      | some F =>
        rw [hF] at h
        obtain ⟨g1, g2⟩ := callX_ok ih.g ih.gs ih.d ih.ds h
        have e := feAt_f hF
        rw [e] at g2
        exact ⟨⟨e ▸ F.fnOk, g2⟩, g1⟩
    have two : ∀ f args p r, (callN kn l fuel (n + 1)).1 f args = some (p, r) → AnyOk Tryz.prog f args p r ∧ p := fun f args p r h => by
      simp only [callN] at h
      unfold orK at h
      split at h
      · rename_i q hq
        simp only [Option.some.injEq] at h
        subst h
        exact ⟨hk _ _ _ _ hq, hs _ _ _ _ hq⟩
      · cases hF : feAt l f with
        | none => rw [hF] at h; cases h
        | some F =>
          rw [hF] at h
          obtain ⟨g1, g2⟩ := pureX_ok ih.g ih.gs ih.d ih.ds h
          have e := feAt_f hF
          rw [e] at g2
          exact ⟨.inl ⟨e ▸ F.fnOk, g2⟩, g1⟩
    exact ⟨fun f args p r h => (two f args p r h).1, fun f args p r h => (two f args p r h).2, fun f args fp p r fp' h => (one f args fp p r fp' h).1, fun f args fp p r fp' h => (one f args fp p r fp' h).2⟩
/-- A function without arguments that says yes. -/
def yesX (kn : FuncId → List V → Option (Prop × V)) (l : FT Tryz.prog) (fuel n : Nat) (f : FuncId) : Bool :=
  match (callN kn l fuel n).1 f [] with
  | some (_, .d (.bool true)) => true
  | _ => false
theorem yesX_ok {kn : FuncId → List V → Option (Prop × V)} (hk : GOk Tryz.prog kn) (hs : ∀ f args p r, kn f args = some (p, r) → p) {n : Nat} {f : FuncId} (h : yesX kn l fuel n f = true) : AnyOk Tryz.prog f [] True (.d (.bool true)) := by
  unfold yesX at h
  split at h
  · rename_i p hp
    have ih := callN_ok (l := l) (fuel := fuel) hk hs n
    have h1 := ih.g _ _ _ _ hp
    have h2 := ih.gs _ _ _ _ hp
    rcases h1 with ⟨h3, h4⟩ | h3
    · exact .inl ⟨h3, fun w B ρ L vs hB hgw ho ha _ => h4 w B ρ L vs hB hgw ho ha h2⟩
    · exact .inr fun w B ρ L vs hB hgw ho ha _ => h3 w B ρ L vs hB hgw ho ha h2
  · cases h
end
end Go.Proofs.YtgnnakibcjonbaaGreatDoor.VE

/- Contracts of Go's library that the shelf proves over any program, laid at the seat (written by wip/tools/lays.py). -/
namespace Go.Proofs
open Go Go.Shelf
set_option maxRecDepth 100000
def Tryz.lays219_ren : Ren :=
{
  f := fun x =>
    match x with
    | 219 => 172
    | 217 => 210
    | 225 => 211
    | 224 => 212
    | 267 => 213
    | 266 => 247
    | 314 => 248
    | n => n,
  t := fun x =>
    match x with
    | 9 => 9
    | 3 => 3
    | 4 => 4
    | 5 => 5
    | 46 => 234
    | 146 => 263
    | 51 => 262
    | n => n,
  g := fun x =>
    match x with
    | 1 => 0
    | n => n }
theorem Tryz.lays219 : Lays.n219 Tryz.prog Tryz.lays219_ren :=
{ mixed := by kernel_rfl, f217 := Tryz.func210.trans (by kernel_rfl),
  f219 := Tryz.func172.trans (by kernel_rfl),
  f224 := Tryz.func212.trans (by kernel_rfl),
  f225 := Tryz.func211.trans (by kernel_rfl),
  f266 := Tryz.func247.trans (by kernel_rfl),
  f267 := Tryz.func213.trans (by kernel_rfl),
  f314 := Tryz.func248.trans (by kernel_rfl), t3 := Tryz.underlying3,
  a3 := Tryz.isAgg3, z3 := Tryz.sizeOf3, v3 := Tryz.zeroValue3, t4 := Tryz.underlying4, a4 := Tryz.isAgg4,
  z4 := Tryz.sizeOf4, v4 := Tryz.zeroValue4, t5 := Tryz.underlying5, a5 := Tryz.isAgg5, z5 := Tryz.sizeOf5,
  v5 := Tryz.zeroValue5, t9 := Tryz.underlying9, a9 := Tryz.isAgg9, z9 := Tryz.sizeOf9, v9 := Tryz.zeroValue9,
  t46 := Tryz.underlying234, a46 := Tryz.isAgg234, z46 := Tryz.sizeOf234, v46 := Tryz.zeroValue234,
  t51 := Tryz.underlying262, a51 := Tryz.isAgg262, z51 := Tryz.sizeOf262, v51 := Tryz.zeroValue262,
  t146 := Tryz.underlying263, a146 := Tryz.isAgg263, z146 := Tryz.sizeOf263, v146 := Tryz.zeroValue263,
  g1 := by kernel_rfl }
end Go.Proofs

/- The shelf's contracts as contracts of the evaluator. -/
namespace Go.Proofs.YtgnnakibcjonbaaGreatDoor.VE
open Go Go.RowKit
set_option maxRecDepth 100000
set_option linter.unusedVariables false
set_option linter.unusedSimpArgs false
theorem Rd_simple {B : Nat → Prop} {w : World} {x : D} (hx : x.simple = true) {v : Value} (h : Rd B w x v) : v = x.toV := by
  cases x <;> simp [D.simple] at hx <;> (rw [Rd] at h; exact h)
theorem Gs_simple {B : Nat → Prop} {w : World} {ρ : Nat → Value} {L : Nat → Prop} : ∀ {ds : List D} {vs : List Value}, ds.all D.simple = true → Gs B w ρ L (ds.map .d) vs → vs = ds.map D.toV
  | [], vs, _, h => List.eq_nil_of_length_eq_zero (by simpa using h.1)
  | x :: r, [], _, h => by have := h.1; simp at this
  | x :: r, v :: vs, hx, h => by
    rw [List.all_cons, Bool.and_eq_true] at hx
    have h0 := h.2 0 (by simp) (by simp)
    simp only [List.map_cons, List.getElem_cons_zero, G] at h0
    rw [Rd_simple hx.1 h0]
    have hr : Gs B w ρ L (r.map .d) vs := ⟨by simpa using h.1, fun i h1 h2 => by
      have := h.2 (i + 1) (by simpa using h1) (by simpa using h2)
      simpa using this⟩
    rw [Gs_simple hx.2 hr]
    rfl
/-- A contract over numbers and strings that leaves the world as it is. -/
theorem pure_calls {P : Program} {f : FuncId} {ds : List D} {p : Prop} {v : D} (hds : ds.all D.simple = true) (hv : v.simple = true)
    (h : ∀ m w, GWm m w → p → Calls P f (ds.map D.toV).toArray w fun e w' => e = .returned v.toV ∧ w' = w) : PureOk P f (ds.map .d) p (.d v) := by
  intro w B ρ L vs hB ⟨m, hm⟩ hone ha hp
  rw [Gs_simple hds ha]
  refine (h m w hm hp).mono ?_
  rintro e w' ⟨rfl, rfl⟩
  exact ⟨_, rfl, ⟨Nat.le_refl _, fun _ _ => rfl, rfl, rfl, rfl⟩, by rw [G]; exact (simple_Rd hv).2 rfl⟩
/-- internal/stringslite.Index. -/
theorem t172 (s t : ByteArray) : PureOk Tryz.prog 172 [.d (.str s), .d (.str t)] (s.size < 4294967281) (.d (.int .i64 (Lib.index s.data.toList t.data.toList))) :=
  pure_calls (ds := [.str s, .str t]) rfl rfl fun m w hm hp => Any.stringslite_Index Tryz.lays219 s t m w hp hm
noncomputable def E172 : Ent Tryz.prog := Ent.of 172 (fnOk Tryz.func172 rfl (by kernel_rfl)) (fun
    | [.d (.str s), .d (.str t)] => some (s.size < 4294967281, .d (.int .i64 (Lib.index s.data.toList t.data.toList)))
    | _ => none) fun args p r h => by
    split at h
    · cases h; exact t172 _ _
    · cases h
@[go_sem] theorem E172_f : E172.f = 172 := rfl
@[go_sem] theorem E172_c (s t : ByteArray) : E172.c [.d (.str s), .d (.str t)] = some (s.size < 4294967281, .d (.int .i64 (Lib.index s.data.toList t.data.toList))) := rfl
/-- The same, for the program run. -/
def X172 : Ent Tryz.prog := Ent.of 172 (fnOk Tryz.func172 rfl (by kernel_rfl)) (fun
    | [.d (.str s), .d (.str t)] => if s.size < 4294967281 then some (True, .d (.int .i64 (Lib.index s.data.toList t.data.toList))) else none
    | _ => none) fun args p r h => by
    split at h
    · split at h
      · rename_i hs
        cases h
        exact fun w B ρ L vs hB hgw ho ha _ => t172 _ _ w B ρ L vs hB hgw ho ha hs
      · cases h
    · cases h
theorem X172_s (args : List V) (p : Prop) (r : V) (h : X172.c args = some (p, r)) : p := by
  simp only [X172, Ent.of] at h
  split at h
  · split at h
    · cases h; trivial
    · cases h
  · cases h
/-- What the program run knows beforehand. -/
theorem gam_sure : ∀ {l : List (Ent Tryz.prog)}, (∀ e ∈ l, ∀ args p r, e.c args = some (p, r) → p) → ∀ f args p r, gam l f args = some (p, r) → p
  | [], _, f, args, p, r, h => by cases h
  | e :: l, hl, f, args, p, r, h => by
    unfold gam at h
    split at h
    · exact hl e (by simp) _ _ _ h
    · exact gam_sure (fun e' he => hl e' (by simp [he])) _ _ _ _ h
end Go.Proofs.YtgnnakibcjonbaaGreatDoor.VE

/- Chapter 16: contracts: strings.Index and Contains of "--", names. -/
namespace Go.Proofs.YtgnnakibcjonbaaGreatDoor.VE
open Go Go.RowKit
set_option maxRecDepth 100000
set_option linter.unusedSimpArgs false
set_option linter.unusedVariables false
attribute [go_sem ↓] E172_f E172_c

theorem t105 (s : ByteArray) (t : ByteArray) : PureOk Tryz.prog 105 [.d (.str s), .d (.str t)] (s.size < 4294967281) (.d (.int .i64 (Lib.index s.data.toList t.data.toList))) := by
  refine pure_fn (C := fun gm => ⟨T, gam [E172], dam [], plT [], ⟨gm, fun _ _ => none⟩⟩) (fun _ => tok) (fun gm => cok T _ _ _ gm) mixed Tryz.func105 rfl (Nat.le_of_ble_eq_true rfl) rfl (fun _ => rfl) (fun _ => by kernel_rfl) fun gm hp => ?_
  unfold Tryz.f105
  simp only [go_sem, ↓reduceIte, Nat.reduceEqDiff, reduceCtorEq, Nat.reduceAdd, Nat.reduceLeDiff, Nat.reduceSub]
  exact hp
noncomputable def E105 : Ent Tryz.prog := Ent.of 105 (fnOk Tryz.func105 rfl (by kernel_rfl)) (fun
    | [.d (.str s), .d (.str t)] => some (s.size < 4294967281, .d (.int .i64 (Lib.index s.data.toList t.data.toList)))
    | _ => none) fun args p r h => by
    split at h
    · skip
      cases h; exact t105 _ _
    · cases h
@[go_sem] theorem E105_f : E105.f = 105 := rfl
@[go_sem] theorem E105_c (s : ByteArray) (t : ByteArray) : E105.c [.d (.str s), .d (.str t)] = some (s.size < 4294967281, .d (.int .i64 (Lib.index s.data.toList t.data.toList))) := rfl
theorem t108 (s : ByteArray) (t : ByteArray) : PureOk Tryz.prog 108 [.d (.str s), .d (.str t)] (s.size < 4294967281) (.d (.bool (decide (0 ≤ Lib.index s.data.toList t.data.toList)))) := by
  refine pure_fn (C := fun gm => ⟨T, gam [E105], dam [], plT [], ⟨gm, fun _ _ => none⟩⟩) (fun _ => tok) (fun gm => cok T _ _ _ gm) mixed Tryz.func108 rfl (Nat.le_of_ble_eq_true rfl) rfl (fun _ => rfl) (fun _ => by kernel_rfl) fun gm hp => ?_
  unfold Tryz.f108
  simp only [go_sem, ↓reduceIte, Nat.reduceEqDiff, reduceCtorEq, Nat.reduceAdd, Nat.reduceLeDiff, Nat.reduceSub]
  exact hp
noncomputable def E108 : Ent Tryz.prog := Ent.of 108 (fnOk Tryz.func108 rfl (by kernel_rfl)) (fun
    | [.d (.str s), .d (.str t)] => some (s.size < 4294967281, .d (.bool (decide (0 ≤ Lib.index s.data.toList t.data.toList))))
    | _ => none) fun args p r h => by
    split at h
    · skip
      cases h; exact t108 _ _
    · cases h
@[go_sem] theorem E108_f : E108.f = 108 := rfl
@[go_sem] theorem E108_c (s : ByteArray) (t : ByteArray) : E108.c [.d (.str s), .d (.str t)] = some (s.size < 4294967281, .d (.bool (decide (0 ≤ Lib.index s.data.toList t.data.toList)))) := rfl
/-- A character that no name has. -/
def notName (c : Int) : Bool := !isLetter c && !(decide (48 ≤ c) && decide (c ≤ 57)) && c != 95 && c != 45
theorem t110 (c : Int) : PureOk Tryz.prog 110 [.d (.int .i32 c)] (True) (.d (.bool (notName c))) := by
  refine pure_fn (C := fun gm => ⟨T, gam [E111], dam [], plT [], ⟨gm, fun _ _ => none⟩⟩) (fun _ => tok) (fun gm => cok T _ _ _ gm) mixed Tryz.func110 rfl (Nat.le_of_ble_eq_true rfl) rfl (fun _ => rfl) (fun _ => by kernel_rfl) fun gm hp => ?_
  unfold Tryz.f110
  simp only [go_sem, ↓reduceIte, Nat.reduceEqDiff, reduceCtorEq, Nat.reduceAdd, Nat.reduceLeDiff, Nat.reduceSub]
  simp only [notName]; generalize isLetter c = a; cases a <;> cases decide (48 ≤ c) <;> cases decide (c ≤ 57) <;> cases (c != 95) <;> cases (c != 45) <;> simp
noncomputable def E110 : Ent Tryz.prog := Ent.of 110 (fnOk Tryz.func110 rfl (by kernel_rfl)) (fun
    | [.d (.int .i32 c)] => some (True, .d (.bool (notName c)))
    | _ => none) fun args p r h => by
    split at h
    · skip
      cases h; exact t110 _
    · cases h
@[go_sem] theorem E110_f : E110.f = 110 := rfl
@[go_sem] theorem E110_c (c : Int) : E110.c [.d (.int .i32 c)] = some (True, .d (.bool (notName c))) := rfl
theorem notName_high (c : Int) (h : 128 ≤ c) : notName c = true := by
  simp only [notName, isLetter]
  have h1 : decide (c ≤ 122) = false := by simp; omega
  have h2 : decide (c ≤ 90) = false := by simp; omega
  have h3 : decide (c ≤ 57) = false := by simp; omega
  have h4 : (c != 95) = true := by simp; omega
  have h5 : (c != 45) = true := by simp; omega
  simp [h1, h2, h3, h4, h5]
theorem fn110 : FnV Tryz.prog (.d (.fn 110)) 110 [] := ⟨rfl, rfl, rfl, fnOk Tryz.func110 rfl (by kernel_rfl)⟩
theorem t109_110 (s : ByteArray) : PureOk Tryz.prog 109 [.d (.str s), .d (.fn 110)] True (.d (.bool (anyByte notName s))) := conS _ _ _ fn110 notName notName_high t110 s
noncomputable def E109_110 : Ent Tryz.prog := Ent.of 109 (fnOk Tryz.func109 rfl (by kernel_rfl)) (fun
    | [.d (.str s), .d (.fn 110)] => some (True, .d (.bool (anyByte notName s)))
    | _ => none) fun args p r h => by
    split at h
    · cases h; exact t109_110 _
    · cases h
@[go_sem ↓] theorem E109_110_f : E109_110.f = 109 := rfl
@[go_sem ↓] theorem E109_110_c (s : ByteArray) : E109_110.c [.d (.str s), .d (.fn 110)] = some (True, .d (.bool (anyByte notName s))) := rfl
theorem sEq_nil (s : ByteArray) : sEq s ⟨#[]⟩ = (s.size == 0) := by
  have e : sEq s ⟨#[]⟩ = s.data.toList.isEmpty := by
    unfold sEq
    rw [Lib.toList_data, Lib.toList_data]
    cases s.data.toList <;> rfl
  rw [e]
  show s.data.toList.isEmpty = (s.data.size == 0)
  cases h : s.data.toList with
  | nil => have : s.data.size = 0 := by rw [← Array.length_toList, h]; rfl
           simp [this]
  | cons x r => have : s.data.size = r.length + 1 := by rw [← Array.length_toList, h]; rfl
                simp [this]
theorem byteAt_lt (s : ByteArray) (i : Nat) : 0 ≤ byteAt s i ∧ byteAt s i < 256 := by
  unfold byteAt
  split
  · have := (s[i]).toNat_lt; omega
  · omega
theorem wrap32 (n : Int) (h0 : -2147483648 ≤ n) (h1 : n ≤ 2147483647) : IntKind.i32.wrap n = n := by
  rw [IntKind.wrap_i32]; omega
/-- A name. -/
def isNm (s : ByteArray) : Bool := !(s.size == 0) && decide (s.size ≤ 32) && (byteAt s (s.size - 1) != 45) && !decide (0 ≤ Lib.index s.data.toList [45, 45]) && !anyByte notName s && isLetter (byteAt s 0)
theorem t63 (s : ByteArray) : PureOk Tryz.prog 63 [.d (.str s)] (True) (.d (.bool (isNm s))) := by
  refine pure_fn (C := fun gm => ⟨T, gam [E108, E109_110, E111], dam [], plT [], ⟨gm, fun _ _ => none⟩⟩) (fun _ => tok) (fun gm => cok T _ _ _ gm) mixed Tryz.func63 rfl (Nat.le_of_ble_eq_true rfl) rfl (fun _ => rfl) (fun _ => by kernel_rfl) fun gm hp => ?_
  unfold Tryz.f63
  simp only [go_sem, ↓reduceIte, Nat.reduceEqDiff, reduceCtorEq, Nat.reduceAdd, Nat.reduceLeDiff, Nat.reduceSub]
  have w1 : IntKind.i32.wrap (byteAt s (Int.toNat 0)) = byteAt s 0 := wrap32 _ (by have := (byteAt_lt s 0).1; simp only [Int.toNat_zero]; omega) (by have := (byteAt_lt s 0).2; simp only [Int.toNat_zero]; omega)
  rw [w1]
  simp only [sEq_nil]
  by_cases h0 : s.size = 0
  · simp [h0, isNm]
  · have q1 : (s.size == 0) = false := by simpa using h0
    by_cases h32 : s.size ≤ 32
    · have hw : IntKind.i64.wrap ((s.size : Int) - 1) = ((s.size - 1 : Nat) : Int) := by rw [wrap_small _ (by omega) (by omega)]; omega
      have q2 : decide (32 < (s.size : Int)) = false := by simp; omega
      have q3 : decide (s.size ≤ 32) = true := by simpa using h32
      rw [hw]
      simp only [Int.toNat_natCast, isNm, q1, q2, q3, cond_false, Bool.not_false, Bool.true_and, bne]
      generalize (byteAt s (s.size - 1) == 45) = a
      generalize decide (0 ≤ Lib.index s.data.toList [45, 45]) = b
      generalize anyByte notName s = c
      generalize isLetter (byteAt s 0) = d
      cases a <;> cases b <;> cases c <;> cases d <;> simp <;> omega
    · have q2 : decide (32 < (s.size : Int)) = true := by simp; omega
      have q3 : decide (s.size ≤ 32) = false := by simp; omega
      simp [isNm, q1, q2, q3]
noncomputable def E63 : Ent Tryz.prog := Ent.of 63 (fnOk Tryz.func63 rfl (by kernel_rfl)) (fun
    | [.d (.str s)] => some (True, .d (.bool (isNm s)))
    | _ => none) fun args p r h => by
    split at h
    · skip
      cases h; exact t63 _
    · cases h
@[go_sem] theorem E63_f : E63.f = 63 := rfl
@[go_sem] theorem E63_c (s : ByteArray) : E63.c [.d (.str s)] = some (True, .d (.bool (isNm s))) := rfl
end Go.Proofs.YtgnnakibcjonbaaGreatDoor.VE

/- Chapter 16: contracts of the closures of raw's checks. -/
namespace Go.Proofs.YtgnnakibcjonbaaGreatDoor.VE
open Go Go.RowKit
set_option maxRecDepth 100000
set_option linter.unusedSimpArgs false
set_option linter.unusedVariables false

theorem t65 (x : Ly) (y : Ly) : PureOk Tryz.prog 65 [.agg [.d (.str x.name), .d (.sl 9 (x.fields.map encFd)), .d (.bool x.lowBits)], .dptr [.str y.name, .sl 9 (y.fields.map encFd), .bool y.lowBits]] (True) (.d (.bool (sEq x.name y.name))) := by
  refine pure_fn (C := fun gm => ⟨T, gam [], dam [], plT [], ⟨gm, fun _ _ => none⟩⟩) (fun _ => tok) (fun gm => cok T _ _ _ gm) mixed Tryz.func65 rfl (Nat.le_of_ble_eq_true rfl) rfl (fun _ => rfl) (fun _ => by kernel_rfl) fun gm hp => ?_
  unfold Tryz.f65
  simp only [go_sem, ↓reduceIte, Nat.reduceEqDiff, reduceCtorEq, Nat.reduceAdd, Nat.reduceLeDiff, Nat.reduceSub]
 
noncomputable def E65 : Ent Tryz.prog := Ent.of 65 (fnOk Tryz.func65 rfl (by kernel_rfl)) (fun
    | [.agg [.d (.str x_name), .d (.sl 9 x_fields), .d (.bool x_lowBits)], .dptr [.str y_name, .sl 9 y_fields, .bool y_lowBits]] => (dec encFd x_fields).bind fun x_fields => (dec encFd y_fields).bind fun y_fields => some (True, .d (.bool (sEq (Ly.mk x_name x_fields x_lowBits).name (Ly.mk y_name y_fields y_lowBits).name)))
    | _ => none) fun args p r h => by
    split at h
    · obtain ⟨_, hd0, h0⟩ := Option.bind_eq_some_iff.1 h; clear h; have hd0 := dec_some hd0; subst hd0
      obtain ⟨_, hd1, h1⟩ := Option.bind_eq_some_iff.1 h0; clear h0; have hd1 := dec_some hd1; subst hd1
      cases h1; exact t65 (Ly.mk _ _ _) (Ly.mk _ _ _)
    · cases h
@[go_sem] theorem E65_f : E65.f = 65 := rfl
@[go_sem] theorem E65_c (x_name : ByteArray) (x_fields : List (List D)) (x_lowBits : Bool) (y_name : ByteArray) (y_fields : List (List D)) (y_lowBits : Bool) : E65.c [.agg [.d (.str x_name), .d (.sl 9 x_fields), .d (.bool x_lowBits)], .dptr [.str y_name, .sl 9 y_fields, .bool y_lowBits]] = (dec encFd x_fields).bind fun x_fields => (dec encFd y_fields).bind fun y_fields => some (True, .d (.bool (sEq (Ly.mk x_name x_fields x_lowBits).name (Ly.mk y_name y_fields y_lowBits).name))) := rfl
theorem t114 (x : Fd) (f : Fd) : PureOk Tryz.prog 114 [.agg [.d (.str x.name), .d (.int .i64 x.kind), .d (.int .i64 x.width), .d (.bool x.signed), .d (.bool x.lowFirst), .d (.int .i64 x.purpose), .d (.str x.for_), .d (.int .i64 x.of), .d (.sl 3 (x.choices.map encCh))], .dptr [.str f.name, .int .i64 f.kind, .int .i64 f.width, .bool f.signed, .bool f.lowFirst, .int .i64 f.purpose, .str f.for_, .int .i64 f.of, .sl 3 (f.choices.map encCh)]] (True) (.d (.bool (sEq x.name f.name))) := by
  refine pure_fn (C := fun gm => ⟨T, gam [], dam [], plT [], ⟨gm, fun _ _ => none⟩⟩) (fun _ => tok) (fun gm => cok T _ _ _ gm) mixed Tryz.func114 rfl (Nat.le_of_ble_eq_true rfl) rfl (fun _ => rfl) (fun _ => by kernel_rfl) fun gm hp => ?_
  unfold Tryz.f114
  simp only [go_sem, ↓reduceIte, Nat.reduceEqDiff, reduceCtorEq, Nat.reduceAdd, Nat.reduceLeDiff, Nat.reduceSub]
 
noncomputable def E114 : Ent Tryz.prog := Ent.of 114 (fnOk Tryz.func114 rfl (by kernel_rfl)) (fun
    | [.agg [.d (.str x_name), .d (.int .i64 x_kind), .d (.int .i64 x_width), .d (.bool x_signed), .d (.bool x_lowFirst), .d (.int .i64 x_purpose), .d (.str x_for_), .d (.int .i64 x_of), .d (.sl 3 x_choices)], .dptr [.str f_name, .int .i64 f_kind, .int .i64 f_width, .bool f_signed, .bool f_lowFirst, .int .i64 f_purpose, .str f_for_, .int .i64 f_of, .sl 3 f_choices]] => (dec encCh x_choices).bind fun x_choices => (dec encCh f_choices).bind fun f_choices => some (True, .d (.bool (sEq (Fd.mk x_name x_kind x_width x_signed x_lowFirst x_purpose x_for_ x_of x_choices).name (Fd.mk f_name f_kind f_width f_signed f_lowFirst f_purpose f_for_ f_of f_choices).name)))
    | _ => none) fun args p r h => by
    split at h
    · obtain ⟨_, hd0, h0⟩ := Option.bind_eq_some_iff.1 h; clear h; have hd0 := dec_some hd0; subst hd0
      obtain ⟨_, hd1, h1⟩ := Option.bind_eq_some_iff.1 h0; clear h0; have hd1 := dec_some hd1; subst hd1
      cases h1; exact t114 (Fd.mk _ _ _ _ _ _ _ _ _) (Fd.mk _ _ _ _ _ _ _ _ _)
    · cases h
@[go_sem] theorem E114_f : E114.f = 114 := rfl
@[go_sem] theorem E114_c (x_name : ByteArray) (x_kind : Int) (x_width : Int) (x_signed : Bool) (x_lowFirst : Bool) (x_purpose : Int) (x_for_ : ByteArray) (x_of : Int) (x_choices : List (List D)) (f_name : ByteArray) (f_kind : Int) (f_width : Int) (f_signed : Bool) (f_lowFirst : Bool) (f_purpose : Int) (f_for_ : ByteArray) (f_of : Int) (f_choices : List (List D)) : E114.c [.agg [.d (.str x_name), .d (.int .i64 x_kind), .d (.int .i64 x_width), .d (.bool x_signed), .d (.bool x_lowFirst), .d (.int .i64 x_purpose), .d (.str x_for_), .d (.int .i64 x_of), .d (.sl 3 x_choices)], .dptr [.str f_name, .int .i64 f_kind, .int .i64 f_width, .bool f_signed, .bool f_lowFirst, .int .i64 f_purpose, .str f_for_, .int .i64 f_of, .sl 3 f_choices]] = (dec encCh x_choices).bind fun x_choices => (dec encCh f_choices).bind fun f_choices => some (True, .d (.bool (sEq (Fd.mk x_name x_kind x_width x_signed x_lowFirst x_purpose x_for_ x_of x_choices).name (Fd.mk f_name f_kind f_width f_signed f_lowFirst f_purpose f_for_ f_of f_choices).name))) := rfl
theorem t118 (n : Int) (i : Int) : PureOk Tryz.prog 118 [.d (.int .i64 n), .dptr [.int .i64 i]] (True) (.d (.bool (!within n 0 (IntKind.i64.wrap (i - 1))))) := by
  refine pure_fn (C := fun gm => ⟨T, gam [E115], dam [], plT [], ⟨gm, fun _ _ => none⟩⟩) (fun _ => tok) (fun gm => cok T _ _ _ gm) mixed Tryz.func118 rfl (Nat.le_of_ble_eq_true rfl) rfl (fun _ => rfl) (fun _ => by kernel_rfl) fun gm hp => ?_
  unfold Tryz.f118
  simp only [go_sem, ↓reduceIte, Nat.reduceEqDiff, reduceCtorEq, Nat.reduceAdd, Nat.reduceLeDiff, Nat.reduceSub]
 
noncomputable def E118 : Ent Tryz.prog := Ent.of 118 (fnOk Tryz.func118 rfl (by kernel_rfl)) (fun
    | [.d (.int .i64 n), .dptr [.int .i64 i]] => some (True, .d (.bool (!within n 0 (IntKind.i64.wrap (i - 1)))))
    | _ => none) fun args p r h => by
    split at h
    · skip
      cases h; exact t118 _ _
    · cases h
@[go_sem] theorem E118_f : E118.f = 118 := rfl
@[go_sem] theorem E118_c (n : Int) (i : Int) : E118.c [.d (.int .i64 n), .dptr [.int .i64 i]] = some (True, .d (.bool (!within n 0 (IntKind.i64.wrap (i - 1))))) := rfl
theorem t123 (x : Fd) (f : Fd) : PureOk Tryz.prog 123 [.agg [.d (.str x.name), .d (.int .i64 x.kind), .d (.int .i64 x.width), .d (.bool x.signed), .d (.bool x.lowFirst), .d (.int .i64 x.purpose), .d (.str x.for_), .d (.int .i64 x.of), .d (.sl 3 (x.choices.map encCh))], .dptr [.str f.name, .int .i64 f.kind, .int .i64 f.width, .bool f.signed, .bool f.lowFirst, .int .i64 f.purpose, .str f.for_, .int .i64 f.of, .sl 3 (f.choices.map encCh)]] (True) (.d (.bool (named x && sEq x.for_ f.name))) := by
  refine pure_fn (C := fun gm => ⟨T, gam [E116], dam [], plT [], ⟨gm, fun _ _ => none⟩⟩) (fun _ => tok) (fun gm => cok T _ _ _ gm) mixed Tryz.func123 rfl (Nat.le_of_ble_eq_true rfl) rfl (fun _ => rfl) (fun _ => by kernel_rfl) fun gm hp => ?_
  unfold Tryz.f123
  simp only [go_sem, ↓reduceIte, Nat.reduceEqDiff, reduceCtorEq, Nat.reduceAdd, Nat.reduceLeDiff, Nat.reduceSub]
  cases named x <;> cases sEq x.for_ f.name <;> simp
noncomputable def E123 : Ent Tryz.prog := Ent.of 123 (fnOk Tryz.func123 rfl (by kernel_rfl)) (fun
    | [.agg [.d (.str x_name), .d (.int .i64 x_kind), .d (.int .i64 x_width), .d (.bool x_signed), .d (.bool x_lowFirst), .d (.int .i64 x_purpose), .d (.str x_for_), .d (.int .i64 x_of), .d (.sl 3 x_choices)], .dptr [.str f_name, .int .i64 f_kind, .int .i64 f_width, .bool f_signed, .bool f_lowFirst, .int .i64 f_purpose, .str f_for_, .int .i64 f_of, .sl 3 f_choices]] => (dec encCh x_choices).bind fun x_choices => (dec encCh f_choices).bind fun f_choices => some (True, .d (.bool (named (Fd.mk x_name x_kind x_width x_signed x_lowFirst x_purpose x_for_ x_of x_choices) && sEq (Fd.mk x_name x_kind x_width x_signed x_lowFirst x_purpose x_for_ x_of x_choices).for_ (Fd.mk f_name f_kind f_width f_signed f_lowFirst f_purpose f_for_ f_of f_choices).name)))
    | _ => none) fun args p r h => by
    split at h
    · obtain ⟨_, hd0, h0⟩ := Option.bind_eq_some_iff.1 h; clear h; have hd0 := dec_some hd0; subst hd0
      obtain ⟨_, hd1, h1⟩ := Option.bind_eq_some_iff.1 h0; clear h0; have hd1 := dec_some hd1; subst hd1
      cases h1; exact t123 (Fd.mk _ _ _ _ _ _ _ _ _) (Fd.mk _ _ _ _ _ _ _ _ _)
    · cases h
@[go_sem] theorem E123_f : E123.f = 123 := rfl
@[go_sem] theorem E123_c (x_name : ByteArray) (x_kind : Int) (x_width : Int) (x_signed : Bool) (x_lowFirst : Bool) (x_purpose : Int) (x_for_ : ByteArray) (x_of : Int) (x_choices : List (List D)) (f_name : ByteArray) (f_kind : Int) (f_width : Int) (f_signed : Bool) (f_lowFirst : Bool) (f_purpose : Int) (f_for_ : ByteArray) (f_of : Int) (f_choices : List (List D)) : E123.c [.agg [.d (.str x_name), .d (.int .i64 x_kind), .d (.int .i64 x_width), .d (.bool x_signed), .d (.bool x_lowFirst), .d (.int .i64 x_purpose), .d (.str x_for_), .d (.int .i64 x_of), .d (.sl 3 x_choices)], .dptr [.str f_name, .int .i64 f_kind, .int .i64 f_width, .bool f_signed, .bool f_lowFirst, .int .i64 f_purpose, .str f_for_, .int .i64 f_of, .sl 3 f_choices]] = (dec encCh x_choices).bind fun x_choices => (dec encCh f_choices).bind fun f_choices => some (True, .d (.bool (named (Fd.mk x_name x_kind x_width x_signed x_lowFirst x_purpose x_for_ x_of x_choices) && sEq (Fd.mk x_name x_kind x_width x_signed x_lowFirst x_purpose x_for_ x_of x_choices).for_ (Fd.mk f_name f_kind f_width f_signed f_lowFirst f_purpose f_for_ f_of f_choices).name))) := rfl
theorem t176 (x : Ch) (c : Ch) : PureOk Tryz.prog 176 [.agg [.d (.int .i64 x.number), .d (.int .i64 x.of), .d (.str x.name)], .dptr [.int .i64 c.number, .int .i64 c.of, .str c.name]] (True) (.d (.bool (x.number == c.number || sEq x.name c.name))) := by
  refine pure_fn (C := fun gm => ⟨T, gam [], dam [], plT [], ⟨gm, fun _ _ => none⟩⟩) (fun _ => tok) (fun gm => cok T _ _ _ gm) mixed Tryz.func176 rfl (Nat.le_of_ble_eq_true rfl) rfl (fun _ => rfl) (fun _ => by kernel_rfl) fun gm hp => ?_
  unfold Tryz.f176
  simp only [go_sem, ↓reduceIte, Nat.reduceEqDiff, reduceCtorEq, Nat.reduceAdd, Nat.reduceLeDiff, Nat.reduceSub]
  cases x.number == c.number <;> cases sEq x.name c.name <;> simp
noncomputable def E176 : Ent Tryz.prog := Ent.of 176 (fnOk Tryz.func176 rfl (by kernel_rfl)) (fun
    | [.agg [.d (.int .i64 x_number), .d (.int .i64 x_of), .d (.str x_name)], .dptr [.int .i64 c_number, .int .i64 c_of, .str c_name]] => some (True, .d (.bool ((Ch.mk x_number x_of x_name).number == (Ch.mk c_number c_of c_name).number || sEq (Ch.mk x_number x_of x_name).name (Ch.mk c_number c_of c_name).name)))
    | _ => none) fun args p r h => by
    split at h
    · skip
      cases h; exact t176 (Ch.mk _ _ _) (Ch.mk _ _ _)
    · cases h
@[go_sem] theorem E176_f : E176.f = 176 := rfl
@[go_sem] theorem E176_c (x_number : Int) (x_of : Int) (x_name : ByteArray) (c_number : Int) (c_of : Int) (c_name : ByteArray) : E176.c [.agg [.d (.int .i64 x_number), .d (.int .i64 x_of), .d (.str x_name)], .dptr [.int .i64 c_number, .int .i64 c_of, .str c_name]] = some (True, .d (.bool ((Ch.mk x_number x_of x_name).number == (Ch.mk c_number c_of c_name).number || sEq (Ch.mk x_number x_of x_name).name (Ch.mk c_number c_of c_name).name))) := rfl
theorem t177 (x : Fd) (f : Fd) : PureOk Tryz.prog 177 [.agg [.d (.str x.name), .d (.int .i64 x.kind), .d (.int .i64 x.width), .d (.bool x.signed), .d (.bool x.lowFirst), .d (.int .i64 x.purpose), .d (.str x.for_), .d (.int .i64 x.of), .d (.sl 3 (x.choices.map encCh))], .dptr [.str f.name, .int .i64 f.kind, .int .i64 f.width, .bool f.signed, .bool f.lowFirst, .int .i64 f.purpose, .str f.for_, .int .i64 f.of, .sl 3 (f.choices.map encCh)]] (True) (.d (.bool (sEq x.name f.for_))) := by
  refine pure_fn (C := fun gm => ⟨T, gam [], dam [], plT [], ⟨gm, fun _ _ => none⟩⟩) (fun _ => tok) (fun gm => cok T _ _ _ gm) mixed Tryz.func177 rfl (Nat.le_of_ble_eq_true rfl) rfl (fun _ => rfl) (fun _ => by kernel_rfl) fun gm hp => ?_
  unfold Tryz.f177
  simp only [go_sem, ↓reduceIte, Nat.reduceEqDiff, reduceCtorEq, Nat.reduceAdd, Nat.reduceLeDiff, Nat.reduceSub]
 
noncomputable def E177 : Ent Tryz.prog := Ent.of 177 (fnOk Tryz.func177 rfl (by kernel_rfl)) (fun
    | [.agg [.d (.str x_name), .d (.int .i64 x_kind), .d (.int .i64 x_width), .d (.bool x_signed), .d (.bool x_lowFirst), .d (.int .i64 x_purpose), .d (.str x_for_), .d (.int .i64 x_of), .d (.sl 3 x_choices)], .dptr [.str f_name, .int .i64 f_kind, .int .i64 f_width, .bool f_signed, .bool f_lowFirst, .int .i64 f_purpose, .str f_for_, .int .i64 f_of, .sl 3 f_choices]] => (dec encCh x_choices).bind fun x_choices => (dec encCh f_choices).bind fun f_choices => some (True, .d (.bool (sEq (Fd.mk x_name x_kind x_width x_signed x_lowFirst x_purpose x_for_ x_of x_choices).name (Fd.mk f_name f_kind f_width f_signed f_lowFirst f_purpose f_for_ f_of f_choices).for_)))
    | _ => none) fun args p r h => by
    split at h
    · obtain ⟨_, hd0, h0⟩ := Option.bind_eq_some_iff.1 h; clear h; have hd0 := dec_some hd0; subst hd0
      obtain ⟨_, hd1, h1⟩ := Option.bind_eq_some_iff.1 h0; clear h0; have hd1 := dec_some hd1; subst hd1
      cases h1; exact t177 (Fd.mk _ _ _ _ _ _ _ _ _) (Fd.mk _ _ _ _ _ _ _ _ _)
    · cases h
@[go_sem] theorem E177_f : E177.f = 177 := rfl
@[go_sem] theorem E177_c (x_name : ByteArray) (x_kind : Int) (x_width : Int) (x_signed : Bool) (x_lowFirst : Bool) (x_purpose : Int) (x_for_ : ByteArray) (x_of : Int) (x_choices : List (List D)) (f_name : ByteArray) (f_kind : Int) (f_width : Int) (f_signed : Bool) (f_lowFirst : Bool) (f_purpose : Int) (f_for_ : ByteArray) (f_of : Int) (f_choices : List (List D)) : E177.c [.agg [.d (.str x_name), .d (.int .i64 x_kind), .d (.int .i64 x_width), .d (.bool x_signed), .d (.bool x_lowFirst), .d (.int .i64 x_purpose), .d (.str x_for_), .d (.int .i64 x_of), .d (.sl 3 x_choices)], .dptr [.str f_name, .int .i64 f_kind, .int .i64 f_width, .bool f_signed, .bool f_lowFirst, .int .i64 f_purpose, .str f_for_, .int .i64 f_of, .sl 3 f_choices]] = (dec encCh x_choices).bind fun x_choices => (dec encCh f_choices).bind fun f_choices => some (True, .d (.bool (sEq (Fd.mk x_name x_kind x_width x_signed x_lowFirst x_purpose x_for_ x_of x_choices).name (Fd.mk f_name f_kind f_width f_signed f_lowFirst f_purpose f_for_ f_of f_choices).for_))) := rfl
theorem t179 (x : Fd) (f : Fd) : PureOk Tryz.prog 179 [.agg [.d (.str x.name), .d (.int .i64 x.kind), .d (.int .i64 x.width), .d (.bool x.signed), .d (.bool x.lowFirst), .d (.int .i64 x.purpose), .d (.str x.for_), .d (.int .i64 x.of), .d (.sl 3 (x.choices.map encCh))], .dptr [.str f.name, .int .i64 f.kind, .int .i64 f.width, .bool f.signed, .bool f.lowFirst, .int .i64 f.purpose, .str f.for_, .int .i64 f.of, .sl 3 (f.choices.map encCh)]] (True) (.d (.bool (named x && sEq x.for_ f.for_))) := by
  refine pure_fn (C := fun gm => ⟨T, gam [E116], dam [], plT [], ⟨gm, fun _ _ => none⟩⟩) (fun _ => tok) (fun gm => cok T _ _ _ gm) mixed Tryz.func179 rfl (Nat.le_of_ble_eq_true rfl) rfl (fun _ => rfl) (fun _ => by kernel_rfl) fun gm hp => ?_
  unfold Tryz.f179
  simp only [go_sem, ↓reduceIte, Nat.reduceEqDiff, reduceCtorEq, Nat.reduceAdd, Nat.reduceLeDiff, Nat.reduceSub]
  cases named x <;> cases sEq x.for_ f.for_ <;> simp
noncomputable def E179 : Ent Tryz.prog := Ent.of 179 (fnOk Tryz.func179 rfl (by kernel_rfl)) (fun
    | [.agg [.d (.str x_name), .d (.int .i64 x_kind), .d (.int .i64 x_width), .d (.bool x_signed), .d (.bool x_lowFirst), .d (.int .i64 x_purpose), .d (.str x_for_), .d (.int .i64 x_of), .d (.sl 3 x_choices)], .dptr [.str f_name, .int .i64 f_kind, .int .i64 f_width, .bool f_signed, .bool f_lowFirst, .int .i64 f_purpose, .str f_for_, .int .i64 f_of, .sl 3 f_choices]] => (dec encCh x_choices).bind fun x_choices => (dec encCh f_choices).bind fun f_choices => some (True, .d (.bool (named (Fd.mk x_name x_kind x_width x_signed x_lowFirst x_purpose x_for_ x_of x_choices) && sEq (Fd.mk x_name x_kind x_width x_signed x_lowFirst x_purpose x_for_ x_of x_choices).for_ (Fd.mk f_name f_kind f_width f_signed f_lowFirst f_purpose f_for_ f_of f_choices).for_)))
    | _ => none) fun args p r h => by
    split at h
    · obtain ⟨_, hd0, h0⟩ := Option.bind_eq_some_iff.1 h; clear h; have hd0 := dec_some hd0; subst hd0
      obtain ⟨_, hd1, h1⟩ := Option.bind_eq_some_iff.1 h0; clear h0; have hd1 := dec_some hd1; subst hd1
      cases h1; exact t179 (Fd.mk _ _ _ _ _ _ _ _ _) (Fd.mk _ _ _ _ _ _ _ _ _)
    · cases h
@[go_sem] theorem E179_f : E179.f = 179 := rfl
@[go_sem] theorem E179_c (x_name : ByteArray) (x_kind : Int) (x_width : Int) (x_signed : Bool) (x_lowFirst : Bool) (x_purpose : Int) (x_for_ : ByteArray) (x_of : Int) (x_choices : List (List D)) (f_name : ByteArray) (f_kind : Int) (f_width : Int) (f_signed : Bool) (f_lowFirst : Bool) (f_purpose : Int) (f_for_ : ByteArray) (f_of : Int) (f_choices : List (List D)) : E179.c [.agg [.d (.str x_name), .d (.int .i64 x_kind), .d (.int .i64 x_width), .d (.bool x_signed), .d (.bool x_lowFirst), .d (.int .i64 x_purpose), .d (.str x_for_), .d (.int .i64 x_of), .d (.sl 3 x_choices)], .dptr [.str f_name, .int .i64 f_kind, .int .i64 f_width, .bool f_signed, .bool f_lowFirst, .int .i64 f_purpose, .str f_for_, .int .i64 f_of, .sl 3 f_choices]] = (dec encCh x_choices).bind fun x_choices => (dec encCh f_choices).bind fun f_choices => some (True, .d (.bool (named (Fd.mk x_name x_kind x_width x_signed x_lowFirst x_purpose x_for_ x_of x_choices) && sEq (Fd.mk x_name x_kind x_width x_signed x_lowFirst x_purpose x_for_ x_of x_choices).for_ (Fd.mk f_name f_kind f_width f_signed f_lowFirst f_purpose f_for_ f_of f_choices).for_))) := rfl
end Go.Proofs.YtgnnakibcjonbaaGreatDoor.VE

/- Chapter 16: slices.ContainsFunc at a predicate with a condition; the closures that look into tables. -/
namespace Go.Proofs.YtgnnakibcjonbaaGreatDoor.VE
open Go Go.RowKit
set_option maxRecDepth 100000
set_option linter.unusedSimpArgs false
set_option linter.unusedVariables false

theorem idxFp175 (cv : V) (g : FuncId) (caps : List V) (hcv : FnV Tryz.prog cv g caps) (pred : Int → Bool) (p : Int → Prop) (hg : ∀ x : Int, PureOk Tryz.prog g (.d (.int .i64 x) :: caps) (p x) (.d (.bool (pred x)))) (xs : List Int) :
    PureOk Tryz.prog 175 [.d (.sl 1 (xs.map encI)), cv] (∀ x ∈ xs, p x) (.d (.int .i64 (idxOf pred xs 0))) := by
  refine PureOk.len 0 rfl fun hlen => ?_
  obtain ⟨h1, h2, h3, h4⟩ := hcv
  have inj : ∀ x y : Int, (.d (.int .i64 x) :: caps : List V) = .d (.int .i64 y) :: caps → x = y := fun x y h => by
    simpa using h
  have hc := fun x => oneEnt_c (fn := h4) (p := p) (ok := hg) inj x
  have hpk : ∀ os, ptrOk os cv = true := fun os => pure_ptrOk h2
  refine pure_fn (C := fun gm => ⟨T, gam [oneEnt g h4 (fun x : Int => .d (.int .i64 x) ::caps) p (fun x => .d (.bool (pred x))) hg], dam [], plT [], ⟨gm, fun _ _ => none⟩⟩) (fun _ => tok) (fun gm => cok T _ _ _ gm) mixed Tryz.func175 rfl (Nat.le_of_ble_eq_true rfl) (by simp only [List.all_cons, List.all_nil, h2, Bool.and_true]; rfl) (fun _ => rfl) (fun _ => by kernel_rfl) fun gm hp => ?_
  unfold Tryz.f175
  simp only [go_sem, ↓reduceIte, Nat.reduceEqDiff, reduceCtorEq, Nat.reduceAdd, Nat.reduceLeDiff, Nat.reduceSub]
  refine loop_intro (fun i : Nat => [(0, .d (.sl 1 (xs.map encI))), (1, cv), (7, .d (.int .i64 xs.length)), (8, .d (.int .i64 i))]) (fun i => i ≤ xs.length ∧ ∀ (j : Nat) y, j < i → xs[j]? = some y → pred y = false) (fun i => xs.length - i) 0 ⟨Nat.zero_le _, fun j y hj => by omega⟩ ?_ fun i hi => ?_
  · simp only [go_sem, ↓reduceIte, Nat.reduceEqDiff, reduceCtorEq, Nat.reduceAdd, Nat.reduceLeDiff, Nat.reduceSub]
    rfl
  · have hl : xs.length ≤ 9223372036854775807 := by simpa [maxLen] using hlen
    simp only [go_sem, ↓reduceIte, Nat.reduceEqDiff, reduceCtorEq, Nat.reduceAdd, Nat.reduceLeDiff, Nat.reduceSub, h1, h2, h3, hc, oneEnt_f, hpk]
    refine ⟨fun hlt => ?_, fun hge => ?_⟩
    · have hlt' : i < xs.length := by simpa using hlt
      refine ⟨⟨by omega, by omega⟩, fun a ha => ⟨hp a (List.mem_of_getElem? ha), ?_, ?_⟩⟩
      · intro hpa
        rw [Int.toNat_natCast] at ha
        rw [idxOf_hit hi.2 ha hpa]
        simp
      · intro hpa
        rw [Int.toNat_natCast] at ha
        refine ⟨i + 1, ⟨hlt', fun j y hj hy => ?_⟩, by omega, ?_⟩
        · by_cases c : j = i
          · subst c; rw [ha] at hy; cases hy; exact hpa
          · exact hi.2 j y (by omega) hy
        · rw [wrap_small _ (by omega) (by omega)]
          simp
    · have hge' : ¬ i < xs.length := by simpa using hge
      rw [idxOf_none fun j y hj hy => hi.2 j y (by omega) hy]
theorem idxFp164 (cv : V) (g : FuncId) (caps : List V) (hcv : FnV Tryz.prog cv g caps) (pred : Ch → Bool) (p : Ch → Prop) (hg : ∀ x : Ch, PureOk Tryz.prog g (.agg [.d (.int .i64 x.number), .d (.int .i64 x.of), .d (.str x.name)] :: caps) (p x) (.d (.bool (pred x)))) (xs : List Ch) :
    PureOk Tryz.prog 164 [.d (.sl 3 (xs.map encCh)), cv] (∀ x ∈ xs, p x) (.d (.int .i64 (idxOf pred xs 0))) := by
  refine PureOk.len 0 rfl fun hlen => ?_
  obtain ⟨h1, h2, h3, h4⟩ := hcv
  have inj : ∀ x y : Ch, (.agg [.d (.int .i64 x.number), .d (.int .i64 x.of), .d (.str x.name)] :: caps : List V) = .agg [.d (.int .i64 y.number), .d (.int .i64 y.of), .d (.str y.name)] :: caps → x = y := fun x y h => by
    cases x; cases y; simpa using h
  have hc := fun x => oneEnt_c (fn := h4) (p := p) (ok := hg) inj x
  have hpk : ∀ os, ptrOk os cv = true := fun os => pure_ptrOk h2
  refine pure_fn (C := fun gm => ⟨T, gam [oneEnt g h4 (fun x : Ch => .agg [.d (.int .i64 x.number), .d (.int .i64 x.of), .d (.str x.name)] ::caps) p (fun x => .d (.bool (pred x))) hg], dam [], plT [], ⟨gm, fun _ _ => none⟩⟩) (fun _ => tok) (fun gm => cok T _ _ _ gm) mixed Tryz.func164 rfl (Nat.le_of_ble_eq_true rfl) (by simp only [List.all_cons, List.all_nil, h2, Bool.and_true]; rfl) (fun _ => rfl) (fun _ => by kernel_rfl) fun gm hp => ?_
  unfold Tryz.f164
  simp only [go_sem, ↓reduceIte, Nat.reduceEqDiff, reduceCtorEq, Nat.reduceAdd, Nat.reduceLeDiff, Nat.reduceSub]
  refine loop_intro (fun i : Nat => [(0, .d (.sl 3 (xs.map encCh))), (1, cv), (7, .d (.int .i64 xs.length)), (8, .d (.int .i64 i))]) (fun i => i ≤ xs.length ∧ ∀ (j : Nat) y, j < i → xs[j]? = some y → pred y = false) (fun i => xs.length - i) 0 ⟨Nat.zero_le _, fun j y hj => by omega⟩ ?_ fun i hi => ?_
  · simp only [go_sem, ↓reduceIte, Nat.reduceEqDiff, reduceCtorEq, Nat.reduceAdd, Nat.reduceLeDiff, Nat.reduceSub]
    rfl
  · have hl : xs.length ≤ 9223372036854775807 := by simpa [maxLen] using hlen
    simp only [go_sem, ↓reduceIte, Nat.reduceEqDiff, reduceCtorEq, Nat.reduceAdd, Nat.reduceLeDiff, Nat.reduceSub, h1, h2, h3, hc, oneEnt_f, hpk]
    refine ⟨fun hlt => ?_, fun hge => ?_⟩
    · have hlt' : i < xs.length := by simpa using hlt
      refine ⟨⟨by omega, by omega⟩, fun a ha => ⟨hp a (List.mem_of_getElem? ha), ?_, ?_⟩⟩
      · intro hpa
        rw [Int.toNat_natCast] at ha
        rw [idxOf_hit hi.2 ha hpa]
        simp
      · intro hpa
        rw [Int.toNat_natCast] at ha
        refine ⟨i + 1, ⟨hlt', fun j y hj hy => ?_⟩, by omega, ?_⟩
        · by_cases c : j = i
          · subst c; rw [ha] at hy; cases hy; exact hpa
          · exact hi.2 j y (by omega) hy
        · rw [wrap_small _ (by omega) (by omega)]
          simp
    · have hge' : ¬ i < xs.length := by simpa using hge
      rw [idxOf_none fun j y hj hy => hi.2 j y (by omega) hy]
theorem conFp117 (cv : V) (g : FuncId) (caps : List V) (hcv : FnV Tryz.prog cv g caps) (pred : Int → Bool) (p : Int → Prop) (hg : ∀ x : Int, PureOk Tryz.prog g (.d (.int .i64 x) :: caps) (p x) (.d (.bool (pred x)))) (xs : List Int) :
    PureOk Tryz.prog 117 [.d (.sl 1 (xs.map encI)), cv] (∀ x ∈ xs, p x) (.d (.bool (xs.any pred))) := by
  have inj : ∀ x y : List Int, ([.d (.sl 1 (x.map encI)), cv] : List V) = [.d (.sl 1 (y.map encI)), cv] → x = y := fun x y h => by
    simp only [List.cons.injEq, V.d.injEq, D.sl.injEq, true_and, and_true] at h
    exact map_inj' encI_inj x y h
  have hc := fun x => oneEnt_c (fn := fnOk Tryz.func175 rfl (by kernel_rfl)) (p := fun x : List _ => ∀ y ∈ x, p y) (ok := fun x => idxFp175 cv g caps hcv pred p hg x) inj x
  have hpk : ∀ os, ptrOk os cv = true := fun os => pure_ptrOk hcv.2.1
  refine pure_fn (C := fun gm => ⟨T, gam [oneEnt 175 (fnOk Tryz.func175 rfl (by kernel_rfl)) (fun x : List Int => [.d (.sl 1 (x.map encI)), cv]) (fun x => ∀ y ∈ x, p y) (fun x => .d (.int .i64 (idxOf pred x 0))) (fun x => idxFp175 cv g caps hcv pred p hg x)], dam [], plT [], ⟨gm, fun _ _ => none⟩⟩) (fun _ => tok) (fun gm => cok T _ _ _ gm) mixed Tryz.func117 rfl (Nat.le_of_ble_eq_true rfl) (by simp only [List.all_cons, List.all_nil, hcv.2.1, Bool.and_true]; rfl) (fun _ => rfl) (fun _ => by kernel_rfl) fun gm hp => ?_
  unfold Tryz.f117
  simp only [go_sem, ↓reduceIte, Nat.reduceEqDiff, reduceCtorEq, Nat.reduceAdd, Nat.reduceLeDiff, Nat.reduceSub, hcv.2.1, hc, oneEnt_f, hpk]
  refine ⟨hp, ?_⟩
  rw [idxOf_any (by omega)]
theorem conFp124 (cv : V) (g : FuncId) (caps : List V) (hcv : FnV Tryz.prog cv g caps) (pred : Ch → Bool) (p : Ch → Prop) (hg : ∀ x : Ch, PureOk Tryz.prog g (.agg [.d (.int .i64 x.number), .d (.int .i64 x.of), .d (.str x.name)] :: caps) (p x) (.d (.bool (pred x)))) (xs : List Ch) :
    PureOk Tryz.prog 124 [.d (.sl 3 (xs.map encCh)), cv] (∀ x ∈ xs, p x) (.d (.bool (xs.any pred))) := by
  have inj : ∀ x y : List Ch, ([.d (.sl 3 (x.map encCh)), cv] : List V) = [.d (.sl 3 (y.map encCh)), cv] → x = y := fun x y h => by
    simp only [List.cons.injEq, V.d.injEq, D.sl.injEq, true_and, and_true] at h
    exact map_inj' encCh_inj x y h
  have hc := fun x => oneEnt_c (fn := fnOk Tryz.func164 rfl (by kernel_rfl)) (p := fun x : List _ => ∀ y ∈ x, p y) (ok := fun x => idxFp164 cv g caps hcv pred p hg x) inj x
  have hpk : ∀ os, ptrOk os cv = true := fun os => pure_ptrOk hcv.2.1
  refine pure_fn (C := fun gm => ⟨T, gam [oneEnt 164 (fnOk Tryz.func164 rfl (by kernel_rfl)) (fun x : List Ch => [.d (.sl 3 (x.map encCh)), cv]) (fun x => ∀ y ∈ x, p y) (fun x => .d (.int .i64 (idxOf pred x 0))) (fun x => idxFp164 cv g caps hcv pred p hg x)], dam [], plT [], ⟨gm, fun _ _ => none⟩⟩) (fun _ => tok) (fun gm => cok T _ _ _ gm) mixed Tryz.func124 rfl (Nat.le_of_ble_eq_true rfl) (by simp only [List.all_cons, List.all_nil, hcv.2.1, Bool.and_true]; rfl) (fun _ => rfl) (fun _ => by kernel_rfl) fun gm hp => ?_
  unfold Tryz.f124
  simp only [go_sem, ↓reduceIte, Nat.reduceEqDiff, reduceCtorEq, Nat.reduceAdd, Nat.reduceLeDiff, Nat.reduceSub, hcv.2.1, hc, oneEnt_f, hpk]
  refine ⟨hp, ?_⟩
  rw [idxOf_any (by omega)]
end Go.Proofs.YtgnnakibcjonbaaGreatDoor.VE

/- Chapter 16: contracts of the closures that look into tables. -/
namespace Go.Proofs.YtgnnakibcjonbaaGreatDoor.VE
open Go Go.RowKit
set_option maxRecDepth 100000
set_option linter.unusedSimpArgs false
set_option linter.unusedVariables false

def lowAt (l : List Ly) (n : Int) : Bool :=
  match l[n.toNat]? with
  | some a => a.lowBits
  | none => false
theorem t119 (n : Int) (l : List Ly) (x : Ly) : PureOk Tryz.prog 119 [.d (.int .i64 n), .dptr [.sl 3 (l.map encLy)], .dptr [.str x.name, .sl 9 (x.fields.map encFd), .bool x.lowBits]] (0 ≤ n ∧ n < l.length) (.d (.bool (lowAt l n != x.lowBits))) := by
  refine pure_fn (C := fun gm => ⟨T, gam [], dam [], plT pl119, ⟨gm, fun _ _ => none⟩⟩) (fun _ => tok) (fun gm => cok T _ _ _ gm) mixed Tryz.func119 rfl (Nat.le_of_ble_eq_true rfl) rfl (fun _ => rfl) (fun _ => by kernel_rfl) fun gm hp => ?_
  obtain ⟨a, ha⟩ : ∃ a, l[(n).toNat]? = some a := ⟨_, List.getElem?_eq_getElem (by omega)⟩
  have hg : (l.map encLy).getD (n).toNat [] = encLy a := by rw [List.getD_eq_getElem?_getD, List.getElem?_map, ha]; rfl
  unfold Tryz.f119
  simp only [go_sem, ↓reduceIte, Nat.reduceEqDiff, reduceCtorEq, Nat.reduceAdd, Nat.reduceLeDiff, Nat.reduceSub, pl119, idxV, hg, encLy, List.length_map, List.drop, lowAt, ha]
  first | exact hp | exact ⟨hp, rfl⟩
noncomputable def E119 : Ent Tryz.prog := Ent.of 119 (fnOk Tryz.func119 rfl (by kernel_rfl)) (fun
    | [.d (.int .i64 n), .dptr [.sl 3 l], .dptr [.str x_name, .sl 9 x_fields, .bool x_lowBits]] => (dec encLy l).bind fun l => (dec encFd x_fields).bind fun x_fields => some (0 ≤ n ∧ n < l.length, .d (.bool (lowAt l n != (Ly.mk x_name x_fields x_lowBits).lowBits)))
    | _ => none) fun args p r h => by
    split at h
    · obtain ⟨_, hd0, h0⟩ := Option.bind_eq_some_iff.1 h; clear h; have hd0 := dec_some hd0; subst hd0
      obtain ⟨_, hd1, h1⟩ := Option.bind_eq_some_iff.1 h0; clear h0; have hd1 := dec_some hd1; subst hd1
      cases h1; exact t119 _ _ (Ly.mk _ _ _)
    · cases h
@[go_sem] theorem E119_f : E119.f = 119 := rfl
@[go_sem] theorem E119_c (n : Int) (l : List (List D)) (x_name : ByteArray) (x_fields : List (List D)) (x_lowBits : Bool) : E119.c [.d (.int .i64 n), .dptr [.sl 3 l], .dptr [.str x_name, .sl 9 x_fields, .bool x_lowBits]] = (dec encLy l).bind fun l => (dec encFd x_fields).bind fun x_fields => some (0 ≤ n ∧ n < l.length, .d (.bool (lowAt l n != (Ly.mk x_name x_fields x_lowBits).lowBits))) := rfl
def intAt (l : List Int) (n : Int) : Int :=
  match l[n.toNat]? with
  | some a => a
  | none => 0
theorem t125 (c : Ch) (w : List Int) (first : Int) : PureOk Tryz.prog 125 [.agg [.d (.int .i64 c.number), .d (.int .i64 c.of), .d (.str c.name)], .dptr [.sl 1 (w.map encI)], .dptr [.int .i64 first]] (0 ≤ c.of ∧ c.of < w.length) (.d (.bool (intAt w c.of != first))) := by
  refine pure_fn (C := fun gm => ⟨T, gam [], dam [], plT pl125, ⟨gm, fun _ _ => none⟩⟩) (fun _ => tok) (fun gm => cok T _ _ _ gm) mixed Tryz.func125 rfl (Nat.le_of_ble_eq_true rfl) rfl (fun _ => rfl) (fun _ => by kernel_rfl) fun gm hp => ?_
  obtain ⟨a, ha⟩ : ∃ a, w[(c.of).toNat]? = some a := ⟨_, List.getElem?_eq_getElem (by omega)⟩
  have hg : (w.map encI).getD (c.of).toNat [] = encI a := by rw [List.getD_eq_getElem?_getD, List.getElem?_map, ha]; rfl
  unfold Tryz.f125
  simp only [go_sem, ↓reduceIte, Nat.reduceEqDiff, reduceCtorEq, Nat.reduceAdd, Nat.reduceLeDiff, Nat.reduceSub, pl125, idxV, hg, encI, List.length_map, List.drop, intAt, ha]
  first | exact hp | exact ⟨hp, rfl⟩
noncomputable def E125 : Ent Tryz.prog := Ent.of 125 (fnOk Tryz.func125 rfl (by kernel_rfl)) (fun
    | [.agg [.d (.int .i64 c_number), .d (.int .i64 c_of), .d (.str c_name)], .dptr [.sl 1 w], .dptr [.int .i64 first]] => (dec encI w).bind fun w => some (0 ≤ (Ch.mk c_number c_of c_name).of ∧ (Ch.mk c_number c_of c_name).of < w.length, .d (.bool (intAt w (Ch.mk c_number c_of c_name).of != first)))
    | _ => none) fun args p r h => by
    split at h
    · obtain ⟨_, hd0, h0⟩ := Option.bind_eq_some_iff.1 h; clear h; have hd0 := dec_some hd0; subst hd0
      cases h0; exact t125 (Ch.mk _ _ _) _ _
    · cases h
@[go_sem] theorem E125_f : E125.f = 125 := rfl
@[go_sem] theorem E125_c (c_number : Int) (c_of : Int) (c_name : ByteArray) (w : List (List D)) (first : Int) : E125.c [.agg [.d (.int .i64 c_number), .d (.int .i64 c_of), .d (.str c_name)], .dptr [.sl 1 w], .dptr [.int .i64 first]] = (dec encI w).bind fun w => some (0 ≤ (Ch.mk c_number c_of c_name).of ∧ (Ch.mk c_number c_of c_name).of < w.length, .d (.bool (intAt w (Ch.mk c_number c_of c_name).of != first))) := rfl
end Go.Proofs.YtgnnakibcjonbaaGreatDoor.VE
