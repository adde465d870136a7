/- Texts put together (merge.py). -/
import Derived.Test.YtgnnakibcjonbaaGreatDoorM5
/- The evaluator's equations, as simp wants them. -/
namespace Go.Proofs.YtgnnakibcjonbaaGreatDoor.VE
open Go Go.RowKit
set_option linter.unusedVariables false
set_option linter.unusedSimpArgs false
section
variable (C : Cx) (ops : Array Oper) (r : List Oper) (K : St → Prop) (st : St) (env : Nat → V) (os : Nat → Option O) (d : Nat) (dd : Option Nat) (op : Op) (ty : TypeId) (ps : String) (af : Array Edge) (x y z : Operand) (t t' : TypeId) (Q : Exit → St → Prop)
@[go_sem ↓] theorem eq_nil : runOps C ops [] st K = K st := rfl
/-- An operation, if it is no comparison with nil, or else the two answers. -/
def nilK (C : Cx) (ops : Array Oper) (r : List Oper) (K : St → Prop) (st : St) (d : Option Nat) (op : Op) : Option (Bool × Prop × Prop) → Prop
  | some (e, q, q') => ∀ b : Bool, (b = true → q) → (b = false → q') → runOps C ops r (putE st d (.d (.bool (b == e)))) K
  | none => match stepV C st (d.getD 0) op with
    | some (p, v, st') => p ∧ runOps C ops r (putE st' d v) K
    | none => False
def globK (C : Cx) (ops : Array Oper) (r : List Oper) (K : St → Prop) (st : St) (d : Option Nat) (op : Op) : Option (Prop × V) → Prop
  | some (p, v) => p ∧ runOps C ops r (putE st d v) K
  | none => nilK C ops r K st d op (nilQ C st op)
@[go_sem ↓] theorem globK_none : globK C ops r K st dd op none = nilK C ops r K st dd op (nilQ C st op) := rfl
@[go_sem ↓] theorem globK_some (p : Prop) (v : V) : globK C ops r K st (some d) op (some (p, v)) = (p ∧ runOps C ops r ⟨upd st.env d v, st.os⟩ K) := rfl
@[go_sem ↓] theorem eq_cons : runOps C ops (⟨dd, op, ty, ps, af, none⟩ :: r) st K = globK C ops r K st dd op (globQ C st.env op) := by
  simp only [runOps, opP, guardB]
  unfold globK nilK
  cases globQ C st.env op with
  | some v => rfl
  | none => cases nilQ C st op <;> rfl
@[go_sem ↓] theorem nilK_none : nilK C ops r K st (some d) op none = (match stepV C st d op with
    | some (p, v, st') => p ∧ runOps C ops r ⟨upd st'.env d v, st'.os⟩ K
    | none => False) := rfl
@[go_sem ↓] theorem nilK_no : nilK C ops r K st none op none = (match stepV C st 0 op with
    | some (p, v, st') => p ∧ runOps C ops r st' K
    | none => False) := rfl
@[go_sem ↓] theorem nilK_t (q q' : Prop) : nilK C ops r K st (some d) op (some (true, q, q')) = ∀ b : Bool, (b = true → q) → (b = false → q') → runOps C ops r ⟨upd st.env d (.d (.bool b)), st.os⟩ K := by
  unfold nilK; simp [putE]
@[go_sem ↓] theorem nilK_f (q q' : Prop) : nilK C ops r K st (some d) op (some (false, q, q')) = ∀ b : Bool, (b = true → q) → (b = false → q') → runOps C ops r ⟨upd st.env d (.d (.bool !b)), st.os⟩ K := by
  unfold nilK; simp [putE]
@[go_sem ↓] theorem gq_move (u : UnOp) (b : BinOp) (bb : Bool) (n : Nat) (lo hi mx : Option Operand) (t2 : TypeId) (g : Fn) (fs cs : Array Operand) (ps2 : Array (Nat × Operand)) (cl : Call) : globQ C env (.move x) = none := rfl
@[go_sem ↓] theorem gq_assign (u : UnOp) (b : BinOp) (bb : Bool) (n : Nat) (lo hi mx : Option Operand) (t2 : TypeId) (g : Fn) (fs cs : Array Operand) (ps2 : Array (Nat × Operand)) (cl : Call) : globQ C env (.assign x) = none := rfl
@[go_sem ↓] theorem gq_pick (u : UnOp) (b : BinOp) (bb : Bool) (n : Nat) (lo hi mx : Option Operand) (t2 : TypeId) (g : Fn) (fs cs : Array Operand) (ps2 : Array (Nat × Operand)) (cl : Call) : globQ C env (.pick x y z) = none := rfl
@[go_sem ↓] theorem gq_un (u : UnOp) (b : BinOp) (bb : Bool) (n : Nat) (lo hi mx : Option Operand) (t2 : TypeId) (g : Fn) (fs cs : Array Operand) (ps2 : Array (Nat × Operand)) (cl : Call) : globQ C env (.unOp u t x) = none := rfl
@[go_sem ↓] theorem gq_bin (u : UnOp) (b : BinOp) (bb : Bool) (n : Nat) (lo hi mx : Option Operand) (t2 : TypeId) (g : Fn) (fs cs : Array Operand) (ps2 : Array (Nat × Operand)) (cl : Call) : globQ C env (.binOp b t x y t') = none := rfl
@[go_sem ↓] theorem gq_extract (u : UnOp) (b : BinOp) (bb : Bool) (n : Nat) (lo hi mx : Option Operand) (t2 : TypeId) (g : Fn) (fs cs : Array Operand) (ps2 : Array (Nat × Operand)) (cl : Call) : globQ C env (.extract x n) = none := rfl
@[go_sem ↓] theorem gq_nilCheck (u : UnOp) (b : BinOp) (bb : Bool) (n : Nat) (lo hi mx : Option Operand) (t2 : TypeId) (g : Fn) (fs cs : Array Operand) (ps2 : Array (Nat × Operand)) (cl : Call) : globQ C env (.nilCheck x) = none := rfl
@[go_sem ↓] theorem gq_fieldAddr (u : UnOp) (b : BinOp) (bb : Bool) (n : Nat) (lo hi mx : Option Operand) (t2 : TypeId) (g : Fn) (fs cs : Array Operand) (ps2 : Array (Nat × Operand)) (cl : Call) : globQ C env (.fieldAddr t x n) = none := rfl
@[go_sem ↓] theorem gq_field (u : UnOp) (b : BinOp) (bb : Bool) (n : Nat) (lo hi mx : Option Operand) (t2 : TypeId) (g : Fn) (fs cs : Array Operand) (ps2 : Array (Nat × Operand)) (cl : Call) : globQ C env (.field t x n) = none := rfl
@[go_sem ↓] theorem gq_indexAddr (u : UnOp) (b : BinOp) (bb : Bool) (n : Nat) (lo hi mx : Option Operand) (t2 : TypeId) (g : Fn) (fs cs : Array Operand) (ps2 : Array (Nat × Operand)) (cl : Call) : globQ C env (.indexAddr t x y) = none := rfl
@[go_sem ↓] theorem gq_index (u : UnOp) (b : BinOp) (bb : Bool) (n : Nat) (lo hi mx : Option Operand) (t2 : TypeId) (g : Fn) (fs cs : Array Operand) (ps2 : Array (Nat × Operand)) (cl : Call) : globQ C env (.index t x y) = none := rfl
@[go_sem ↓] theorem gq_loadt (u : UnOp) (b : BinOp) (bb : Bool) (n : Nat) (lo hi mx : Option Operand) (t2 : TypeId) (g : Fn) (fs cs : Array Operand) (ps2 : Array (Nat × Operand)) (cl : Call) : globQ C env (.load t (.tmp n)) = none := rfl
@[go_sem ↓] theorem gq_slice (u : UnOp) (b : BinOp) (bb : Bool) (n : Nat) (lo hi mx : Option Operand) (t2 : TypeId) (g : Fn) (fs cs : Array Operand) (ps2 : Array (Nat × Operand)) (cl : Call) : globQ C env (.slice t x lo hi mx) = none := rfl
@[go_sem ↓] theorem gq_convert (u : UnOp) (b : BinOp) (bb : Bool) (n : Nat) (lo hi mx : Option Operand) (t2 : TypeId) (g : Fn) (fs cs : Array Operand) (ps2 : Array (Nat × Operand)) (cl : Call) : globQ C env (.convert t t2 x) = none := rfl
@[go_sem ↓] theorem gq_makeFunc (u : UnOp) (b : BinOp) (bb : Bool) (n : Nat) (lo hi mx : Option Operand) (t2 : TypeId) (g : Fn) (fs cs : Array Operand) (ps2 : Array (Nat × Operand)) (cl : Call) : globQ C env (.makeFunc g fs cs) = none := rfl
@[go_sem ↓] theorem gq_alloc (u : UnOp) (b : BinOp) (bb : Bool) (n : Nat) (lo hi mx : Option Operand) (t2 : TypeId) (g : Fn) (fs cs : Array Operand) (ps2 : Array (Nat × Operand)) (cl : Call) : globQ C env (.alloc t) = none := rfl
@[go_sem ↓] theorem gq_box (u : UnOp) (b : BinOp) (bb : Bool) (n : Nat) (lo hi mx : Option Operand) (t2 : TypeId) (g : Fn) (fs cs : Array Operand) (ps2 : Array (Nat × Operand)) (cl : Call) : globQ C env (.box t x) = none := rfl
@[go_sem ↓] theorem gq_store (u : UnOp) (b : BinOp) (bb : Bool) (n : Nat) (lo hi mx : Option Operand) (t2 : TypeId) (g : Fn) (fs cs : Array Operand) (ps2 : Array (Nat × Operand)) (cl : Call) : globQ C env (.store t x y) = none := rfl
@[go_sem ↓] theorem gq_build (u : UnOp) (b : BinOp) (bb : Bool) (n : Nat) (lo hi mx : Option Operand) (t2 : TypeId) (g : Fn) (fs cs : Array Operand) (ps2 : Array (Nat × Operand)) (cl : Call) : globQ C env (.build t ps2) = none := rfl
@[go_sem ↓] theorem gq_buildSlice (u : UnOp) (b : BinOp) (bb : Bool) (n : Nat) (lo hi mx : Option Operand) (t2 : TypeId) (g : Fn) (fs cs : Array Operand) (ps2 : Array (Nat × Operand)) (cl : Call) : globQ C env (.buildSlice t n ps2) = none := rfl
@[go_sem ↓] theorem gq_makeSlice (u : UnOp) (b : BinOp) (bb : Bool) (n : Nat) (lo hi mx : Option Operand) (t2 : TypeId) (g : Fn) (fs cs : Array Operand) (ps2 : Array (Nat × Operand)) (cl : Call) : globQ C env (.makeSlice t x y) = none := rfl
@[go_sem ↓] theorem gq_range (u : UnOp) (b : BinOp) (bb : Bool) (n : Nat) (lo hi mx : Option Operand) (t2 : TypeId) (g : Fn) (fs cs : Array Operand) (ps2 : Array (Nat × Operand)) (cl : Call) : globQ C env (.range t x) = none := rfl
@[go_sem ↓] theorem gq_next (u : UnOp) (b : BinOp) (bb : Bool) (n : Nat) (lo hi mx : Option Operand) (t2 : TypeId) (g : Fn) (fs cs : Array Operand) (ps2 : Array (Nat × Operand)) (cl : Call) : globQ C env (.next x bb) = none := rfl
@[go_sem ↓] theorem gq_makeMap (u : UnOp) (b : BinOp) (bb : Bool) (n : Nat) (lo hi mx : Option Operand) (t2 : TypeId) (g : Fn) (fs cs : Array Operand) (ps2 : Array (Nat × Operand)) (cl : Call) : globQ C env (.makeMap t lo) = none := rfl
@[go_sem ↓] theorem gq_mapUpdate (u : UnOp) (b : BinOp) (bb : Bool) (n : Nat) (lo hi mx : Option Operand) (t2 : TypeId) (g : Fn) (fs cs : Array Operand) (ps2 : Array (Nat × Operand)) (cl : Call) : globQ C env (.mapUpdate t x y z) = none := rfl
@[go_sem ↓] theorem gq_lookup (u : UnOp) (b : BinOp) (bb : Bool) (n : Nat) (lo hi mx : Option Operand) (t2 : TypeId) (g : Fn) (fs cs : Array Operand) (ps2 : Array (Nat × Operand)) (cl : Call) : globQ C env (.lookup t x y bb) = none := rfl
@[go_sem ↓] theorem gq_glob : globQ C env (.load t (.global 0)) = (match C.T t with
    | some i => (takeV i.agg i.size [.d (.int .i64 C.gm.m)]).map fun v => (True, v)
    | none => none) := rfl
@[go_sem ↓] theorem gq_callf (f : FuncId) (args : Array Operand) (ts : Array TypeId) : globQ C env (.call ⟨.value (.func f), args, ts⟩) = C.gm.ext f (args.toList.map (ev env)) := rfl
@[go_sem ↓] theorem gq_callt (n : Nat) (args : Array Operand) (ts : Array TypeId) : globQ C env (.call ⟨.value (.tmp n), args, ts⟩) = none := rfl
@[go_sem ↓] theorem gq_callb (b : Builtin) (args : Array Operand) (ts : Array TypeId) : globQ C env (.call ⟨.builtin b, args, ts⟩) = none := rfl
@[go_sem ↓] theorem nq0 (u : UnOp) (n : Nat) (lo hi mx : Option Operand) (t2 : TypeId) (g : Fn) (fs cs : Array Operand) (ps2 : Array (Nat × Operand)) (cl : Call) : nilQ C st (.move x) = none := rfl
@[go_sem ↓] theorem nq1 (u : UnOp) (n : Nat) (lo hi mx : Option Operand) (t2 : TypeId) (g : Fn) (fs cs : Array Operand) (ps2 : Array (Nat × Operand)) (cl : Call) : nilQ C st (.assign x) = none := rfl
@[go_sem ↓] theorem nq2 (u : UnOp) (n : Nat) (lo hi mx : Option Operand) (t2 : TypeId) (g : Fn) (fs cs : Array Operand) (ps2 : Array (Nat × Operand)) (cl : Call) : nilQ C st (.pick x y z) = none := rfl
@[go_sem ↓] theorem nq3 (u : UnOp) (n : Nat) (lo hi mx : Option Operand) (t2 : TypeId) (g : Fn) (fs cs : Array Operand) (ps2 : Array (Nat × Operand)) (cl : Call) : nilQ C st (.unOp u t x) = none := rfl
@[go_sem ↓] theorem nq4 (u : UnOp) (n : Nat) (lo hi mx : Option Operand) (t2 : TypeId) (g : Fn) (fs cs : Array Operand) (ps2 : Array (Nat × Operand)) (cl : Call) : nilQ C st (.extract x n) = none := rfl
@[go_sem ↓] theorem nq5 (u : UnOp) (n : Nat) (lo hi mx : Option Operand) (t2 : TypeId) (g : Fn) (fs cs : Array Operand) (ps2 : Array (Nat × Operand)) (cl : Call) : nilQ C st (.nilCheck x) = none := rfl
@[go_sem ↓] theorem nq6 (u : UnOp) (n : Nat) (lo hi mx : Option Operand) (t2 : TypeId) (g : Fn) (fs cs : Array Operand) (ps2 : Array (Nat × Operand)) (cl : Call) : nilQ C st (.fieldAddr t x n) = none := rfl
@[go_sem ↓] theorem nq7 (u : UnOp) (n : Nat) (lo hi mx : Option Operand) (t2 : TypeId) (g : Fn) (fs cs : Array Operand) (ps2 : Array (Nat × Operand)) (cl : Call) : nilQ C st (.field t x n) = none := rfl
@[go_sem ↓] theorem nq8 (u : UnOp) (n : Nat) (lo hi mx : Option Operand) (t2 : TypeId) (g : Fn) (fs cs : Array Operand) (ps2 : Array (Nat × Operand)) (cl : Call) : nilQ C st (.indexAddr t x y) = none := rfl
@[go_sem ↓] theorem nq9 (u : UnOp) (n : Nat) (lo hi mx : Option Operand) (t2 : TypeId) (g : Fn) (fs cs : Array Operand) (ps2 : Array (Nat × Operand)) (cl : Call) : nilQ C st (.index t x y) = none := rfl
@[go_sem ↓] theorem nq10 (u : UnOp) (n : Nat) (lo hi mx : Option Operand) (t2 : TypeId) (g : Fn) (fs cs : Array Operand) (ps2 : Array (Nat × Operand)) (cl : Call) : nilQ C st (.load t x) = none := rfl
@[go_sem ↓] theorem nq11 (u : UnOp) (n : Nat) (lo hi mx : Option Operand) (t2 : TypeId) (g : Fn) (fs cs : Array Operand) (ps2 : Array (Nat × Operand)) (cl : Call) : nilQ C st (.slice t x lo hi mx) = none := rfl
@[go_sem ↓] theorem nq12 (u : UnOp) (n : Nat) (lo hi mx : Option Operand) (t2 : TypeId) (g : Fn) (fs cs : Array Operand) (ps2 : Array (Nat × Operand)) (cl : Call) : nilQ C st (.convert t t2 x) = none := rfl
@[go_sem ↓] theorem nq13 (u : UnOp) (n : Nat) (lo hi mx : Option Operand) (t2 : TypeId) (g : Fn) (fs cs : Array Operand) (ps2 : Array (Nat × Operand)) (cl : Call) : nilQ C st (.makeFunc g fs cs) = none := rfl
@[go_sem ↓] theorem nq14 (u : UnOp) (n : Nat) (lo hi mx : Option Operand) (t2 : TypeId) (g : Fn) (fs cs : Array Operand) (ps2 : Array (Nat × Operand)) (cl : Call) : nilQ C st (.alloc t) = none := rfl
@[go_sem ↓] theorem nq15 (u : UnOp) (n : Nat) (lo hi mx : Option Operand) (t2 : TypeId) (g : Fn) (fs cs : Array Operand) (ps2 : Array (Nat × Operand)) (cl : Call) : nilQ C st (.box t x) = none := rfl
@[go_sem ↓] theorem nq16 (u : UnOp) (n : Nat) (lo hi mx : Option Operand) (t2 : TypeId) (g : Fn) (fs cs : Array Operand) (ps2 : Array (Nat × Operand)) (cl : Call) : nilQ C st (.store t x y) = none := rfl
@[go_sem ↓] theorem nq17 (u : UnOp) (n : Nat) (lo hi mx : Option Operand) (t2 : TypeId) (g : Fn) (fs cs : Array Operand) (ps2 : Array (Nat × Operand)) (cl : Call) : nilQ C st (.build t ps2) = none := rfl
@[go_sem ↓] theorem nq18 (u : UnOp) (n : Nat) (lo hi mx : Option Operand) (t2 : TypeId) (g : Fn) (fs cs : Array Operand) (ps2 : Array (Nat × Operand)) (cl : Call) : nilQ C st (.buildSlice t n ps2) = none := rfl
@[go_sem ↓] theorem nq19 (u : UnOp) (n : Nat) (lo hi mx : Option Operand) (t2 : TypeId) (g : Fn) (fs cs : Array Operand) (ps2 : Array (Nat × Operand)) (cl : Call) : nilQ C st (.makeSlice t x y) = none := rfl
@[go_sem ↓] theorem nq20 (u : UnOp) (n : Nat) (lo hi mx : Option Operand) (t2 : TypeId) (g : Fn) (fs cs : Array Operand) (ps2 : Array (Nat × Operand)) (cl : Call) : nilQ C st (.call cl) = none := rfl
@[go_sem ↓] theorem nq_bin (b : BinOp) (y : Operand) (h : b ≠ .eql) (h2 : b ≠ .neq) : nilQ C st (.binOp b t x y t') = none := by
  cases b <;> simp_all <;> rfl
@[go_sem ↓] theorem nq_tmp (b : BinOp) (n : Nat) : nilQ C st (.binOp b t x (.tmp n) t') = none := by cases b <;> rfl
@[go_sem ↓] theorem nq_int (b : BinOp) (k : IntKind) (n : Int) : nilQ C st (.binOp b t x (.const (.int k n)) t') = none := by cases b <;> rfl
@[go_sem ↓] theorem nq_bool (b : BinOp) (n : Bool) : nilQ C st (.binOp b t x (.const (.bool n)) t') = none := by cases b <;> rfl
@[go_sem ↓] theorem nq_str (b : BinOp) (n : ByteArray) : nilQ C st (.binOp b t x (.const (.string n)) t') = none := by cases b <;> rfl
@[go_sem ↓] theorem nq_eql : nilQ C st (.binOp .eql t x (.const (.slice none 0 0)) t') = (match (C.T t).map (·.kind) with
    | some (TK.slice _) => nilR true st.os (ev st.env x)
    | _ => none) := rfl
@[go_sem ↓] theorem nq_neq : nilQ C st (.binOp .neq t x (.const (.slice none 0 0)) t') = (match (C.T t).map (·.kind) with
    | some (TK.slice _) => nilR false st.os (ev st.env x)
    | _ => none) := rfl
attribute [go_sem] nilR
/-- An operation under a guard. -/
def opG (C : Cx) (ops : Array Oper) (r : List Oper) (K : St → Prop) (st : St) (d : Option Nat) (op : Op) : Option (Option Bool) → Prop
  | some none => globK C ops r K st d op (globQ C st.env op)
  | some (some b) => match pureG C st op with
    | some (p, v) => (b = true → p) ∧ runOps C ops r (putE st d (.whn b v)) K
    | none => (b = true → stripC st op ∧ match stepV C (strip st op) (d.getD 0) op with
      | some (p, v, st') => p ∧ runOps C ops r (putE st' d v) K
      | none => False) ∧ (b = false → runOps C ops r (putE st d .top) K)
  | none => False
@[go_sem ↓] theorem eq_guard (j : Nat) (want : Bool) : runOps C ops (⟨dd, op, ty, ps, af, some (j, want)⟩ :: r) st K = opG C ops r K st dd op (guardB ops st.env ⟨dd, op, ty, ps, af, some (j, want)⟩) := by
  unfold opG
  simp only [runOps, opP]
  split <;> rename_i h <;> simp only [h] <;> first | rfl | (unfold globK nilK; cases globQ C st.env op with
    | some v => rfl
    | none => cases nilQ C st op <;> rfl)
@[go_sem ↓] theorem opG_some (b : Bool) : opG C ops r K st dd op (some (some b)) = (match pureG C st op with
    | some (p, v) => (b = true → p) ∧ runOps C ops r (putE st dd (.whn b v)) K
    | none => (b = true → stripC st op ∧ match stepV C (strip st op) (dd.getD 0) op with
      | some (p, v, st') => p ∧ runOps C ops r (putE st' dd v) K
      | none => False) ∧ (b = false → runOps C ops r (putE st dd .top) K)) := rfl
def andC (q : Prop) : Option (Prop × V) → Option (Prop × V)
  | some (p, v) => some (q ∧ p, v)
  | none => none
@[go_sem ↓] theorem andC_some (q p : Prop) (v : V) : andC q (some (p, v)) = some (q ∧ p, v) := rfl
@[go_sem ↓] theorem andC_none (q : Prop) : andC q none = none := rfl
@[go_sem ↓] theorem eq_pureG : pureG C ⟨env, os⟩ op = (match stripP env (usedT op) with
    | (q, e) => andC q (pureV C ⟨e, os⟩ op)) := by
  unfold pureG strip stripC andC
  rfl
/-- One variable of a value under a guard. -/
def strip1 (env : Nat → V) (t : Nat) (r : List Nat) : V → Prop × (Nat → V)
  | .whn q v => (q = true ∧ (stripP (upd env t v) r).1, (stripP (upd env t v) r).2)
  | _ => stripP env r
@[go_sem ↓] theorem stripP_nil : stripP env [] = (True, env) := rfl
@[go_sem ↓] theorem stripP_cons (t : Nat) (r : List Nat) : stripP env (t :: r) = strip1 env t r (env t) := by
  conv => lhs; unfold stripP
  unfold strip1
  rfl
@[go_sem ↓] theorem strip1_whn (t : Nat) (r : List Nat) (q : Bool) (v : V) : strip1 env t r (.whn q v) = (match stripP (upd env t v) r with
    | (q', e) => (q = true ∧ q', e)) := rfl
@[go_sem ↓] theorem strip1_d (t : Nat) (r : List Nat) (x : D) : strip1 env t r (.d x) = stripP env r := rfl
@[go_sem ↓] theorem strip1_nil (t : Nat) (r : List Nat) : strip1 env t r .nil = stripP env r := rfl
@[go_sem ↓] theorem strip1_ptr (t : Nat) (r : List Nat) (o c : Nat) : strip1 env t r (.ptr o c) = stripP env r := rfl
@[go_sem ↓] theorem strip1_row (t : Nat) (r : List Nat) (o : Nat) : strip1 env t r (.row o) = stripP env r := rfl
@[go_sem ↓] theorem strip1_rptr (t : Nat) (r : List Nat) (o m i j : Nat) : strip1 env t r (.rptr o m i j) = stripP env r := rfl
@[go_sem ↓] theorem strip1_dptr (t : Nat) (r : List Nat) (cs : List D) : strip1 env t r (.dptr cs) = stripP env r := rfl
@[go_sem ↓] theorem strip1_agg (t : Nat) (r : List Nat) (cs : List V) : strip1 env t r (.agg cs) = stripP env r := rfl
@[go_sem ↓] theorem strip1_tup (t : Nat) (r : List Nat) (cs : List V) : strip1 env t r (.tup cs) = stripP env r := rfl
@[go_sem ↓] theorem strip1_fnc (t : Nat) (r : List Nat) (f : FuncId) (cs : List V) : strip1 env t r (.fnc f cs) = stripP env r := rfl
@[go_sem ↓] theorem strip1_top (t : Nat) (r : List Nat) : strip1 env t r .top = stripP env r := rfl
@[go_sem ↓] theorem opT_tmp (t : Nat) (r : List Nat) : opT (.tmp t) r = t :: r := rfl
@[go_sem ↓] theorem opT_const (v : Value) (r : List Nat) : opT (.const v) r = r := rfl
@[go_sem ↓] theorem opT_func (f : FuncId) (r : List Nat) : opT (.func f) r = r := rfl
@[go_sem ↓] theorem opT_global (g : Nat) (r : List Nat) : opT (.global g) r = r := rfl
@[go_sem ↓] theorem optT_none (r : List Nat) : optT none r = r := rfl
@[go_sem ↓] theorem optT_some (r : List Nat) : optT (some x) r = opT x r := rfl
@[go_sem ↓] theorem argsT_nil : argsT [] = [] := rfl
@[go_sem ↓] theorem argsT_cons (l : List Operand) : argsT (x :: l) = opT x (argsT l) := rfl
@[go_sem ↓] theorem us_move : usedT (.move x) = opT x [] := rfl
@[go_sem ↓] theorem us_assign : usedT (.assign x) = opT x [] := rfl
@[go_sem ↓] theorem us_pick : usedT (.pick x y z) = opT x [] := rfl
@[go_sem ↓] theorem us_bin (b : BinOp) : usedT (.binOp b t x y t') = opT x (opT y []) := rfl
@[go_sem ↓] theorem us_un (u : UnOp) : usedT (.unOp u t x) = opT x [] := rfl
@[go_sem ↓] theorem us_extract (i : Nat) : usedT (.extract x i) = opT x [] := rfl
@[go_sem ↓] theorem us_nilCheck : usedT (.nilCheck x) = opT x [] := rfl
@[go_sem ↓] theorem us_fieldAddr (f : Nat) : usedT (.fieldAddr t x f) = opT x [] := rfl
@[go_sem ↓] theorem us_field (f : Nat) : usedT (.field t x f) = opT x [] := rfl
@[go_sem ↓] theorem us_indexAddr : usedT (.indexAddr t x y) = opT x (opT y []) := rfl
@[go_sem ↓] theorem us_index : usedT (.index t x y) = opT x (opT y []) := rfl
@[go_sem ↓] theorem us_load : usedT (.load t x) = opT x [] := rfl
@[go_sem ↓] theorem us_slice (lo hi mx : Option Operand) : usedT (.slice t x lo hi mx) = opT x (optT lo (optT hi [])) := rfl
@[go_sem ↓] theorem us_convert : usedT (.convert t t' x) = opT x [] := rfl
@[go_sem ↓] theorem us_makeFunc (f : Fn) (first caps : Array Operand) : usedT (.makeFunc f first caps) = argsT caps.toList := rfl
@[go_sem ↓] theorem us_call (args : Array Operand) (ts : Array TypeId) : usedT (.call ⟨.value x, args, ts⟩) = opT x (argsT args.toList) := rfl
@[go_sem ↓] theorem us_builtin (b : Builtin) (args : Array Operand) (ts : Array TypeId) : usedT (.call ⟨.builtin b, args, ts⟩) = argsT args.toList := rfl
def dstAt : List Oper → Nat → Option Nat
  | [], _ => none
  | o :: _, 0 => o.dst
  | _ :: r, j + 1 => dstAt r j
theorem dstAt_eq : ∀ (l : List Oper) (j : Nat), (l[j]?).bind (·.dst) = dstAt l j
  | [], _ => rfl
  | _ :: _, 0 => rfl
  | _ :: r, j + 1 => by rw [List.getElem?_cons_succ]; exact dstAt_eq r j
@[go_sem ↓] theorem dstAt_zero (g : Option (Nat × Bool)) : dstAt (⟨dd, op, ty, ps, af, g⟩ :: r) 0 = dd := rfl
@[go_sem ↓] theorem dstAt_succ (o : Oper) (j : Nat) : dstAt (o :: r) (j + 1) = dstAt r j := rfl
def wantV (want : Bool) : V → Option (Option Bool)
  | .d (.bool b) => some (some (b == want))
  | .whn q (.d (.bool b)) => some (some (q && (b == want)))
  | _ => none
def wantT (env : Nat → V) (want : Bool) : Option Nat → Option (Option Bool)
  | some t => wantV want (env t)
  | none => none
@[go_sem ↓] theorem eq_guardB (l : List Oper) (j : Nat) (want : Bool) : guardB l.toArray env ⟨dd, op, ty, ps, af, some (j, want)⟩ = wantT env want (dstAt l j) := by
  rw [← dstAt_eq]
  unfold guardB wantT wantV
  simp only [List.getElem?_toArray]
  cases (l[j]?).bind (·.dst) with
  | none => rfl
  | some t => rfl
@[go_sem ↓] theorem wantT_some (want : Bool) : wantT env want (some d) = wantV want (env d) := rfl
@[go_sem ↓] theorem wantV_t (b : Bool) : wantV true (.d (.bool b)) = some (some b) := by simp [wantV]
@[go_sem ↓] theorem wantV_f (b : Bool) : wantV false (.d (.bool b)) = some (some (!b)) := by simp [wantV]
@[go_sem ↓] theorem wantV_wt (q b : Bool) : wantV true (.whn q (.d (.bool b))) = some (some (q && b)) := by simp [wantV]
@[go_sem ↓] theorem wantV_wf (q b : Bool) : wantV false (.whn q (.d (.bool b))) = some (some (q && !b)) := by simp [wantV]
@[go_sem ↓] theorem eq_put (v : V) : putE ⟨env, os⟩ (some d) v = ⟨upd env d v, os⟩ := rfl
@[go_sem ↓] theorem eq_put0 (v : V) : putE st none v = st := rfl
@[go_sem ↓] theorem ev_tmp : ev env (.tmp d) = env d := rfl
@[go_sem ↓] theorem ev_int (k : IntKind) (n : Int) : ev env (.const (.int k n)) = .d (.int k n) := rfl
@[go_sem ↓] theorem ev_bool (b : Bool) : ev env (.const (.bool b)) = .d (.bool b) := rfl
@[go_sem ↓] theorem ev_str (s : ByteArray) : ev env (.const (.string s)) = .d (.str s) := rfl
@[go_sem ↓] theorem ev_nil : ev env (.const (.slice none 0 0)) = .nil := rfl
@[go_sem ↓] theorem ev_fn (f : FuncId) : ev env (.func f) = .d (.fn f) := rfl
@[go_sem ↓] theorem st_env : (St.mk env os).env = env := rfl
@[go_sem ↓] theorem st_os : (St.mk env os).os = os := rfl
-- values
@[go_sem ↓] theorem st_move : stepV C st d (.move x) = some (True, ev st.env x, st) := rfl
@[go_sem ↓] theorem st_assign : stepV C st d (.assign x) = some (True, ev st.env x, st) := rfl
/-- A value that is there, with the state. -/
def orAct (C : Cx) (st : St) (d : Nat) (op : Op) : Option (Prop × V) → Option (Prop × V × St)
  | some (p, v) => some (p, v, st)
  | none => act C st d op
def keepS (st : St) : Option (Prop × V) → Option (Prop × V × St)
  | some (p, v) => some (p, v, st)
  | none => none
@[go_sem ↓] theorem keepS_some (p : Prop) (v : V) : keepS st (some (p, v)) = some (p, v, st) := rfl
theorem keep_eq {C : Cx} {st : St} {d : Nat} {op : Op} {q : Option (Prop × V)} (h : act C st d op = none) (hv : val C st op = q) : stepV C st d op = keepS st q := by
  subst hv
  unfold stepV keepS
  cases val C st op with
  | none => exact h
  | some q => rfl
theorem pv_eq {C : Cx} {st : St} {op : Op} {q : Option (Prop × V)} (h : (match op with
    | .call { callee := .value fo, args, .. } => pcall C st fo args.toList
    | o => actP C st o) = none) (hv : val C st op = q) : pureV C st op = q := by
  subst hv
  unfold pureV
  cases val C st op with
  | some q => rfl
  | none => exact h
@[go_sem ↓] theorem st_pick : stepV C st d (.pick x y z) = keepS st (match ev st.env x with
    | .d (.bool t) => pickV t (ev st.env y) (ev st.env z)
    | _ => none) := keep_eq rfl rfl
@[go_sem ↓] theorem st_bin (b : BinOp) : stepV C st d (.binOp b t x y t') = keepS st (binV C b t (ev st.env x) (ev st.env y)) := keep_eq rfl rfl
@[go_sem ↓] theorem st_un (u : UnOp) : stepV C st d (.unOp u t x) = keepS st (unV u (ev st.env x)) := keep_eq rfl rfl
@[go_sem ↓] theorem st_extract (i : Nat) : stepV C st d (.extract x i) = keepS st (match ev st.env x with
    | .tup cs => (cs[i]?).map fun v => (True, v)
    | _ => none) := keep_eq rfl rfl
@[go_sem ↓] theorem st_nilCheck : stepV C st d (.nilCheck x) = keepS st (val C st (.nilCheck x)) := keep_eq rfl rfl
@[go_sem ↓] theorem val_nilCheck : val C st (.nilCheck x) = (match ev st.env x with
    | .ptr o c => some (True, .ptr o c)
    | .rptr o m i j => some (True, .rptr o m i j)
    | .dptr cs => some (True, .dptr cs)
    | .d (.fn f) => some (True, .d (.fn f))
    | .fnc f cs => some (True, .fnc f cs)
    | _ => none) := rfl
@[go_sem ↓] theorem st_fieldAddr (f : Nat) : stepV C st d (.fieldAddr t x f) = keepS st (fieldV C t (ev st.env x) f) := keep_eq rfl rfl
@[go_sem ↓] theorem st_field (f : Nat) : stepV C st d (.field t x f) = keepS st (partV C t (ev st.env x) f) := keep_eq rfl rfl
@[go_sem ↓] theorem st_indexAddr : stepV C st d (.indexAddr t x y) = keepS st (idxV C st.os t (ev st.env x) (ev st.env y)) := keep_eq rfl rfl
@[go_sem ↓] theorem st_index : stepV C st d (.index t x y) = keepS st (indexV C t (ev st.env x) (ev st.env y)) := keep_eq rfl rfl
@[go_sem ↓] theorem st_load : stepV C st d (.load t x) = keepS st (loadV C st.os t (ev st.env x)) := keep_eq rfl rfl
@[go_sem ↓] theorem st_slice (lo hi mx : Option Operand) : stepV C st d (.slice t x lo hi mx) = keepS st (sliceV C (ev st.env) t x lo hi mx) := keep_eq rfl rfl
@[go_sem ↓] theorem st_convert : stepV C st d (.convert t t' x) = orAct C st d (.convert t t' x) (convV C st.os t t' (ev st.env x)) := rfl
@[go_sem ↓] theorem orAct_some (p : Prop) (v : V) : orAct C st d op (some (p, v)) = some (p, v, st) := rfl
@[go_sem ↓] theorem orAct_none : orAct C st d op none = act C st d op := rfl
@[go_sem ↓] theorem st_makeFunc (f : FuncId) (caps : Array Operand) : stepV C st d (.makeFunc (.func f) #[] caps) = some (True, if caps.size = 0 then .d (.fn f) else .fnc f (caps.toList.map (ev st.env)), st) := rfl
@[go_sem ↓] theorem st_len : stepV C st d (.call ⟨.builtin .len, #[x], #[t]⟩) = keepS st (lenV C st.os t (ev st.env x)) := keep_eq rfl rfl
@[go_sem ↓] theorem st_min (ts : Array TypeId) : stepV C st d (.call ⟨.builtin .min, #[x, y], ts⟩) = keepS st (minV false (ev st.env x) (ev st.env y)) := keep_eq rfl rfl
@[go_sem ↓] theorem st_max (ts : Array TypeId) : stepV C st d (.call ⟨.builtin .max, #[x, y], ts⟩) = keepS st (minV true (ev st.env x) (ev st.env y)) := keep_eq rfl rfl
-- actions
@[go_sem ↓] theorem st_alloc : stepV C st d (.alloc t) = act C st d (.alloc t) := rfl
@[go_sem ↓] theorem st_box : stepV C st d (.box t x) = act C st d (.box t x) := rfl
@[go_sem ↓] theorem st_store : stepV C st d (.store t x y) = storeV C st t (ev st.env x) (ev st.env y) := rfl
@[go_sem ↓] theorem st_build (parts : Array (Nat × Operand)) : stepV C st d (.build t parts) = (buildV C (ev st.env) t parts.toList).map fun v => (True, v, st) := rfl
@[go_sem ↓] theorem st_buildSlice (n : Nat) (parts : Array (Nat × Operand)) : stepV C st d (.buildSlice t n parts) = litV C st d t n parts.toList := rfl
@[go_sem ↓] theorem st_makeSlice : stepV C st d (.makeSlice t x y) = makeV C st d t (ev st.env x) (ev st.env y) := rfl
/-- A call without a contract of its values alone. -/
def orE (C : Cx) (st : St) (d : Nat) (fo : Operand) (xs : List Operand) : Option (Prop × V × St) → Option (Prop × V × St)
  | some q => some q
  | none => callH C st d fo xs
@[go_sem ↓] theorem orE_some (xs : List Operand) (q : Prop × V × St) : orE C st d x xs (some q) = some q := rfl
@[go_sem ↓] theorem orE_none (xs : List Operand) : orE C st d x xs none = callH C st d x xs := rfl
@[go_sem ↓] theorem st_call (args : Array Operand) (ts : Array TypeId) : stepV C st d (.call ⟨.value x, args, ts⟩) = if (ev st.env x :: args.toList.map (ev st.env)).all (ptrOk st.os) then orE C st d x args.toList (callV C st x args.toList) else none := rfl
@[go_sem ↓] theorem st_append : stepV C st d (.call ⟨.builtin .append, #[x, y], #[t, t']⟩) = if t' = t then appV C st d t x y else none := rfl
-- pure operations under a guard
@[go_sem ↓] theorem pv_move : pureV C st (.move x) = some (True, ev st.env x) := rfl
@[go_sem ↓] theorem pv_bin (b : BinOp) : pureV C st (.binOp b t x y t') = binV C b t (ev st.env x) (ev st.env y) := pv_eq rfl rfl
@[go_sem ↓] theorem pv_un (u : UnOp) : pureV C st (.unOp u t x) = unV u (ev st.env x) := pv_eq rfl rfl
@[go_sem ↓] theorem pv_pick : pureV C st (.pick x y z) = (match ev st.env x with
    | .d (.bool t) => pickV t (ev st.env y) (ev st.env z)
    | _ => none) := pv_eq rfl rfl
@[go_sem ↓] theorem pv_index : pureV C st (.index t x y) = indexV C t (ev st.env x) (ev st.env y) := pv_eq rfl rfl
@[go_sem ↓] theorem pv_indexAddr : pureV C st (.indexAddr t x y) = idxV C st.os t (ev st.env x) (ev st.env y) := pv_eq rfl rfl
@[go_sem ↓] theorem pv_load : pureV C st (.load t x) = loadV C st.os t (ev st.env x) := pv_eq rfl rfl
@[go_sem ↓] theorem pv_field (f : Nat) : pureV C st (.field t x f) = partV C t (ev st.env x) f := pv_eq rfl rfl
@[go_sem ↓] theorem pv_fieldAddr (f : Nat) : pureV C st (.fieldAddr t x f) = fieldV C t (ev st.env x) f := pv_eq rfl rfl
@[go_sem ↓] theorem pv_nilCheck : pureV C st (.nilCheck x) = val C st (.nilCheck x) := pv_eq rfl rfl
@[go_sem ↓] theorem pv_slice (lo hi mx : Option Operand) : pureV C st (.slice t x lo hi mx) = sliceV C (ev st.env) t x lo hi mx := pv_eq rfl rfl
def orP : Option (Prop × V) → Option (Prop × V) → Option (Prop × V)
  | some q, _ => some q
  | none, q => q
@[go_sem ↓] theorem orP_some (q : Prop × V) (q' : Option (Prop × V)) : orP (some q) q' = some q := rfl
@[go_sem ↓] theorem orP_none (q' : Option (Prop × V)) : orP none q' = q' := rfl
@[go_sem ↓] theorem pv_convert : pureV C st (.convert t t' x) = orP (convV C st.os t t' (ev st.env x)) (match ev st.env x with
    | .d (.str b) => if isU8 C t' then (match C.T t with
      | some _ => some (b.size ≤ 9223372036854775807, .d (.sl 1 (strRows b)))
      | none => none) else none
    | _ => none) := by
  unfold pureV
  simp only [val]
  cases convV C st.os t t' (ev st.env x) with
  | some q => rfl
  | none =>
    simp only [orP, actP, act]
    cases ev st.env x <;> try rfl
    rename_i y
    cases y <;> try rfl
    simp only
    split
    · cases C.T t <;> rfl
    · rfl
@[go_sem ↓] theorem pv_build (parts : Array (Nat × Operand)) : pureV C st (.build t parts) = (buildV C (ev st.env) t parts.toList).map fun v => (True, v) := by
  unfold pureV
  simp only [val, actP, act]
  cases buildV C (ev st.env) t parts.toList <;> rfl
@[go_sem ↓] theorem pv_len : pureV C st (.call ⟨.builtin .len, #[x], #[t]⟩) = lenV C st.os t (ev st.env x) := pv_eq rfl rfl
@[go_sem ↓] theorem pv_call (args : Array Operand) (ts : Array TypeId) : pureV C st (.call ⟨.value x, args, ts⟩) = pcall C st x args.toList := rfl
@[go_sem ↓] theorem pv_extract (i : Nat) : pureV C st (.extract x i) = (match ev st.env x with
    | .tup cs => (cs[i]?).map fun v => (True, v)
    | _ => none) := pv_eq rfl rfl
-- numbers, strings, bools
variable (k : IntKind) (a b : Int) (u v : ByteArray)
@[go_sem ↓] theorem bin_add : binV C .add t (.d (.int k a)) (.d (.int k b)) = some (True, .d (.int k (k.wrap (a + b)))) := by simp [binV, intV]
@[go_sem ↓] theorem bin_sub : binV C .sub t (.d (.int k a)) (.d (.int k b)) = some (True, .d (.int k (k.wrap (a - b)))) := by simp [binV, intV]
@[go_sem ↓] theorem bin_mul : binV C .mul t (.d (.int k a)) (.d (.int k b)) = some (True, .d (.int k (k.wrap (a * b)))) := by simp [binV, intV]
@[go_sem ↓] theorem bin_quo : binV C .quo t (.d (.int k a)) (.d (.int k b)) = some (b ≠ 0, .d (.int k (k.wrap (a.tdiv b)))) := by simp [binV, intV]
@[go_sem ↓] theorem bin_rem : binV C .rem t (.d (.int k a)) (.d (.int k b)) = some (b ≠ 0, .d (.int k (a.tmod b))) := by simp [binV, intV]
@[go_sem ↓] theorem bin_and : binV C .and t (.d (.int k a)) (.d (.int k b)) = some (True, .d (.int k (bits .and k a b))) := by simp [binV, intV]
@[go_sem ↓] theorem bin_or : binV C .or t (.d (.int k a)) (.d (.int k b)) = some (True, .d (.int k (bits .or k a b))) := by simp [binV, intV]
@[go_sem ↓] theorem bin_xor : binV C .xor t (.d (.int k a)) (.d (.int k b)) = some (True, .d (.int k (bits .xor k a b))) := by simp [binV, intV]
@[go_sem ↓] theorem bin_eql : binV C .eql t (.d (.int k a)) (.d (.int k b)) = some (True, .d (.bool (a == b))) := by simp [binV, intV]
@[go_sem ↓] theorem bin_neq : binV C .neq t (.d (.int k a)) (.d (.int k b)) = some (True, .d (.bool (a != b))) := by simp [binV, intV]
@[go_sem ↓] theorem bin_lss : binV C .lss t (.d (.int k a)) (.d (.int k b)) = some (True, .d (.bool (decide (a < b)))) := by simp [binV, intV]
@[go_sem ↓] theorem bin_leq : binV C .leq t (.d (.int k a)) (.d (.int k b)) = some (True, .d (.bool (decide (a ≤ b)))) := by simp [binV, intV]
@[go_sem ↓] theorem bin_gtr : binV C .gtr t (.d (.int k a)) (.d (.int k b)) = some (True, .d (.bool (decide (b < a)))) := by simp [binV, intV]
@[go_sem ↓] theorem bin_geq : binV C .geq t (.d (.int k a)) (.d (.int k b)) = some (True, .d (.bool (decide (b ≤ a)))) := by simp [binV, intV]
@[go_sem ↓] theorem bin_shl (k' : IntKind) : binV C .shl t (.d (.int k a)) (.d (.int k' b)) = some (0 ≤ b, .d (.int k (shlV k a b))) := by simp [binV]
@[go_sem ↓] theorem bin_shr (k' : IntKind) : binV C .shr t (.d (.int k a)) (.d (.int k' b)) = some (0 ≤ b, .d (.int k (shrV k a b))) := by simp [binV]
@[go_sem ↓] theorem bin_sadd : binV C .add t (.d (.str u)) (.d (.str v)) = some (u.size + v.size ≤ 9223372036854775807, .d (.str (u ++ v))) := by simp [binV, strV]
@[go_sem ↓] theorem bin_seql : binV C .eql t (.d (.str u)) (.d (.str v)) = some (True, .d (.bool (sEq u v))) := by simp [binV, strV]
@[go_sem ↓] theorem bin_sneq : binV C .neq t (.d (.str u)) (.d (.str v)) = some (True, .d (.bool (!sEq u v))) := by simp [binV, strV]
@[go_sem ↓] theorem bin_slss : binV C .lss t (.d (.str u)) (.d (.str v)) = some (True, .d (.bool (sLt u v))) := by simp [binV, strV]
@[go_sem ↓] theorem un_not (b : Bool) : unV .not (.d (.bool b)) = some (True, .d (.bool (!b))) := rfl
@[go_sem ↓] theorem un_neg : unV .neg (.d (.int k a)) = some (True, .d (.int k (k.wrap (0 - a)))) := rfl
@[go_sem ↓] theorem pick_bb (c x y : Bool) : pickV c (.d (.bool x)) (.d (.bool y)) = some (True, .d (.bool (cond c x y))) := rfl
@[go_sem ↓] theorem pick_wb (c x y q : Bool) : pickV c (.whn q (.d (.bool x))) (.d (.bool y)) = some (c = true → q = true, .d (.bool (cond c x y))) := rfl
@[go_sem ↓] theorem pick_bw (c x y q : Bool) : pickV c (.d (.bool x)) (.whn q (.d (.bool y))) = some (c = false → q = true, .d (.bool (cond c x y))) := rfl
@[go_sem ↓] theorem pick_tb (c y : Bool) : pickV c .top (.d (.bool y)) = some (c = false, .d (.bool y)) := rfl
@[go_sem ↓] theorem pick_bt (c x : Bool) : pickV c (.d (.bool x)) .top = some (c = true, .d (.bool x)) := rfl
@[go_sem ↓] theorem pick_ww (c x y q q' : Bool) : pickV c (.whn q (.d (.bool x))) (.whn q' (.d (.bool y))) = some ((c = true → q = true) ∧ (c = false → q' = true), .d (.bool (cond c x y))) := rfl
attribute [go_sem ↓] upd_apply
variable (T : TypeId → Option TI) (Γ : FuncId → List V → Option (Prop × V)) (n : FuncId → List V → List O → Option (Prop × V × List O)) (pl : Nat → List (Nat × List Nat)) (gm : Gl)
@[go_sem ↓] theorem cx_T : (Cx.mk T Γ n pl gm).T = T := rfl
@[go_sem ↓] theorem cx_Γ : (Cx.mk T Γ n pl gm).Γ = Γ := rfl
@[go_sem ↓] theorem cx_Δ : (Cx.mk T Γ n pl gm).Δ = n := rfl
@[go_sem ↓] theorem cx_gm : (Cx.mk T Γ n pl gm).gm = gm := rfl
@[go_sem ↓] theorem cx_pl : (Cx.mk T Γ n pl gm).pl = pl := rfl
@[go_sem ↓] theorem plT_nil (id : Nat) : plT [] id = [] := rfl
@[go_sem ↓] theorem plT_cons (k id : Nat) (l : List (Nat × List Nat)) (r : List (Nat × List (Nat × List Nat))) : plT ((k, l) :: r) id = if id = k then l else plT r id := rfl
@[go_sem ↓] theorem planOr_cons (m : Nat) (q : Nat × List Nat) (l : List (Nat × List Nat)) : planOr m (q :: l) = q :: l := rfl
@[go_sem ↓] theorem planFor_eq (id m : Nat) : planFor pl id m = planOr m (pl id) := rfl
-- code
@[go_sem ↓] theorem run_seq (a b : Code) : run C (.seq a b) st Q = run C a st (thenQ (fun s => run C b s Q) Q) := rfl
@[go_sem ↓] theorem run_region (id : Nat) : run C (.region id ops false) st Q = runOps C ops ops.toList st (Q .normal) := rfl
@[go_sem ↓] theorem run_draw (id : Nat) : run C (.region id ops true) st Q = runD C ops (planFor C.pl id ops.size) (freshAll st (allocsOf ops.toList)) (Q .normal) := rfl
@[go_sem ↓] theorem freshAll_nil : freshAll st [] = st := rfl
@[go_sem ↓] theorem freshAll_cons (t : Nat) (l : List Nat) : freshAll st (t :: l) = freshAll (fresh st t) l := rfl
@[go_sem ↓] theorem allocsOf_nil : allocsOf [] = [] := rfl
@[go_sem ↓] theorem allocsOf_cons (g : Option (Nat × Bool)) (l : List Oper) : allocsOf (⟨dd, op, ty, ps, af, g⟩ :: l) = alloc1 dd (isAlloc op) (allocsOf l) := rfl
@[go_sem ↓] theorem alloc1_f (l : List Nat) : alloc1 dd false l = l := rfl
@[go_sem ↓] theorem alloc1_t (l : List Nat) : alloc1 (some d) true l = d :: l := rfl
/-- An operation by its number. -/
def opAt : List Oper → Nat → Option Oper
  | [], _ => none
  | o :: _, 0 => some o
  | _ :: r, j + 1 => opAt r j
theorem opAt_eq : ∀ (l : List Oper) (j : Nat), l[j]? = opAt l j
  | [], _ => rfl
  | _ :: _, 0 => rfl
  | _ :: r, j + 1 => by rw [List.getElem?_cons_succ]; exact opAt_eq r j
@[go_sem ↓] theorem opAt_zero (o : Oper) : opAt (o :: r) 0 = some o := rfl
@[go_sem ↓] theorem opAt_succ (o : Oper) (j : Nat) : opAt (o :: r) (j + 1) = opAt r j := rfl
def stepVD (C : Cx) (st : St) (d : Nat) (op : Op) : Option (Prop × V × St) :=
  match pureV C st op with
  | some (p, v) => some (p, v, st)
  | none => if effOp op then act C st d op else none
/-- An operation of a region that draws its order, then what follows. -/
def runD1 (C : Cx) (ops : Array Oper) (rc : List Nat) (l : List (Nat × List Nat)) (st : St) (K : St → Prop) : Option Oper → Prop
  | some o => match sstep C ops o st with
    | some (p, s) => p ∧ rechecks C ops rc s ∧ runD C ops l s K
    | none => False
  | none => False
@[go_sem ↓] theorem runD_nil : runD C ops [] st K = K st := rfl
@[go_sem ↓] theorem runD_cons (l : List Oper) (i : Nat) (rc : List Nat) (q : List (Nat × List Nat)) : runD C l.toArray ((i, rc) :: q) st K = runD1 C l.toArray rc q st K (opAt l i) := by
  rw [← opAt_eq]
  unfold runD runD1
  simp only [List.getElem?_toArray]
  cases l[i]? <;> rfl
theorem sstep_un : sstep C ops ⟨dd, op, ty, ps, af, none⟩ st = (stepVD C st (dd.getD 99999) op).map fun q => (q.1, putE q.2.2 dd q.2.1) := by
  unfold sstep stepVD pstep estep
  simp only [guardB, dOf, Option.isNone_none, Bool.and_true]
  cases pureV C st op with
  | some q => rfl
  | none =>
    simp only [Option.map_none]
    split <;> rfl
@[go_sem ↓] theorem runD1_un (q : List (Nat × List Nat)) : runD1 C ops [] q st K (some ⟨some d, op, ty, ps, af, none⟩) = (match stepVD C st d op with
    | some (p, v, s) => p ∧ runD C ops q ⟨upd s.env d v, s.os⟩ K
    | none => False) := by
  unfold runD1
  simp only [sstep_un, rechecks, true_and]
  show (match Option.map _ (stepVD C st d op) with | some (p, s) => p ∧ runD C ops q s K | none => False) = _
  cases stepVD C st d op <;> rfl
@[go_sem ↓] theorem runD1_un0 (q : List (Nat × List Nat)) : runD1 C ops [] q st K (some ⟨none, op, ty, ps, af, none⟩) = (match stepVD C st 99999 op with
    | some (p, v, s) => p ∧ runD C ops q s K
    | none => False) := by
  unfold runD1
  simp only [sstep_un, rechecks, true_and]
  show (match Option.map _ (stepVD C st 99999 op) with | some (p, s) => p ∧ runD C ops q s K | none => False) = _
  cases stepVD C st 99999 op <;> rfl
@[go_sem ↓] theorem runD1_rc (j : Nat) (rc : List Nat) (q : List (Nat × List Nat)) : runD1 C ops (j :: rc) q st K (some ⟨some d, op, ty, ps, af, none⟩) = (match stepVD C st d op with
    | some (p, v, s) => p ∧ rechecks C ops (j :: rc) ⟨upd s.env d v, s.os⟩ ∧ runD C ops q ⟨upd s.env d v, s.os⟩ K
    | none => False) := by
  unfold runD1
  simp only [sstep_un]
  show (match Option.map _ (stepVD C st d op) with | some (p, s) => p ∧ rechecks C ops (j :: rc) s ∧ runD C ops q s K | none => False) = _
  cases stepVD C st d op <;> rfl
@[go_sem ↓] theorem runD1_rc0 (j : Nat) (rc : List Nat) (q : List (Nat × List Nat)) : runD1 C ops (j :: rc) q st K (some ⟨none, op, ty, ps, af, none⟩) = (match stepVD C st 99999 op with
    | some (p, v, s) => p ∧ rechecks C ops (j :: rc) s ∧ runD C ops q s K
    | none => False) := by
  unfold runD1
  simp only [sstep_un]
  show (match Option.map _ (stepVD C st 99999 op) with | some (p, s) => p ∧ rechecks C ops (j :: rc) s ∧ runD C ops q s K | none => False) = _
  cases stepVD C st 99999 op <;> rfl
/-- Under a guard. -/
def runDG (C : Cx) (ops : Array Oper) (rc : List Nat) (l : List (Nat × List Nat)) (st : St) (K : St → Prop) (dd : Option Nat) (op : Op) : Option (Option Bool) → Prop
  | some (some b) => match pureG C st op with
    | some (p, v) => (b = true → p) ∧ rechecks C ops rc (putE st dd (.whn b v)) ∧ runD C ops l (putE st dd (.whn b v)) K
    | none => False
  | _ => False
@[go_sem ↓] theorem runD1_g (rc : List Nat) (q : List (Nat × List Nat)) (j : Nat) (want : Bool) : runD1 C ops rc q st K (some ⟨dd, op, ty, ps, af, some (j, want)⟩) = runDG C ops rc q st K dd op (guardB ops st.env ⟨dd, op, ty, ps, af, some (j, want)⟩) := by
  unfold runD1 sstep pstep estep runDG
  simp only [Option.isNone_some, Bool.and_false, Bool.false_eq_true, if_false]
  cases hg : guardB ops st.env ⟨dd, op, ty, ps, af, some (j, want)⟩ with
  | none => rfl
  | some g =>
    cases g with
    | none =>
      exfalso
      unfold guardB at hg
      simp only at hg
      split at hg
      · cases hg
      · split at hg <;> cases hg
    | some b => cases pureG C st op <;> rfl
@[go_sem ↓] theorem runDG_some (rc : List Nat) (q : List (Nat × List Nat)) (b : Bool) : runDG C ops rc q st K dd op (some (some b)) = (match pureG C st op with
    | some (p, v) => (b = true → p) ∧ rechecks C ops rc (putE st dd (.whn b v)) ∧ runD C ops q (putE st dd (.whn b v)) K
    | none => False) := rfl
def recheck1 (C : Cx) (ops : Array Oper) (s : St) : Option Oper → Prop
  | some x => recheck C ops x s
  | none => False
@[go_sem ↓] theorem rechecks_nil : rechecks C ops [] st = True := rfl
@[go_sem ↓] theorem rechecks_cons (l : List Oper) (j : Nat) (rc : List Nat) : rechecks C l.toArray (j :: rc) st = (recheck1 C l.toArray st (opAt l j) ∧ rechecks C l.toArray rc st) := by
  rw [← opAt_eq]
  unfold recheck1
  rw [rechecks]
  simp only [List.getElem?_toArray]
  cases l[j]? <;> rfl
@[go_sem ↓] theorem recheck1_un : recheck1 C ops st (some ⟨some d, op, ty, ps, af, none⟩) = (match pureV C st op with
    | some (p, v) => p ∧ v = st.env d
    | none => False) := by
  unfold recheck1 recheck pstep
  simp only [guardB]
  cases pureV C st op with
  | none => rfl
  | some q => simp only [Option.map_some, putE, upd_same]
def recheckG (C : Cx) (d : Nat) (op : Op) (st : St) : Option (Option Bool) → Prop
  | some (some b) => match pureG C st op with
    | some (p, v) => (b = true → p) ∧ V.whn b v = st.env d
    | none => False
  | _ => False
@[go_sem ↓] theorem recheck1_g (j : Nat) (want : Bool) : recheck1 C ops st (some ⟨some d, op, ty, ps, af, some (j, want)⟩) = recheckG C d op st (guardB ops st.env ⟨some d, op, ty, ps, af, some (j, want)⟩) := by
  unfold recheck1 recheck pstep recheckG
  simp only
  cases hg : guardB ops st.env ⟨some d, op, ty, ps, af, some (j, want)⟩ with
  | none => rfl
  | some g =>
    cases g with
    | none =>
      exfalso
      unfold guardB at hg
      simp only at hg
      split at hg
      · cases hg
      · split at hg <;> cases hg
    | some b =>
      cases pureG C st op with
      | none => rfl
      | some q => simp only [Option.map_some, putE, upd_same]
@[go_sem ↓] theorem recheckG_some (b : Bool) : recheckG C d op st (some (some b)) = (match pureG C st op with
    | some (p, v) => (b = true → p) ∧ V.whn b v = st.env d
    | none => False) := rfl
theorem stepVD_eq (h : ∀ t n q, op ≠ .buildSlice t n q) : stepVD C st d op = stepV C st d op := by
  unfold stepVD stepV
  cases hv : val C st op with
  | some q =>
    have : pureV C st op = some q := by unfold pureV; rw [hv]
    rw [this]
  | none =>
    cases op with
    | buildSlice t n q => exact (h _ _ _ rfl).elim
    | build t q =>
      have hp : pureV C st (.build t q) = actP C st (.build t q) := by unfold pureV; rw [hv]
      rw [hp]
      simp only [actP, act]
      cases buildV C (ev st.env) t q.toList <;> rfl
    | convert s t x =>
      have hp : pureV C st (.convert s t x) = actP C st (.convert s t x) := by unfold pureV; rw [hv]
      rw [hp]
      simp only [actP, act]
      cases ev st.env x <;> try rfl
      rename_i y
      cases y <;> try rfl
      simp only
      cases isU8 C t <;> cases C.T s <;> rfl
    | call c =>
      obtain ⟨callee, args, ats⟩ := c
      cases callee with
      | value fo =>
        have hp : pureV C st (.call ⟨.value fo, args, ats⟩) = pcall C st fo args.toList := by unfold pureV; rw [hv]
        rw [hp]
        simp only [effOp, if_true, act]
        unfold pcall
        cases (ev st.env fo :: args.toList.map (ev st.env)).all (ptrOk st.os) with
        | true =>
          simp only [if_true]
          unfold callV
          cases calleeV (ev st.env fo) with
          | none => rfl
          | some q =>
            obtain ⟨f, caps⟩ := q
            simp only
            cases hpu : (args.toList.map (ev st.env) ++ caps).all V.pure
            · simp only [Bool.false_eq_true, if_false]
              cases C.Γ f ((args.toList.map (ev st.env) ++ caps).map (asD st.os)) with
              | none => rfl
              | some q =>
                obtain ⟨p, r⟩ := q
                simp only
                cases r.scal <;> rfl
            · simp only [if_true]
              cases C.Γ f (args.toList.map (ev st.env) ++ caps) <;> rfl
        | false => rfl
      | invoke r m => unfold pureV; rw [hv]; rfl
      | builtin b => unfold pureV; rw [hv]; cases b <;> rfl
    | _ => unfold pureV; rw [hv]; rfl
@[go_sem ↓] theorem sd_move  : stepVD C st d (.move x) = stepV C st d (.move x) := stepVD_eq _ _ _ _ (fun _ _ _ h => by cases h)
@[go_sem ↓] theorem sd_assign  : stepVD C st d (.assign x) = stepV C st d (.assign x) := stepVD_eq _ _ _ _ (fun _ _ _ h => by cases h)
@[go_sem ↓] theorem sd_pick  : stepVD C st d (.pick x y z) = stepV C st d (.pick x y z) := stepVD_eq _ _ _ _ (fun _ _ _ h => by cases h)
@[go_sem ↓] theorem sd_bin (b : BinOp) : stepVD C st d (.binOp b t x y t') = stepV C st d (.binOp b t x y t') := stepVD_eq _ _ _ _ (fun _ _ _ h => by cases h)
@[go_sem ↓] theorem sd_un (u : UnOp) : stepVD C st d (.unOp u t x) = stepV C st d (.unOp u t x) := stepVD_eq _ _ _ _ (fun _ _ _ h => by cases h)
@[go_sem ↓] theorem sd_extract (i : Nat) : stepVD C st d (.extract x i) = stepV C st d (.extract x i) := stepVD_eq _ _ _ _ (fun _ _ _ h => by cases h)
@[go_sem ↓] theorem sd_nilCheck  : stepVD C st d (.nilCheck x) = stepV C st d (.nilCheck x) := stepVD_eq _ _ _ _ (fun _ _ _ h => by cases h)
@[go_sem ↓] theorem sd_fieldAddr (f : Nat) : stepVD C st d (.fieldAddr t x f) = stepV C st d (.fieldAddr t x f) := stepVD_eq _ _ _ _ (fun _ _ _ h => by cases h)
@[go_sem ↓] theorem sd_field (f : Nat) : stepVD C st d (.field t x f) = stepV C st d (.field t x f) := stepVD_eq _ _ _ _ (fun _ _ _ h => by cases h)
@[go_sem ↓] theorem sd_indexAddr  : stepVD C st d (.indexAddr t x y) = stepV C st d (.indexAddr t x y) := stepVD_eq _ _ _ _ (fun _ _ _ h => by cases h)
@[go_sem ↓] theorem sd_index  : stepVD C st d (.index t x y) = stepV C st d (.index t x y) := stepVD_eq _ _ _ _ (fun _ _ _ h => by cases h)
@[go_sem ↓] theorem sd_load  : stepVD C st d (.load t x) = stepV C st d (.load t x) := stepVD_eq _ _ _ _ (fun _ _ _ h => by cases h)
@[go_sem ↓] theorem sd_slice (lo hi mx : Option Operand) : stepVD C st d (.slice t x lo hi mx) = stepV C st d (.slice t x lo hi mx) := stepVD_eq _ _ _ _ (fun _ _ _ h => by cases h)
@[go_sem ↓] theorem sd_convert  : stepVD C st d (.convert t t' x) = stepV C st d (.convert t t' x) := stepVD_eq _ _ _ _ (fun _ _ _ h => by cases h)
@[go_sem ↓] theorem sd_makeFunc (f : Fn) (fs cs : Array Operand) : stepVD C st d (.makeFunc f fs cs) = stepV C st d (.makeFunc f fs cs) := stepVD_eq _ _ _ _ (fun _ _ _ h => by cases h)
@[go_sem ↓] theorem sd_alloc  : stepVD C st d (.alloc t) = stepV C st d (.alloc t) := stepVD_eq _ _ _ _ (fun _ _ _ h => by cases h)
@[go_sem ↓] theorem sd_box  : stepVD C st d (.box t x) = stepV C st d (.box t x) := stepVD_eq _ _ _ _ (fun _ _ _ h => by cases h)
@[go_sem ↓] theorem sd_store  : stepVD C st d (.store t x y) = stepV C st d (.store t x y) := stepVD_eq _ _ _ _ (fun _ _ _ h => by cases h)
@[go_sem ↓] theorem sd_build (parts : Array (Nat × Operand)) : stepVD C st d (.build t parts) = stepV C st d (.build t parts) := stepVD_eq _ _ _ _ (fun _ _ _ h => by cases h)
@[go_sem ↓] theorem sd_makeSlice  : stepVD C st d (.makeSlice t x y) = stepV C st d (.makeSlice t x y) := stepVD_eq _ _ _ _ (fun _ _ _ h => by cases h)
@[go_sem ↓] theorem sd_call (cl : Call) : stepVD C st d (.call cl) = stepV C st d (.call cl) := stepVD_eq _ _ _ _ (fun _ _ _ h => by cases h)
@[go_sem ↓] theorem sd_buildSlice (m : Nat) (parts : Array (Nat × Operand)) : stepVD C st d (.buildSlice t m parts) = if (rowsOf (parts.toList.map fun p => ev st.env p.2)).isEmpty && m != 0 then litV C st 99999 t m parts.toList else none := by
  unfold stepVD
  have hv : val C st (.buildSlice t m parts) = none := rfl
  have hp : pureV C st (.buildSlice t m parts) = actP C st (.buildSlice t m parts) := rfl
  rw [hp]
  cases ha : actP C st (.buildSlice t m parts) with
  | some q =>
    obtain ⟨p, v⟩ := q
    have := actP_act ha hv
    simp only [actP] at ha
    split at ha
    · rename_i hc
      rw [if_pos hc]
      simp only [act] at this
      rw [this]
    · cases ha
  | none =>
    simp only [effOp, Bool.false_eq_true, if_false]
    simp only [actP, act] at ha
    split
    · rename_i hc
      rw [if_pos hc] at ha
      rw [Option.map_eq_none_iff] at ha
      rw [ha]
    · rfl
@[go_sem ↓] theorem rows_nil : rowsOf [] = [] := rfl
@[go_sem ↓] theorem rows_row (o : Nat) (l : List V) : rowsOf (.row o :: l) = o :: rowsOf l := rfl
@[go_sem ↓] theorem rows_agg (cs l : List V) : rowsOf (.agg cs :: l) = rows1 cs ++ rowsOf l := rfl
@[go_sem ↓] theorem rows_d (y : D) (l : List V) : rowsOf (.d y :: l) = rowsOf l := rfl
@[go_sem ↓] theorem rows_vnil (l : List V) : rowsOf (.nil :: l) = rowsOf l := rfl
@[go_sem ↓] theorem rows_ptr (o c : Nat) (l : List V) : rowsOf (.ptr o c :: l) = rowsOf l := rfl
@[go_sem ↓] theorem rows_dptr (cs : List D) (l : List V) : rowsOf (.dptr cs :: l) = rowsOf l := rfl
@[go_sem ↓] theorem rows_fnc (f : FuncId) (cs l : List V) : rowsOf (.fnc f cs :: l) = rowsOf l := rfl
@[go_sem ↓] theorem pk_d (y : D) : ptrOk os (.d y) = true := rfl
@[go_sem ↓] theorem pk_nil : ptrOk os .nil = true := rfl
@[go_sem ↓] theorem pk_row (o : Nat) : ptrOk os (.row o) = true := rfl
@[go_sem ↓] theorem pk_rptr (o m i j : Nat) : ptrOk os (.rptr o m i j) = true := rfl
@[go_sem ↓] theorem pk_dptr (cs : List D) : ptrOk os (.dptr cs) = true := rfl
@[go_sem ↓] theorem pk_ptr (o c : Nat) : ptrOk os (.ptr o c) = (os o).isSome := rfl
@[go_sem ↓] theorem pk_top : ptrOk os .top = true := rfl
@[go_sem ↓] theorem pk_agg (cs : List V) : ptrOk os (.agg cs) = cs.all (ptrOk1 os) := rfl
@[go_sem ↓] theorem pk_fnc (f : FuncId) (cs : List V) : ptrOk os (.fnc f cs) = cs.all (ptrOk2 os) := rfl
@[go_sem ↓] theorem pk2_d (y : D) : ptrOk2 os (.d y) = true := rfl
@[go_sem ↓] theorem pk2_nil : ptrOk2 os .nil = true := rfl
@[go_sem ↓] theorem pk2_row (o : Nat) : ptrOk2 os (.row o) = true := rfl
@[go_sem ↓] theorem pk2_dptr (cs : List D) : ptrOk2 os (.dptr cs) = true := rfl
@[go_sem ↓] theorem pk2_ptr (o c : Nat) : ptrOk2 os (.ptr o c) = (os o).isSome := rfl
@[go_sem ↓] theorem pk2_top : ptrOk2 os .top = true := rfl
@[go_sem ↓] theorem pk2_agg (cs : List V) : ptrOk2 os (.agg cs) = cs.all (ptrOk1 os) := rfl
@[go_sem ↓] theorem pk2_fnc (f : FuncId) (cs : List V) : ptrOk2 os (.fnc f cs) = cs.all (ptrOk1 os) := rfl
@[go_sem ↓] theorem pk1_d (y : D) : ptrOk1 os (.d y) = true := rfl
@[go_sem ↓] theorem pk1_nil : ptrOk1 os .nil = true := rfl
@[go_sem ↓] theorem pk1_row (o : Nat) : ptrOk1 os (.row o) = true := rfl
@[go_sem ↓] theorem pk1_dptr (cs : List D) : ptrOk1 os (.dptr cs) = true := rfl
@[go_sem ↓] theorem pk1_ptr (o c : Nat) : ptrOk1 os (.ptr o c) = (os o).isSome := rfl
@[go_sem ↓] theorem pk1_top : ptrOk1 os .top = true := rfl
@[go_sem ↓] theorem run_skip : run C .skip st Q = Q .normal st := rfl
@[go_sem ↓] theorem run_label (l : Nat) : run C (.label l) st Q = Q .normal st := rfl
@[go_sem ↓] theorem run_block (id : Nat) (c : Code) : run C (.block id c) st Q = run C c st (blockQ id Q) := rfl
@[go_sem ↓] theorem run_exit (id : Nat) : run C (.exit id) st Q = Q (.exit id) st := rfl
@[go_sem ↓] theorem run_ret : run C .ret st Q = Q .ret st := rfl
@[go_sem ↓] theorem run_cond (a b : Code) : run C (.cond x a b) st Q = (match ev st.env x with
    | .d (.bool c) => (c = true → run C a st Q) ∧ (c = false → run C b st Q)
    | _ => False) := rfl
@[go_sem ↓] theorem thenQ_normal (K : St → Prop) : thenQ K Q .normal st = K st := rfl
@[go_sem ↓] theorem thenQ_ret (K : St → Prop) : thenQ K Q .ret st = Q .ret st := rfl
@[go_sem ↓] theorem thenQ_exit (K : St → Prop) (id : Nat) : thenQ K Q (.exit id) st = Q (.exit id) st := rfl
@[go_sem ↓] theorem blockQ_normal (id : Nat) : blockQ id Q .normal st = Q .normal st := rfl
@[go_sem ↓] theorem blockQ_ret (id : Nat) : blockQ id Q .ret st = Q .ret st := rfl
@[go_sem ↓] theorem blockQ_exit (id id' : Nat) : blockQ id Q (.exit id') st = if id' = id then Q .normal st else Q (.exit id') st := rfl
end
end Go.Proofs.YtgnnakibcjonbaaGreatDoor.VE

/- The evaluator: loops by their states, calls by their contracts, elements of typed rows. -/
namespace Go.Proofs.YtgnnakibcjonbaaGreatDoor.VE
open Go Go.RowKit
set_option linter.unusedVariables false
set_option linter.unusedSimpArgs false
/-- Variables by a list; all others are unknown. -/
def envL : List (Nat × V) → Nat → V
  | [], _ => .top
  | p :: r, t => if t = p.1 then p.2 else envL r t
@[go_sem ↓] theorem envL_nil (t : Nat) : envL [] t = .top := rfl
@[go_sem ↓] theorem envL_cons (s : Nat) (v : V) (r : List (Nat × V)) (t : Nat) : envL ((s, v) :: r) t = if t = s then v else envL r t := rfl
/-- The variables have the listed values. -/
def AtL (env : Nat → V) : List (Nat × V) → Prop
  | [] => True
  | p :: r => env p.1 = p.2 ∧ AtL env r
@[go_sem ↓] theorem AtL_nil (env : Nat → V) : AtL env [] = True := rfl
@[go_sem ↓] theorem AtL_cons (env : Nat → V) (s : Nat) (v : V) (r : List (Nat × V)) : AtL env ((s, v) :: r) = (env s = v ∧ AtL env r) := rfl
theorem envL_of {env : Nat → V} : ∀ {l : List (Nat × V)}, AtL env l → ∀ t, envL l t = env t ∨ envL l t = .top
  | [], _, t => .inr rfl
  | p :: r, h, t => by
    unfold envL
    split
    · rename_i e; subst e; exact .inl h.1.symm
    · exact envL_of h.2 t
theorem Le_envL {st : St} {l : List (Nat × V)} (h : AtL st.env l) : Le st ⟨envL l, st.os⟩ := fun N w0 Pr X Z ρ a w hg => by
  refine ⟨ρ, hg.defers, hg.size, fun t => ?_, hg.obj, hg.inj, hg.one, hg.keep, hg.prot, hg.low, hg.grow, hg.os', hg.tape, hg.output, hg.hX, hg.xo, hg.fix, hg.gp⟩
  rcases envL_of h t with e | e
  · show G _ _ _ _ (envL l t) _
    rw [e]; exact hg.env t
  · show G _ _ _ _ (envL l t) _
    rw [e, G]; trivial
/-- What a round must come to. -/
def roundQ {α : Type} (os : Nat → Option O) (l : α → List (Nat × V)) (R : α → Prop) (M : α → Nat) (x : α) (Q : Exit → St → Prop) : Exit → St → Prop
  | .normal, s => ∃ y, R y ∧ M y < M x ∧ AtL s.env (l y) ∧ s.os = os
  | e, s => Q e s
section
variable {α : Type} (os : Nat → Option O) (l : α → List (Nat × V)) (R : α → Prop) (M : α → Nat) (x : α) (Q : Exit → St → Prop) (s : St)
@[go_sem ↓] theorem roundQ_normal : roundQ os l R M x Q .normal s = ∃ y, R y ∧ M y < M x ∧ AtL s.env (l y) ∧ s.os = os := rfl
@[go_sem ↓] theorem roundQ_ret : roundQ os l R M x Q .ret s = Q .ret s := rfl
@[go_sem ↓] theorem roundQ_exit (id : Nat) : roundQ os l R M x Q (.exit id) s = Q (.exit id) s := rfl
end
theorem loop_intro {C : Cx} {c : Code} {env : Nat → V} {os : Nat → Option O} {Q : Exit → St → Prop} {α : Type} (l : α → List (Nat × V)) (R : α → Prop) (M : α → Nat) (x0 : α) (hR : R x0) (h0 : AtL env (l x0))
    (h : ∀ x, R x → run C c ⟨envL (l x), os⟩ (roundQ os l R M x Q)) : run C (.loop c) ⟨env, os⟩ Q := by
  refine ⟨α, fun x => ⟨envL (l x), os⟩, R, M, x0, hR, Le_envL h0, fun x hx => ?_⟩
  have e : (fun e s => match e with
      | .normal => ∃ y, R y ∧ M y < M x ∧ Le s ⟨envL (l y), os⟩
      | e => Q e s) = (fun (e : Exit) (s : St) => match e with
      | .normal => ∃ y, R y ∧ M y < M x ∧ Le s ⟨envL (l y), os⟩
      | e => Q e s) := rfl
  have mono : ∀ e s, roundQ os l R M x Q e s → (match e with
      | .normal => ∃ y, R y ∧ M y < M x ∧ Le s ⟨envL (l y), os⟩
      | e => Q e s : Prop) := fun e s hq => by
    cases e with
    | normal =>
      obtain ⟨y, h1, h2, h3, h4⟩ := hq
      exact ⟨y, h1, h2, by rw [← h4]; exact Le_envL h3⟩
    | _ => exact hq
  exact run_mono _ _ _ _ mono (h x hx)
attribute [go_sem] rows1 isAlloc Option.isSome_some Option.isSome_none Ret resV resVs resV1 Fits Fits1 Fits2 FitsL lenV loadV fieldV sliceV bndV indexV partV minV initS
attribute [go_sem ↓] List.getD_cons_zero List.getD_cons_succ true_and implies_true
attribute [go_sem] true_implies and_true imp_self and_self or_true Option.map_some Option.map_none Option.bind_some
/-- Contracts by a list. -/
structure Ent (P : Program) where
  f : FuncId
  c : List V → Option (Prop × V)
  ok : ∀ args p r, c args = some (p, r) → AnyOk P f args p r
def Ent.of {P : Program} (f : FuncId) (fn : FnOk P f) (c : List V → Option (Prop × V)) (ok : ∀ args p r, c args = some (p, r) → PureOk P f args p r) : Ent P := ⟨f, c, fun args p r h => .inl ⟨fn, ok args p r h⟩⟩
def gam {P : Program} : List (Ent P) → FuncId → List V → Option (Prop × V)
  | [], _, _ => none
  | e :: l, f, args => if f = e.f then e.c args else gam l f args
theorem gam_ok {P : Program} : ∀ (l : List (Ent P)), GOk P (gam l)
  | [], f, args, p, r, h => by simp [gam] at h
  | e :: l, f, args, p, r, h => by
    unfold gam at h
    split at h
    · rename_i c; subst c; exact e.ok args p r h
    · exact gam_ok l f args p r h
@[go_sem ↓] theorem gam_cons {P : Program} (e : Ent P) (l : List (Ent P)) (f : FuncId) (args : List V) : gam (e :: l) f args = if f = e.f then e.c args else gam l f args := rfl
@[go_sem ↓] theorem gam_nil {P : Program} (f : FuncId) (args : List V) : gam (P := P) [] f args = none := rfl
section
variable (C : Cx) (st : St) (env : Nat → V) (os : Nat → Option O) (fo : Operand) (xs : List Operand) (x : Operand) (f : FuncId) (args caps : List V)
def callB (C : Cx) (st : St) (fo : Operand) (xs : List Operand) (f : FuncId) (args : List V) : Bool → Option (Prop × V × St)
  | true => keepS st (C.Γ f args)
  | false => match C.Γ f (args.map (asD st.os)) with
      | some (p, r) =>
        if r.scal then some (p, r, st)
        else match calleeV (ev (frzAll st (rowsOf (xs.map (ev st.env)))).env fo) with
          | some (f', caps') => if ((xs.map (ev (frzAll st (rowsOf (xs.map (ev st.env)))).env)) ++ caps').all V.pure then (C.Γ f' ((xs.map (ev (frzAll st (rowsOf (xs.map (ev st.env)))).env)) ++ caps')).map fun q => (q.1, q.2, frzAll st (rowsOf (xs.map (ev st.env)))) else none
          | none => none
      | none => none
def callA (C : Cx) (st : St) (fo : Operand) (xs : List Operand) : Option (FuncId × List V) → Option (Prop × V × St)
  | some (f, caps) => callB C st fo xs f (xs.map (ev st.env) ++ caps) ((xs.map (ev st.env) ++ caps).all V.pure)
  | none => none
@[go_sem ↓] theorem callV_eq : callV C st fo xs = callA C st fo xs (calleeV (ev st.env fo)) := by
  unfold callV callA
  cases calleeV (ev st.env fo) with
  | none => rfl
  | some q =>
    obtain ⟨f, caps⟩ := q
    simp only [callB]
    cases h : (List.map (ev st.env) xs ++ caps).all V.pure
    · simp only [Bool.false_eq_true, if_false]
      rfl
    · simp only [if_true, keepS]
      cases C.Γ f (List.map (ev st.env) xs ++ caps) <;> rfl
@[go_sem ↓] theorem callA_some : callA C st fo xs (some (f, caps)) = callB C st fo xs f (xs.map (ev st.env) ++ caps) ((xs.map (ev st.env) ++ caps).all V.pure) := rfl
@[go_sem ↓] theorem callB_true : callB C st fo xs f args true = keepS st (C.Γ f args) := rfl
@[go_sem ↓] theorem callB_false : callB C st fo xs f args false = (match C.Γ f (args.map (asD st.os)) with
      | some (p, r) =>
        if r.scal then some (p, r, st)
        else match calleeV (ev (frzAll st (rowsOf (xs.map (ev st.env)))).env fo) with
          | some (f', caps') => if ((xs.map (ev (frzAll st (rowsOf (xs.map (ev st.env)))).env)) ++ caps').all V.pure then (C.Γ f' ((xs.map (ev (frzAll st (rowsOf (xs.map (ev st.env)))).env)) ++ caps')).map fun q => (q.1, q.2, frzAll st (rowsOf (xs.map (ev st.env)))) else none
          | none => none
      | none => none) := rfl
@[go_sem ↓] theorem calleeV_fn : calleeV (.d (.fn f)) = some (f, []) := rfl
@[go_sem ↓] theorem calleeV_fnc : calleeV (.fnc f caps) = some (f, caps) := rfl
@[go_sem ↓] theorem pure_d (x : D) : V.pure (.d x) = true := rfl
@[go_sem ↓] theorem pure_nil : V.pure .nil = true := rfl
@[go_sem ↓] theorem pure_dptr (cs : List D) : V.pure (.dptr cs) = true := rfl
@[go_sem ↓] theorem pure_ptr (o c : Nat) : V.pure (.ptr o c) = false := rfl
@[go_sem ↓] theorem pure_row (o : Nat) : V.pure (.row o) = false := rfl
@[go_sem ↓] theorem pure_agg (cs : List V) : V.pure (.agg cs) = cs.all V.pure1 := rfl
@[go_sem ↓] theorem pure_fnc (cs : List V) : V.pure (.fnc f cs) = cs.all V.pure1 := rfl
@[go_sem ↓] theorem pure1_d (x : D) : V.pure1 (.d x) = true := rfl
@[go_sem ↓] theorem pure1_nil : V.pure1 .nil = true := rfl
@[go_sem ↓] theorem pure1_dptr (cs : List D) : V.pure1 (.dptr cs) = true := rfl
@[go_sem ↓] theorem pure1_ptr (o c : Nat) : V.pure1 (.ptr o c) = false := rfl
@[go_sem ↓] theorem pure1_row (o : Nat) : V.pure1 (.row o) = false := rfl
@[go_sem] theorem all_pure1 (ds : List D) : (ds.map V.d).all V.pure1 = true := by
  rw [List.all_eq_true]
  intro x hx
  obtain ⟨d, _, rfl⟩ := List.mem_map.1 hx
  rfl
attribute [go_sem ↓] List.map_cons List.map_nil List.all_cons List.all_nil List.cons_append List.nil_append Bool.and_true Bool.true_and Bool.and_false Bool.false_and
@[go_sem ↓] theorem pcall_eq : pcall C st fo xs = if (ev st.env fo :: xs.map (ev st.env)).all (ptrOk st.os) then (match calleeV (ev st.env fo) with
    | some (f, caps) => match (xs.map (ev st.env) ++ caps).all V.pure with
      | true => C.Γ f (xs.map (ev st.env) ++ caps)
      | false => match C.Γ f ((xs.map (ev st.env) ++ caps).map (asD st.os)) with
        | some (p, r) => if r.scal then some (p, r) else none
        | none => none
    | none => none) else none := by
  unfold pcall
  split
  · cases calleeV (ev st.env fo) with
    | none => rfl
    | some q =>
      simp only
      cases (xs.map (ev st.env) ++ q.2).all V.pure
      · simp only [Bool.false_eq_true, if_false]
        rfl
      · simp only [if_true]
  · rfl
end
section
variable (a b c d e f g h i j : V) (r : List V)
@[go_sem ↓] theorem take0 (x : V) : takeV false 1 (x :: r) = some x := rfl
@[go_sem ↓] theorem take1 : takeV true 1 (a :: r) = some (.agg [a]) := by simp [takeV]
@[go_sem ↓] theorem take2 : takeV true 2 (a :: b :: r) = some (.agg [a, b]) := by simp [takeV]
@[go_sem ↓] theorem take3 : takeV true 3 (a :: b :: c :: r) = some (.agg [a, b, c]) := by simp [takeV]
@[go_sem ↓] theorem take4 : takeV true 4 (a :: b :: c :: d :: r) = some (.agg [a, b, c, d]) := by simp [takeV]
@[go_sem ↓] theorem take5 : takeV true 5 (a :: b :: c :: d :: e :: r) = some (.agg [a, b, c, d, e]) := by simp [takeV]
@[go_sem ↓] theorem take6 : takeV true 6 (a :: b :: c :: d :: e :: f :: r) = some (.agg [a, b, c, d, e, f]) := by simp [takeV]
@[go_sem ↓] theorem take7 : takeV true 7 (a :: b :: c :: d :: e :: f :: g :: r) = some (.agg [a, b, c, d, e, f, g]) := by simp [takeV]
@[go_sem ↓] theorem take8 : takeV true 8 (a :: b :: c :: d :: e :: f :: g :: h :: r) = some (.agg [a, b, c, d, e, f, g, h]) := by simp [takeV]
@[go_sem ↓] theorem take9 : takeV true 9 (a :: b :: c :: d :: e :: f :: g :: h :: i :: r) = some (.agg [a, b, c, d, e, f, g, h, i]) := by simp [takeV]
end
/-- A load of all of a row, whatever it is. -/
theorem take_all (ds : List D) (n : Nat) (h : ds.length = n) : takeV true n (ds.map .d) = some (.agg (ds.map .d)) := by
  subst h
  have : (ds.map V.d).take ds.length = ds.map V.d := List.take_of_length_le (by simp)
  simp [takeV, this]
/-- An element's address, then what follows. -/
def idxP (C : Cx) (os : Nat → Option O) (t : TypeId) (x i : V) (k : V → Prop) : Prop :=
  match idxV C os t x i with
  | some (p, v) => p ∧ k v
  | none => False
@[congr] theorem idxP_congr {C : Cx} {os : Nat → Option O} {t : TypeId} {x x' i i' : V} {k : V → Prop} (h1 : x = x') (h2 : i = i') : idxP C os t x i k = idxP C os t x' i' k := by rw [h1, h2]
@[go_sem ↓ high] theorem eq_indexAddr (C : Cx) (ops : Array Oper) (r : List Oper) (K : St → Prop) (st : St) (d : Nat) (ty t : TypeId) (ps : String) (af : Array Edge) (x y : Operand) :
    runOps C ops (⟨some d, .indexAddr t x y, ty, ps, af, none⟩ :: r) st K = idxP C st.os t (ev st.env x) (ev st.env y) fun v => runOps C ops r ⟨upd st.env d v, st.os⟩ K := by
  rw [eq_cons, show globQ C st.env (.indexAddr t x y) = none from rfl, globK_none, show nilQ C st (.indexAddr t x y) = none from rfl, nilK_none, st_indexAddr]
  unfold idxP
  cases idxV C st.os t (ev st.env x) (ev st.env y) <;> rfl
/-- The element type of a slice type, and its size. -/
def elemOk (C : Cx) (t : TypeId) (m : Nat) : Bool :=
  match C.T t with
  | some ti => match ti.kind with
    | .slice e => match C.T e with
      | some te => te.size == m
      | none => false
    | _ => false
  | none => false
@[go_sem ↓] theorem elemOk_eq (T : TypeId → Option TI) (Γ : FuncId → List V → Option (Prop × V)) (n : FuncId → List V → List O → Option (Prop × V × List O)) (pl : Nat → List (Nat × List Nat)) (gm : Gl) (t : TypeId) (m : Nat) : elemOk ⟨T, Γ, n, pl, gm⟩ t m = (match T t with
  | some ti => match ti.kind with
    | .slice e => match T e with
      | some te => te.size == m
      | none => false
    | _ => false
  | none => false) := rfl
attribute [go_sem] BEq.rfl List.length_map
@[go_sem ↓] theorem idxP_map {α : Type} (C : Cx) (os : Nat → Option O) (t : TypeId) (m : Nat) (enc : α → List D) (xs : List α) (k : IntKind) (n : Int) (K : V → Prop) :
    idxP C os t (.d (.sl m (xs.map enc))) (.d (.int k n)) K = (elemOk C t m = true ∧ (0 ≤ n ∧ n < xs.length) ∧ ∀ a, xs[n.toNat]? = some a → K (.dptr (enc a))) := by
  unfold idxP idxV elemOk
  cases h1 : C.T t with
  | none => simp
  | some ti =>
    simp only
    cases h2 : ti.kind <;> simp only [Bool.false_eq_true, false_and]
    · rename_i e
      cases h3 : C.T e with
      | none => simp
      | some te =>
        simp only [beq_iff_eq]
        by_cases c : te.size = m
        · simp only [if_pos c, c, true_and, List.length_map]
          refine propext ⟨fun ⟨h1, h2⟩ => ⟨h1, fun a ha => ?_⟩, fun ⟨h1, h2⟩ => ⟨h1, ?_⟩⟩
          · have e : (List.map enc xs).getD n.toNat [] = enc a := by simp [List.getD_eq_getElem?_getD, ha]
            rwa [e] at h2
          · have hlt : n.toNat < xs.length := by omega
            have := h2 xs[n.toNat] (List.getElem?_eq_getElem hlt)
            have e : (List.map enc xs).getD n.toNat [] = enc xs[n.toNat] := by simp [List.getD_eq_getElem?_getD, hlt]
            rwa [e]
        · simp [if_neg c, c]
    · rename_i len e
      cases C.T e <;> simp
end Go.Proofs.YtgnnakibcjonbaaGreatDoor.VE

/- The evaluator: contracts of functions that change what they are handed, and of functions that return a new row. -/
namespace Go.Proofs.YtgnnakibcjonbaaGreatDoor.VE
open Go Go.RowKit
set_option linter.unusedVariables false
set_option linter.unusedSimpArgs false
def initE (args : List V) (fp : List O) : St := ⟨fun t => args.getD t .top, fos fp⟩
/-- A cell's value fits what a contract says: data may be a row of the function's own. -/
def FitC (n : Nat) (os : Nat → Option O) : V → V → Prop
  | .nil, .d (.sl _ rows) => rows = []
  | .nil, .nil => True
  | .row o, .d (.sl m rows) => o < 100000 ∧ match os o with
    | some (.row rows' m' _) => rows' = rows ∧ (m' = m ∨ rows = [])
    | _ => False
  | .row o, .row o' => (100000 ≤ o ∧ o < 100000 + n) ∧ o = o'
  | .d x, .d y => x = y
  | .dptr x, .dptr y => x = y
  | _, .top => True
  | _, _ => False
def FitR (n : Nat) (os : Nat → Option O) : V → V → Prop
  | .agg xs, .agg ys => FitsL (FitC n os) xs ys
  | x, y => FitC n os x y
def FitT (n : Nat) (os : Nat → Option O) : V → V → Prop
  | .tup xs, .tup ys => FitsL (FitR n os) xs ys
  | x, y => FitR n os x y
def FitO (n : Nat) (os : Nat → Option O) : Option O → O → Prop
  | some (.box cs e), .box cs' e' => FitsL (FitC n os) cs cs' ∧ e = e'
  | some (.row rows m e), .row rows' m' e' => rows = rows' ∧ m = m' ∧ e = e'
  | some (.arr rows m e), .arr rows' m' e' => rows = rows' ∧ m = m' ∧ e = e'
  | some (.raw K), .raw K' => K = K'
  | _, _ => False
def FitOs (n : Nat) (os : Nat → Option O) : Nat → List O → Prop
  | _, [] => True
  | k, x :: r => FitO n os (os k) x ∧ FitOs n os (k + 1) r
theorem FitOs_get {n : Nat} {os : Nat → Option O} : ∀ {l : List O} {k : Nat}, FitOs n os k l → ∀ (j : Nat) (x : O), l[j]? = some x → FitO n os (os (k + j)) x
  | [], _, _, j, x, h => by simp at h
  | y :: r, k, h, 0, x, hx => by
    simp only [List.getElem?_cons_zero, Option.some.injEq] at hx
    subst hx
    exact h.1
  | y :: r, k, h, j + 1, x, hx => by
    rw [List.getElem?_cons_succ] at hx
    have := FitOs_get h.2 j x hx
    rwa [show k + 1 + j = k + (j + 1) by omega] at this
section
variable {P : Program} {N n : Nat} {w0 : World} {Pr X : Nat → Prop} {Z : Nat → Option Value}
theorem FitC_G {ρ : Nat → Value} {st : St} {a : Act} {w : World} (hg : Gam N w0 Pr X Z ρ st a w) {B : Nat → Prop} {ρ' : Nat → Value} {L' : Nat → Prop}
    (hB : ∀ b, Bk X st.os ρ w b → B b) (hR : ∀ o b, o < 100000 → st.os o ≠ none → blockOf (ρ o) = some b → B b) (hL : ∀ o, 100000 ≤ o → o < 100000 + n → L' o ∧ ρ' o = ρ o) {x y : V} (hf : FitC n st.os x y) {v : Value} (h : G (Bk X st.os ρ w) w ρ (Lv st.os) x v) : G B w ρ' L' y v := by
  unfold FitC at hf
  split at hf
  · subst hf
    rw [G] at h
    subst h
    rw [G, Rd]
    exact ⟨none, 0, rfl, Nat.le_refl _, Nat.zero_le _, fun _ => rfl, fun i h => by simp at h, fun h => absurd rfl h⟩
  · rw [G] at h ⊢; exact h
  · rename_i o m rows
    obtain ⟨hlow, hf⟩ := hf
    split at hf
    · rename_i rows' m' e ho
      obtain ⟨rfl, hm⟩ := hf
      rw [G] at h
      rw [G, h.2]
      have := row_Rd (B := Bk X st.os ρ w) (B' := B) (hg.obj o _ ho) hB (fun b hb => hR o b hlow (by rw [ho]; simp) hb)
      rcases hm with rfl | rfl
      · exact this
      · rw [Rd] at this ⊢
        obtain ⟨A, c, e1, e2, e3, e4, _, _⟩ := this
        exact ⟨A, c, e1, e2, e3, e4, fun i h => by simp at h, fun h => absurd rfl h⟩
    · exact hf.elim
  · obtain ⟨h1, rfl⟩ := hf
    rw [G] at h ⊢
    obtain ⟨h2, h3⟩ := hL _ h1.1 h1.2
    exact ⟨h2, by rw [h3]; exact h.2⟩
  · subst hf
    rw [G] at h ⊢
    exact h.mono hB (fun _ _ => rfl)
  · subst hf
    exact (h.mono hB (fun _ _ => rfl) (fun _ h => h) (fun _ _ => rfl)).pure1' rfl
  · rw [G]; trivial
  · exact hf.elim
theorem FitR_G {ρ : Nat → Value} {st : St} {a : Act} {w : World} (hg : Gam N w0 Pr X Z ρ st a w) {B : Nat → Prop} {ρ' : Nat → Value} {L' : Nat → Prop}
    (hB : ∀ b, Bk X st.os ρ w b → B b) (hR : ∀ o b, o < 100000 → st.os o ≠ none → blockOf (ρ o) = some b → B b) (hL : ∀ o, 100000 ≤ o → o < 100000 + n → L' o ∧ ρ' o = ρ o) {x y : V} (hf : FitR n st.os x y) {v : Value} (h : G (Bk X st.os ρ w) w ρ (Lv st.os) x v) : G B w ρ' L' y v := by
  unfold FitR at hf
  split at hf
  · obtain ⟨e1, e2⟩ := FitsL_get hf
    rw [G] at h ⊢
    obtain ⟨vs, rfl, hl, hv⟩ := h
    exact ⟨vs, rfl, by omega, fun i h1 h2 => FitC_G hg hB hR hL (e2 i (by omega) h1) (hv i (by omega) h2)⟩
  · exact FitC_G hg hB hR hL hf h
theorem FitT_G {ρ : Nat → Value} {st : St} {a : Act} {w : World} (hg : Gam N w0 Pr X Z ρ st a w) {B : Nat → Prop} {ρ' : Nat → Value} {L' : Nat → Prop}
    (hB : ∀ b, Bk X st.os ρ w b → B b) (hR : ∀ o b, o < 100000 → st.os o ≠ none → blockOf (ρ o) = some b → B b) (hL : ∀ o, 100000 ≤ o → o < 100000 + n → L' o ∧ ρ' o = ρ o) {x y : V} (hf : FitT n st.os x y) {v : Value} (h : G (Bk X st.os ρ w) w ρ (Lv st.os) x v) : G B w ρ' L' y v := by
  unfold FitT at hf
  split at hf
  · obtain ⟨e1, e2⟩ := FitsL_get hf
    rw [G] at h ⊢
    obtain ⟨vs, rfl, hl, hv⟩ := h
    exact ⟨vs, rfl, by omega, fun i h1 h2 => FitR_G hg hB hR hL (e2 i (by omega) h1) (hv i (by omega) h2)⟩
  · exact FitR_G hg hB hR hL hf h
end
/-- What a function with effects must come to. -/
def RetE (C : Cx) (rs : List ResultVar) (r : V) (fp' : List O) : Exit → St → Prop := fun e st => (e = .normal ∨ e = .ret) ∧ FitOs fp'.length st.os 100000 fp' ∧ match resV C st rs with
  | some (p, x) => p ∧ FitT fp'.length st.os x r
  | none => False
theorem eff_fn {P : Program} {C : Int → Cx} (hT : ∀ m, TOK P (C m).T) (hΓ : ∀ m, COk P (C m)) (hcg : ∀ m, (C m).gm.m = m) (hm : P.follows .mixedOrders = true) {f : FuncId} {fn : Func} {code : Code} (hf : P.funcs[f]? = some fn) (hb : fn.body = some code) {args : List V} {fp : List O} {p : Prop} {r : V} {fp' : List O}
    (hn : args.length ≤ fn.ntmps) (hlen : fp'.length = fp.length) (hkinds : fp'.map O.isRow = fp.map O.isRow) (hok : ∀ m, codeOk (C m).pl fn.ntmps code = true)
    (h : ∀ m, p → run (C m) code (initE args fp) (RetE (C m) fn.results.toList r fp')) : EffOk P f args fp p r fp' := by
  have kind : ∀ (k : Nat) (x y : O), fp'[k]? = some x → fp[k]? = some y → x.isRow = y.isRow := fun k x y hx hy => by
    have : (fp'.map O.isRow)[k]? = (fp.map O.isRow)[k]? := by rw [hkinds]
    simp only [List.getElem?_map, hx, hy, Option.map_some, Option.some.injEq] at this
    exact this
  refine ⟨by omega, fun k x hk => ?_, ?_⟩
  · have hlt := (List.getElem?_eq_some_iff.1 hk).1
    have he : fp[k]? = some (fp[k]'(by omega)) := List.getElem?_eq_getElem _
    rw [he]
    exact kind k _ _ hk he
  intro w B ρ vs hB ⟨⟨gm, hgm⟩, hgf⟩ hone hobj hinj ha hp
  refine calls_of_wp hf hb ?_
  have hvl : vs.length = args.length := ha.1
  have hg : Gam fn.ntmps w (fun b => b < w.heap.size ∧ ∀ o, fos fp o ≠ none → blockOf (ρ o) ≠ some b) (fun b => B b ∨ w.heap.size ≤ b ∨ ∃ o, fos fp o ≠ none ∧ blockOf (ρ o) = some b)
      (fun o => match fos fp o with | some x => if x.isRow then none else some (ρ o) | none => none) ρ (initE args fp) { tmps := vs.toArray ++ Array.replicate (fn.ntmps - vs.toArray.size) undef, defers := [] } w := by
    have hbk : ∀ b, B b → Bk (fun b => B b ∨ w.heap.size ≤ b ∨ ∃ o, fos fp o ≠ none ∧ blockOf (ρ o) = some b) (initE args fp).os ρ w b := fun b hb => ⟨⟨(hB b hb).1, .inl hb⟩, (hB b hb).2⟩
    refine ⟨rfl, by simp; omega, fun t => ?_, fun o x h => (hobj o x h).mono hbk (fun _ _ => rfl) (fun _ h => h) (fun _ _ => rfl) rfl (fun _ _ => rfl), hinj, hone, fun b hb => rfl, fun o b ho e hp => hp.2 o ho e, fun b h => h.1, Nat.le_refl _, rfl, rfl, rfl, fun b hb => .inr (.inl hb), fun o b ho e => .inr (.inr ⟨o, ho, e⟩), fun o v hz => ?_, ⟨⟨gm, hgm⟩, hgm.lt, hgf⟩⟩
    · by_cases ht : t < args.length
      · have e1 : (initE args fp).env t = args[t] := by simp [initE, List.getD_eq_getElem?_getD, ht]
        have e2 : (vs.toArray ++ Array.replicate (fn.ntmps - vs.toArray.size) undef).getD t undef = vs[t]'(by omega) := by
          simp [Array.getD_eq_getD_getElem?, Array.getElem?_append, show t < vs.length by omega]
        rw [e1, e2]
        exact (ha.2 t ht (by omega)).mono hbk (fun _ _ => rfl) (fun _ h => h) (fun _ _ => rfl)
      · have e1 : (initE args fp).env t = .top := by
          show args.getD t .top = .top
          rw [List.getD_eq_getElem?_getD, List.getElem?_eq_none (by omega)]
          rfl
        rw [e1, G]
        trivial
    · split at hz
      · rename_i x ho
        split at hz
        · cases hz
        · rename_i hxr
          simp only [Option.some.injEq] at hz
          obtain ⟨k, rfl, _⟩ := fos_some ho
          exact ⟨by omega, hz, x, ho, by simpa using hxr⟩
      · cases hz
  refine run_sound (hT gm) (hΓ gm) (by rw [hcg]; exact hgm) hm code (initE args fp) _ _ ρ _ w (hok gm) ?_ hg (h gm hp)
  rintro e a' w' ⟨st', ρs, ⟨he, hfo, hr⟩, hg'⟩
  split at hr
  · rename_i q x hx
    obtain ⟨v, hv, hxv⟩ := resV_run (hT gm) hg' hx hr.1
    have fosLt : ∀ {l : List O} {o}, fos l o ≠ none → 100000 ≤ o ∧ o < 100000 + l.length := fun {l o} h => by
      obtain ⟨x, hx⟩ := Option.ne_none_iff_exists'.1 h
      obtain ⟨k, rfl, hk⟩ := fos_some hx
      have := (List.getElem?_eq_some_iff.1 hk).1
      omega
    have fosOf : ∀ {l : List O} {o}, 100000 ≤ o → o < 100000 + l.length → fos l o ≠ none := fun {l o} h1 h2 => by
      unfold fos
      rw [if_pos h1, List.getElem?_eq_getElem (by omega)]
      simp
    have same : ∀ o, fos fp' o ≠ none ↔ fos fp o ≠ none := fun o => by
      constructor
      · intro h
        obtain ⟨h1, h2⟩ := fosLt h
        exact fosOf h1 (by omega)
      · intro h
        obtain ⟨h1, h2⟩ := fosLt h
        exact fosOf h1 (by omega)
    have fit : ∀ {o x}, fos fp' o = some x → FitO fp'.length st'.os (st'.os o) x := fun {o x} h => by
      obtain ⟨k, rfl, hk⟩ := fos_some h
      exact FitOs_get hfo k x hk
    have liveF : ∀ {o}, fos fp' o ≠ none → st'.os o ≠ none := fun {o} h => by
      obtain ⟨x, hx⟩ := Option.ne_none_iff_exists'.1 h
      have := fit hx
      intro e
      rw [e] at this
      cases x <;> exact this
    let ρ' : Nat → Value := fun o => match fos fp' o with
      | some _ => ρs o
      | none => ρ o
    have ρ'_some : ∀ {o}, fos fp' o ≠ none → ρ' o = ρs o := fun {o} h => by
      obtain ⟨x, hx⟩ := Option.ne_none_iff_exists'.1 h
      simp only [ρ', hx]
    have ρ'_none : ∀ {o}, fos fp' o = none → ρ' o = ρ o := fun {o} h => by simp only [ρ', h]
    have box_fix : ∀ {o x}, fos fp' o = some x → x.isRow = false → ρs o = ρ o := fun {o x} h hxr => by
      have h0 := (same o).1 (by rw [h]; simp)
      obtain ⟨y, hy⟩ := Option.ne_none_iff_exists'.1 h0
      obtain ⟨k, rfl, hk⟩ := fos_some h
      rw [fos_at] at hy
      have := kind k _ _ hk hy
      rw [hxr] at this
      exact (hg'.fix (100000 + k) (ρ (100000 + k)) (by simp only [fos_at, hy]; rw [← this]; rfl)).2.1
    have newOk : ∀ b, b < w'.heap.size → (B b ∨ w.heap.size ≤ b ∨ ∃ o, fos fp o ≠ none ∧ blockOf (ρ o) = some b) → (∀ o, fos fp' o ≠ none → blockOf (ρs o) ≠ some b) → newB B w w' (fos fp) ρ (fos fp') ρ' b := fun b hlt hX hno => ⟨hlt, hX, fun o ho => by rw [ρ'_some ho]; exact hno o ho⟩
    have bk_new : ∀ b, Bk (fun b => B b ∨ w.heap.size ≤ b ∨ ∃ o, fos fp o ≠ none ∧ blockOf (ρ o) = some b) st'.os ρs w' b → newB B w w' (fos fp) ρ (fos fp') ρ' b := fun b hb => newOk b hb.1.1 hb.1.2 fun o ho => hb.2 o (liveF ho)
    have row_new : ∀ o b, o < 100000 → st'.os o ≠ none → blockOf (ρs o) = some b → newB B w w' (fos fp) ρ (fos fp') ρ' b := fun o b hlo hl e => by
      obtain ⟨y, hy⟩ := Option.ne_none_iff_exists'.1 hl
      refine newOk b ((hg'.obj o y hy).lt e) (hg'.xo o b hl e) fun o' ho' e' => ?_
      have := hg'.inj o o' b hl (liveF ho') e e'
      have := (fosLt ho').1
      omega
    have hL : ∀ o, 100000 ≤ o → o < 100000 + fp'.length → Lv (fos fp') o ∧ ρ' o = ρs o := fun o h1 h2 => ⟨fosOf h1 h2, ρ'_some (fosOf h1 h2)⟩
    have G1 : ∀ {x y : V} {v : Value}, FitC fp'.length st'.os x y → G (Bk (fun b => B b ∨ w.heap.size ≤ b ∨ ∃ o, fos fp o ≠ none ∧ blockOf (ρ o) = some b) st'.os ρs w') w' ρs (Lv st'.os) x v → G (newB B w w' (fos fp) ρ (fos fp') ρ') w' ρ' (Lv (fos fp')) y v := fun hfc hx => FitC_G hg' bk_new row_new hL hfc hx
    have done : a'.defers = [] ∧ ∃ v, (results fn a'.tmps).run P w' = .ok v w' ∧ ∃ v' ρ', Ending.returned v = .returned v' ∧ Grown w w' (fos fp) ρ ∧ (∀ o, isRowAt (fos fp') o = false → ρ' o = ρ o) ∧ (∀ o, (ρ' o).oneCell' = true) ∧
        (∀ o b, isRowAt (fos fp') o = true → blockOf (ρ' o) = some b → (∃ o', fos fp o' ≠ none ∧ blockOf (ρ o') = some b) ∨ w.heap.size ≤ b) ∧ InjOn (fos fp') ρ' ∧
        (∀ o x, fos fp' o = some x → objOk (newB B w w' (fos fp) ρ (fos fp') ρ') w' ρ' (Lv (fos fp')) o x) ∧ G (newB B w w' (fos fp) ρ (fos fp') ρ') w' ρ' (Lv (fos fp')) r v' := by
      refine ⟨hg'.defers, v, hv, v, ρ', rfl, ⟨hg'.grow, hg'.os', hg'.tape, hg'.output, fun b hb hno => hg'.keep b ⟨hb, hno⟩⟩, fun o ho => ?_, fun o => ?_, fun o b ho e => ?_, fun o o' b h1 h2 e1 e2 => ?_, fun o x ho => ?_, FitT_G hg' bk_new row_new hL hr.2 hxv⟩
      · cases e : fos fp' o with
        | none => exact ρ'_none e
        | some x =>
          rw [ρ'_some (by rw [e]; simp)]
          exact box_fix e (by rw [isRowAt, e] at ho; exact ho)
      · cases e : fos fp' o with
        | none => rw [ρ'_none e]; exact hone o
        | some x => rw [ρ'_some (by rw [e]; simp)]; exact hg'.one o
      · have hne : fos fp' o ≠ none := fun e2 => by rw [isRowAt, e2] at ho; cases ho
        rw [ρ'_some hne] at e
        rcases hg'.xo o b (liveF hne) e with h | h | ⟨o', h1, h2⟩
        · exfalso
          exact hg'.prot o b (liveF hne) e (hB b h)
        · exact .inr h
        · exact .inl ⟨o', h1, h2⟩
      · rw [ρ'_some h1] at e1
        rw [ρ'_some h2] at e2
        exact hg'.inj o o' b (liveF h1) (liveF h2) e1 e2
      · have hne : fos fp' o ≠ none := by rw [ho]; simp
        have hft := fit ho
        obtain ⟨y, hy⟩ := Option.ne_none_iff_exists'.1 (liveF hne)
        have hoy := hg'.obj o y hy
        rw [hy] at hft
        cases y with
        | box cs e =>
          cases x with
          | row rows m e2 => exact hft.elim
          | raw K => exact hft.elim
          | arr r k t => exact hft.elim
          | box cs' e' =>
            obtain ⟨f1, rfl⟩ := hft
            obtain ⟨g1, g2⟩ := FitsL_get f1
            obtain ⟨b, vs', k1, k2, k3, k4⟩ := hoy
            exact ⟨b, vs', by rw [ρ'_some hne]; exact k1, k2, ⟨by rw [k3.1, g1], fun i h1 h2 => G1 (g2 i (by omega) h1) (k3.2 i (by omega) h2)⟩, k4⟩
        | row rows m e =>
          cases x with
          | box cs' e' => exact hft.elim
          | raw K => exact hft.elim
          | arr r k t => exact hft.elim
          | row rows' m' e' =>
            obtain ⟨rfl, rfl, rfl⟩ := hft
            obtain ⟨xs, ⟨k1, k2⟩, k3⟩ := hoy
            exact ⟨xs, ⟨k1, by rw [ρ'_some hne]; exact k2⟩, k3.mono bk_new (fun _ _ => rfl)⟩
        | arr rows m e =>
          cases x with
          | box cs' e' => exact hft.elim
          | raw K => exact hft.elim
          | row r k t => exact hft.elim
          | arr rows' m' e' =>
            obtain ⟨rfl, rfl, rfl⟩ := hft
            obtain ⟨xs, ⟨k1, k2⟩, k3⟩ := hoy
            exact ⟨xs, ⟨k1, by rw [ρ'_some hne]; exact k2⟩, k3.mono bk_new (fun _ _ => rfl)⟩
        | raw K =>
          cases x with
          | box cs' e' => exact hft.elim
          | row rows m e2 => exact hft.elim
          | arr r k t => exact hft.elim
          | raw K' =>
            obtain rfl : K = K' := hft
            obtain ⟨b, y, k1, k2, k3⟩ := hoy
            exact ⟨b, y, by rw [ρ'_some hne]; exact k1, k2, by rw [ρ'_some hne]; exact k3⟩
    rcases he with rfl | rfl
    · exact done
    · exact done
  · exact hr.elim
/-- A function that returns a row of its own. -/
def IsRow (os : Nat → Option O) (rows : List (List D)) (m : Nat) (e : TypeId) : V → Prop
  | .row t => os t = some (.row rows m e)
  | .nil => rows = []
  | _ => False
def RetR (C : Cx) (rs : List ResultVar) (rows : List (List D)) (m : Nat) (ty : TypeId) : Exit → St → Prop := fun e st => (e = .normal ∨ e = .ret) ∧ match resV C st rs with
  | some (p, x) => p ∧ IsRow st.os rows m ty x
  | none => False
theorem row_fn {P : Program} {C : Int → Cx} (hT : ∀ m, TOK P (C m).T) (hΓ : ∀ m, COk P (C m)) (hcg : ∀ m, (C m).gm.m = m) (hm : P.follows .mixedOrders = true) {f : FuncId} {fn : Func} {code : Code} (hf : P.funcs[f]? = some fn) (hb : fn.body = some code) {args : List V} {p : Prop} {rows : List (List D)} {m : Nat} {ty : TypeId}
    (hn : args.length ≤ fn.ntmps) (hpu : args.all V.pure = true) (hok : ∀ m, codeOk (C m).pl fn.ntmps code = true)
    (h : ∀ m', p → run (C m') code (initS args) (RetR (C m') fn.results.toList rows m ty)) : EffOk P f args [] p (.row 100000) [.row rows m ty] := by
  refine ⟨by simp, fun k x hk => ?_, ?_⟩
  · cases k with
    | zero => simp only [List.getElem?_cons_zero, Option.some.injEq] at hk; subst hk; rfl
    | succ k => simp at hk
  intro w B ρ vs hB ⟨⟨gm, hgm⟩, hgf⟩ hone hobj hinj ha hp
  refine calls_of_wp hf hb ?_
  have hvl : vs.length = args.length := ha.1
  have hg : Gam fn.ntmps w (fun b => b < w.heap.size) (fun b => B b ∨ w.heap.size ≤ b) (fun _ => none) ρ (initS args) { tmps := vs.toArray ++ Array.replicate (fn.ntmps - vs.toArray.size) undef, defers := [] } w := by
    refine ⟨rfl, by simp; omega, fun t => ?_, fun o x h => by simp [initS] at h, fun o o' b h => by simp [initS] at h, hone, fun b hb => rfl, fun o b h => by simp [initS] at h, fun b h => h, Nat.le_refl _, rfl, rfl, rfl, fun b hb => .inr hb, fun o b h => by simp [initS] at h, fun o v h => (by cases h), ⟨⟨gm, hgm⟩, hgm.lt⟩⟩
    have hbk : ∀ b, B b → Bk (fun b => B b ∨ w.heap.size ≤ b) (initS args).os ρ w b := fun b hb => ⟨⟨(hB b hb).1, .inl hb⟩, fun o h => by simp [initS] at h⟩
    by_cases ht : t < args.length
    · have e1 : (initS args).env t = args[t] := by simp [initS, List.getD_eq_getElem?_getD, ht]
      have e2 : (vs.toArray ++ Array.replicate (fn.ntmps - vs.toArray.size) undef).getD t undef = vs[t]'(by omega) := by
        simp [Array.getD_eq_getD_getElem?, Array.getElem?_append, show t < vs.length by omega]
      rw [e1, e2]
      exact ((ha.2 t ht (by omega)).mono hbk (fun _ _ => rfl) (fun _ h => h) (fun _ _ => rfl)).pure ((List.all_eq_true.1 hpu) _ (List.getElem_mem _))
    · have e1 : (initS args).env t = .top := by
        show args.getD t .top = .top
        rw [List.getD_eq_getElem?_getD, List.getElem?_eq_none (by omega)]
        rfl
      rw [e1, G]
      trivial
  refine run_sound (hT gm) (hΓ gm) (by rw [hcg]; exact hgm) hm code (initS args) _ _ ρ _ w (hok gm) ?_ hg (h gm hp)
  rintro e a' w' ⟨st', ρs, ⟨he, hr⟩, hg'⟩
  split at hr
  · rename_i q x hx
    obtain ⟨v, hv, hxv⟩ := resV_run (hT gm) hg' hx hr.1
    have f0 : ∀ o, fos [O.row rows m ty] o ≠ none ↔ o = 100000 := fun o => by
      unfold fos
      split
      · rename_i h1
        constructor
        · intro h2
          rcases Nat.eq_or_lt_of_le h1 with e | e
          · exact e.symm
          · exact absurd (List.getElem?_eq_none (by simp; omega)) h2
        · intro h2; subst h2; simp
      · rename_i h1
        exact ⟨fun h2 => absurd rfl h2, fun h2 => by omega⟩
    have fn0 : ∀ o, fos ([] : List O) o = none := fun o => by unfold fos; split <;> simp
    have facts : v.oneCell' = true ∧ (∀ b, blockOf v = some b → w.heap.size ≤ b) ∧ ∃ xs, w'.ownsRow 0 ty m v rows.length xs ∧ rowOk (newB B w w' (fos []) ρ (fos [O.row rows m ty]) (upd ρ 100000 v)) w' rows m xs := by
      have hrow := hr.2
      unfold IsRow at hrow
      split at hrow
      · rename_i t
        rw [G] at hxv
        obtain ⟨hl, rfl⟩ := hxv
        obtain ⟨xs, h1, h2⟩ := hg'.obj t _ hrow
        refine ⟨hg'.one t, fun b e => ?_, xs, h1, h2.mono (fun b hb => ⟨hb.1.1, hb.1.2.imp id .inl, fun o ho e => ?_⟩) (fun _ _ => rfl)⟩
        · rcases Nat.lt_or_ge b w.heap.size with c | c
          · exact absurd c (hg'.prot t b hl e)
          · exact c
        · rw [(f0 o).1 ho, upd_same] at e
          exact hb.2 t hl e
      · rw [G] at hxv
        subst hxv
        subst hrow
        exact ⟨rfl, fun b e => by simp [blockOf] at e, [], World.ownsRow_nil _ _ _ _, fun i h => by simp at h, fun i h => by simp at h⟩
      · exact hrow.elim
    obtain ⟨k1, k2, k3⟩ := facts
    have done : a'.defers = [] ∧ ∃ v, (results fn a'.tmps).run P w' = .ok v w' ∧ ∃ v' ρ', Ending.returned v = .returned v' ∧ Grown w w' (fos []) ρ ∧ (∀ o, isRowAt (fos [O.row rows m ty]) o = false → ρ' o = ρ o) ∧ (∀ o, (ρ' o).oneCell' = true) ∧
        (∀ o b, isRowAt (fos [O.row rows m ty]) o = true → blockOf (ρ' o) = some b → (∃ o', fos ([] : List O) o' ≠ none ∧ blockOf (ρ o') = some b) ∨ w.heap.size ≤ b) ∧ InjOn (fos [O.row rows m ty]) ρ' ∧
        (∀ o x, fos [O.row rows m ty] o = some x → objOk (newB B w w' (fos []) ρ (fos [O.row rows m ty]) ρ') w' ρ' (Lv (fos [O.row rows m ty])) o x) ∧ G (newB B w w' (fos []) ρ (fos [O.row rows m ty]) ρ') w' ρ' (Lv (fos [O.row rows m ty])) (.row 100000) v' := by
      refine ⟨hg'.defers, v, hv, v, upd ρ 100000 v, rfl, ⟨hg'.grow, hg'.os', hg'.tape, hg'.output, fun b hb _ => hg'.keep b hb⟩, fun o ho => ?_, fun o => ?_, fun o b ho e => ?_, fun o o' b h1 h2 _ _ => ((f0 o).1 h1).trans ((f0 o').1 h2).symm, fun o x ho => ?_, ?_⟩
      · by_cases c : o = 100000
        · subst c; cases ho
        · exact upd_ne _ _ c
      · by_cases c : o = 100000
        · subst c; rw [upd_same]; exact k1
        · rw [upd_ne _ _ c]; exact hone o
      · have hne : fos [O.row rows m ty] o ≠ none := fun e2 => by rw [isRowAt, e2] at ho; cases ho
        rw [(f0 o).1 hne, upd_same] at e
        exact .inr (k2 b e)
      · have hc := (f0 o).1 (by rw [ho]; simp)
        subst hc
        simp only [fos, Nat.le_refl, if_true, Nat.sub_self, List.getElem?_cons_zero, Option.some.injEq] at ho
        subst ho
        obtain ⟨xs, g1, g2⟩ := k3
        exact ⟨xs, by rw [upd_same]; exact g1, g2⟩
      · rw [G]
        exact ⟨(f0 100000).2 rfl, (upd_same _ _ _).symm⟩
    rcases he with rfl | rfl
    · exact done
    · exact done
  · exact hr.elim
/-- Contracts with effects by a list. -/
structure EntE (P : Program) where
  f : FuncId
  c : List V → List O → Option (Prop × V × List O)
  fn : FnOk P f
  ok : ∀ args fp p r fp', c args fp = some (p, r, fp') → EffOk P f args fp p r fp'
def dam {P : Program} : List (EntE P) → FuncId → List V → List O → Option (Prop × V × List O)
  | [], _, _, _ => none
  | e :: l, f, args, fp => if f = e.f then e.c args fp else dam l f args fp
theorem dam_ok {P : Program} : ∀ (l : List (EntE P)), DOk P (dam l)
  | [], f, args, fp, p, r, fp', h => by simp [dam] at h
  | e :: l, f, args, fp, p, r, fp', h => by
    unfold dam at h
    split at h
    · rename_i c; subst c; exact ⟨e.fn, e.ok args fp p r fp' h⟩
    · exact dam_ok l f args fp p r fp' h
@[go_sem ↓] theorem dam_cons {P : Program} (e : EntE P) (l : List (EntE P)) (f : FuncId) (args : List V) (fp : List O) : dam (e :: l) f args fp = if f = e.f then e.c args fp else dam l f args fp := rfl
@[go_sem ↓] theorem dam_nil {P : Program} (f : FuncId) (args : List V) (fp : List O) : dam (P := P) [] f args fp = none := rfl
theorem cok {P : Program} (T : TypeId → Option TI) (l : List (Ent P)) (l' : List (EntE P)) (pl : Nat → List (Nat × List Nat)) (m : Int) : COk P ⟨T, gam l, dam l', pl, ⟨m, fun _ _ => none⟩⟩ := ⟨gam_ok l, dam_ok l', fun _ _ _ _ h => by cases h⟩
theorem fnOk {P : Program} {f : FuncId} {fn : Func} {code : Code} (hf : P.funcs[f]? = some fn) (hb : fn.body = some code) (hn : (fn.name == "runtime.NumGoroutine") = false) : FnOk P f := ⟨fn, hf, hn, by rw [hb]; rfl⟩
attribute [go_sem ↓] List.getElem?_cons_zero List.getElem?_cons_succ
attribute [go_sem] Nat.zero_add Nat.add_zero List.drop_zero List.drop_succ_cons List.take_zero List.take_succ_cons List.append_nil List.drop_nil List.take_nil List.length_cons List.length_nil RetE FitO FitC FitR FitT FitOs FitsL initE storeV V.flat V.one putL
section
variable (x y z : O) (e : TypeId)
@[go_sem ↓] theorem fos0 (l : List O) : fos (x :: l) 100000 = some x := rfl
@[go_sem ↓] theorem fos1 (l : List O) : fos (x :: y :: l) 100001 = some y := rfl
end
end Go.Proofs.YtgnnakibcjonbaaGreatDoor.VE

/- The evaluator's equations for operations that make or change objects, as simp wants them; loops whose rounds change objects. -/
namespace Go.Proofs.YtgnnakibcjonbaaGreatDoor.VE
open Go Go.RowKit
set_option linter.unusedVariables false
set_option linter.unusedSimpArgs false
section
variable (C : Cx) (st : St) (env : Nat → V) (os : Nat → Option O) (d o : Nat) (x y : Operand) (t : TypeId)
def freshK (st : St) (d : Nat) : Option O → St
  | none => st
  | some _ => dropO st d
@[go_sem ↓] theorem fresh_eq : fresh st d = freshK st d (st.os d) := by
  unfold fresh freshK
  cases st.os d <;> rfl
@[go_sem ↓] theorem freshK_none : freshK st d none = st := rfl
@[go_sem ↓] theorem freshK_some (a : O) : freshK ⟨env, os⟩ d (some a) = ⟨fun t => (env t).kill d, fun o' => if o' = d then none else (os o').map (O.kill d)⟩ := rfl
@[go_sem ↓] theorem act_alloc : act C st d (.alloc t) = (match C.T t with
    | some i => some (True, .ptr d 0, ⟨(fresh st d).env, upd (fresh st d).os d (some (.box i.zero t))⟩)
    | none => none) := rfl
@[go_sem ↓] theorem act_box : act C st d (.box t x) = (match (ev (fresh st d).env x).flat with
    | some cs => some (True, .ptr d 0, ⟨(fresh st d).env, upd (fresh st d).os d (some (.box cs t))⟩)
    | none => none) := rfl
@[go_sem ↓] theorem nq_range : nilQ C st (.range t x) = none := rfl
@[go_sem ↓] theorem nq_next (b : Bool) : nilQ C st (.next x b) = none := rfl
@[go_sem ↓] theorem nq_makeMap (r : Option Operand) : nilQ C st (.makeMap t r) = none := rfl
@[go_sem ↓] theorem nq_mapUpdate (z : Operand) : nilQ C st (.mapUpdate t x y z) = none := rfl
@[go_sem ↓] theorem nq_lookup (b : Bool) : nilQ C st (.lookup t x y b) = none := rfl
@[go_sem ↓] theorem st_range : stepV C st d (.range t x) = rangeV C st d t (ev st.env x) := rfl
@[go_sem ↓] theorem st_next : stepV C st d (.next x true) = nextV st (ev st.env x) := rfl
@[go_sem ↓] theorem st_makeMap : stepV C st d (.makeMap t none) = some (True, .row d, ⟨(fresh st d).env, upd (fresh st d).os d (some (.raw (.map [])))⟩) := rfl
@[go_sem ↓] theorem st_mapUpdate (z : Operand) : stepV C st d (.mapUpdate t x y z) = mapUpV C st t (ev st.env x) (ev st.env y) (ev st.env z) := rfl
@[go_sem ↓] theorem st_lookup (b : Bool) : stepV C st d (.lookup t x y b) = keepS st (lookV C st.os t (ev st.env x) (ev st.env y) b) := by
  show Option.map _ _ = _
  cases lookV C st.os t (ev st.env x) (ev st.env y) b <;> rfl
@[go_sem ↓] theorem sd_range : stepVD C st d (.range t x) = stepV C st d (.range t x) := stepVD_eq _ _ _ _ (fun _ _ _ h => by cases h)
@[go_sem ↓] theorem sd_next (b : Bool) : stepVD C st d (.next x b) = stepV C st d (.next x b) := stepVD_eq _ _ _ _ (fun _ _ _ h => by cases h)
@[go_sem ↓] theorem sd_makeMap (r : Option Operand) : stepVD C st d (.makeMap t r) = stepV C st d (.makeMap t r) := stepVD_eq _ _ _ _ (fun _ _ _ h => by cases h)
@[go_sem ↓] theorem sd_mapUpdate (z : Operand) : stepVD C st d (.mapUpdate t x y z) = stepV C st d (.mapUpdate t x y z) := stepVD_eq _ _ _ _ (fun _ _ _ h => by cases h)
@[go_sem ↓] theorem sd_lookup (b : Bool) : stepVD C st d (.lookup t x y b) = stepV C st d (.lookup t x y b) := stepVD_eq _ _ _ _ (fun _ _ _ h => by cases h)
@[go_sem ↓] theorem footE_eq (l : List V) : footE os l = (match footL os 100000 l with
    | some q => some q
    | none => footG os l) := rfl
@[go_sem ↓] theorem footL_nil (k : Nat) : footL os k [] = some ([], [], []) := rfl
def boolQ : Option TK → Bool → Option (Prop × V)
  | some TK.bool, b => some (True, .d (.bool b))
  | _, _ => none
@[go_sem ↓] theorem bin_beql (b c : Bool) : binV C .eql t (.d (.bool b)) (.d (.bool c)) = boolQ ((C.T t).map (·.kind)) (b == c) := by
  unfold binV boolQ
  simp only [reduceCtorEq, if_true, if_false]
  generalize (C.T t).map (·.kind) = k
  cases k with
  | none => rfl
  | some k => cases k <;> rfl
@[go_sem ↓] theorem bin_bneq (b c : Bool) : binV C .neq t (.d (.bool b)) (.d (.bool c)) = boolQ ((C.T t).map (·.kind)) (!(b == c)) := by
  unfold binV boolQ
  simp only [reduceCtorEq, if_true, if_false]
  generalize (C.T t).map (·.kind) = k
  cases k with
  | none => rfl
  | some k => cases k <;> rfl
attribute [go_sem] boolQ
@[go_sem ↓] theorem hintR_eq (T : TypeId → Option TI) (Γ : FuncId → List V → Option (Prop × V)) (n : FuncId → List V → List O → Option (Prop × V × List O)) (pl : Nat → List (Nat × List Nat)) (gm : Gl) (d : Nat) : hintR ⟨T, Γ, n, pl, gm⟩ d = if d = 99999 then false else !(pl (1000000 + d)).isEmpty := by
  unfold hintR
  by_cases c : d = 99999 <;> simp [c]
attribute [go_sem] isU8 List.isEmpty_nil List.isEmpty_cons Bool.not_true Bool.not_false
def eqQ (b : Bool) : Option Bool → Option (Prop × V)
  | some r => some (True, .d (.bool (if b then r else !r)))
  | none => none
@[go_sem ↓] theorem eqQ_t (r : Bool) : eqQ true (some r) = some (True, .d (.bool r)) := rfl
@[go_sem ↓] theorem eqQ_f (r : Bool) : eqQ false (some r) = some (True, .d (.bool !r)) := rfl
@[go_sem ↓] theorem bin_aeql (xs ys : List V) : binV C .eql t (.agg xs) (.agg ys) = if (C.T t).map (·.eq) = some true then eqQ true (eqF C.T 6 t xs ys) else none := by
  unfold binV eqR eqQ
  simp only
  cases eqF C.T 6 t xs ys <;> simp
@[go_sem ↓] theorem bin_aneq (xs ys : List V) : binV C .neq t (.agg xs) (.agg ys) = if (C.T t).map (·.eq) = some true then eqQ false (eqF C.T 6 t xs ys) else none := by
  unfold binV eqR eqQ
  simp only
  cases eqF C.T 6 t xs ys <;> simp
attribute [go_sem] eqF eqFs eqL
@[go_sem ↓] theorem bin_sleq (u v : ByteArray) : binV C .leq t (.d (.str u)) (.d (.str v)) = some (True, .d (.bool (sLt u v || sEq u v))) := by simp [binV, strV]
@[go_sem ↓] theorem bin_sgtr (u v : ByteArray) : binV C .gtr t (.d (.str u)) (.d (.str v)) = some (True, .d (.bool (!(sLt u v || sEq u v)))) := by simp [binV, strV]
@[go_sem ↓] theorem bin_sgeq (u v : ByteArray) : binV C .geq t (.d (.str u)) (.d (.str v)) = some (True, .d (.bool (!sLt u v))) := by simp [binV, strV]
@[go_sem ↓] theorem un_xor (k : IntKind) (a : Int) : unV .xor (.d (.int k a)) = some (True, .d (.int k (bits .xor k (if k.signed then -1 else k.max) a))) := rfl
def footP (os : Nat → Option O) (k o : Nat) (rest : List V) : Option O → Option (List V × List O × List Nat)
  | some (.box cs e) => match cellsC cs (k + 1) with
      | some (cs', rs) => match rowObjs os rs with
        | some l => (footL os (k + 1 + rs.length) rest).map fun q => (.ptr k 0 :: q.1, .box cs' e :: (l ++ q.2.1), o :: (rs ++ q.2.2))
        | none => none
      | none => none
  | some (.raw K) => (footL os (k + 1) rest).map fun q => (.row k :: q.1, .raw K :: q.2.1, o :: q.2.2)
  | some (.arr rows m e) => (footL os (k + 1) rest).map fun q => (.row k :: q.1, .arr rows m e :: q.2.1, o :: q.2.2)
  | _ => none
@[go_sem ↓] theorem footL_ptr (k o : Nat) (rest : List V) : footL os k (.ptr o 0 :: rest) = (match os o with
    | some (.box cs e) => footP os k o rest (some (.box cs e))
    | _ => none) := by
  rw [footL]
  cases os o with
  | none => rfl
  | some a => cases a <;> rfl
@[go_sem ↓] theorem footL_row (k o : Nat) (rest : List V) : footL os k (.row o :: rest) = (match os o with
    | some (.raw K) => footP os k o rest (some (.raw K))
    | some (.arr rows m e) => footP os k o rest (some (.arr rows m e))
    | _ => none) := by
  rw [footL]
  cases os o with
  | none => rfl
  | some a => cases a <;> rfl
@[go_sem ↓] theorem footL_d (k : Nat) (a : D) (rest : List V) : footL os k (.d a :: rest) = (footL os k rest).map fun q => (.d a :: q.1, q.2.1, q.2.2) := by rw [footL] <;> first | rfl | (intro o h; cases h)
@[go_sem ↓] theorem footL_vnil (k : Nat) (rest : List V) : footL os k (.nil :: rest) = (footL os k rest).map fun q => (.nil :: q.1, q.2.1, q.2.2) := by rw [footL] <;> first | rfl | (intro o h; cases h)
@[go_sem ↓] theorem footL_dptr (k : Nat) (a : List D) (rest : List V) : footL os k (.dptr a :: rest) = (footL os k rest).map fun q => (.dptr a :: q.1, q.2.1, q.2.2) := by rw [footL] <;> first | rfl | (intro o h; cases h)
@[go_sem ↓] theorem footL_agg (k : Nat) (a : List V) (rest : List V) : footL os k (.agg a :: rest) = if a.all V.pure1 then (footL os k rest).map fun q => (.agg a :: q.1, q.2.1, q.2.2) else none := by rw [footL] <;> first | rfl | (intro o h; cases h)
@[go_sem ↓] theorem footL_fnc (k : Nat) (f : FuncId) (a : List V) (rest : List V) : footL os k (.fnc f a :: rest) = if a.all V.pure1 then (footL os k rest).map fun q => (.fnc f a :: q.1, q.2.1, q.2.2) else none := by rw [footL] <;> first | rfl | (intro o h; cases h)
attribute [go_sem] footP cellsC rowObjs rangeV nextV mapUpV lookV keyKind
def frzK (st : St) (o : Nat) : Option O → St
  | some (.row rows m _) => { st with env := fun t => (st.env t).frz o (.sl m rows), os := fun o' => if o' = o then none else (st.os o').map (O.frz o (.sl m rows)) }
  | _ => st
@[go_sem ↓] theorem frz_eq : st.frz o = frzK st o (st.os o) := by
  unfold St.frz frzK
  cases st.os o with
  | none => rfl
  | some a => cases a <;> rfl
@[go_sem ↓] theorem frzK_arr (rows : List (List D)) (m : Nat) (e : TypeId) : frzK st o (some (.arr rows m e)) = st := rfl
@[go_sem ↓] theorem frzK_row (rows : List (List D)) (m : Nat) (e : TypeId) : frzK ⟨env, os⟩ o (some (.row rows m e)) = ⟨fun t => (env t).frz o (.sl m rows), fun o' => if o' = o then none else (os o').map (O.frz o (.sl m rows))⟩ := rfl
@[go_sem ↓] theorem frzK_box (cs : List V) (e : TypeId) : frzK st o (some (.box cs e)) = st := rfl
@[go_sem ↓] theorem frzAll_nil : frzAll st [] = st := rfl
@[go_sem ↓] theorem frzAll_cons (l : List Nat) : frzAll st (o :: l) = frzAll (st.frz o) l := rfl
@[go_sem ↓] theorem killAll_eq (a : O) : killAll ⟨env, os⟩ o a = ⟨fun t => (env t).kill o, fun o' => if o' = o then some a else (os o').map (O.kill o)⟩ := rfl
attribute [go_sem] convV newsL freeB resRow namesE V.kill V.kills_eq O.kill V.frz V.frzs_eq O.frz buildV placesV fillV litV makeV appV argRows toD toDs rowsD List.mapM_cons List.mapM_nil Option.pure_def Option.bind_eq_bind Option.bind_some List.range_eq_range' List.range'_succ List.range'_zero
/-- A call with effects. -/
def callE1 (C : Cx) (s : St) (d : Nat) (xs : List Operand) : Option (FuncId × List V) → Option (Prop × V × St)
  | some (f, caps) => match footE s.os (xs.map (ev s.env) ++ caps) with
    | some (args, fp, fl) => match C.Δ f args fp with
      | some (p, r, fp') => if freeB s.os (newsL r d fp.length (fp'.length - fp.length)) && (nodupB (namesE fl fp.length fp'.length d r) && (namesE fl fp.length fp'.length d r).length == fp'.length) then
          some (p, r.ren (nameOf (namesE fl fp.length fp'.length d r)), ⟨fun t => (s.env t).killS (rowsS (namesE fl fp.length fp'.length d r) fp'), putO (nameOf (namesE fl fp.length fp'.length d r)) (namesE fl fp.length fp'.length d r) fp' fun o => (s.os o).map (O.killS (rowsS (namesE fl fp.length fp'.length d r) fp'))⟩)
        else none
      | none => none
    | none => none
  | none => none
/-- A call that is handed rows to be changed where they are. -/
def mapRow (L : List Nat) : Option (Prop × V × St) → Option (Prop × V × St)
  | some (p, r, s) => some (p, r, rowAll s L)
  | none => none
def callHB (C : Cx) (st : St) (d : Nat) (fo : Operand) (xs : List Operand) : Bool → Option (Prop × V × St)
  | true => mapRow (rowsR st.os (rowsOf (xs.map (ev st.env)))) (callE C (arrAll st (rowsR st.os (rowsOf (xs.map (ev st.env))))) d fo xs)
  | false => callE C st d fo xs
@[go_sem ↓] theorem callH_eq (xs : List Operand) : callH C st d x xs = callHB C st d x xs (hintS C d) := by
  unfold callH callHB
  cases hintS C d with
  | true =>
    simp only
    cases callE C (arrAll st (rowsR st.os (rowsOf (xs.map (ev st.env))))) d x xs with
    | none => rfl
    | some q => rfl
  | false => rfl
@[go_sem ↓] theorem callHB_true (xs : List Operand) : callHB C st d x xs true = mapRow (rowsR st.os (rowsOf (xs.map (ev st.env)))) (callE C (arrAll st (rowsR st.os (rowsOf (xs.map (ev st.env))))) d x xs) := rfl
@[go_sem ↓] theorem callHB_false (xs : List Operand) : callHB C st d x xs false = callE C st d x xs := rfl
@[go_sem ↓] theorem mapRow_some (L : List Nat) (p : Prop) (r : V) (s : St) : mapRow L (some (p, r, s)) = some (p, r, rowAll s L) := rfl
@[go_sem ↓] theorem hintS_eq (T : TypeId → Option TI) (Γ : FuncId → List V → Option (Prop × V)) (n : FuncId → List V → List O → Option (Prop × V × List O)) (pl : Nat → List (Nat × List Nat)) (gm : Gl) (d : Nat) : hintS ⟨T, Γ, n, pl, gm⟩ d = if d = 99999 then false else !(pl (2000000 + d)).isEmpty := by
  unfold hintS
  by_cases c : d = 99999 <;> simp [c]
def toArrK (st : St) (o : Nat) : Option O → St
  | some (.row rows m e) => { st with os := upd st.os o (some (.arr rows m e)) }
  | _ => st
def toRowK (st : St) (o : Nat) : Option O → St
  | some (.arr rows m e) => { st with os := upd st.os o (some (.row rows m e)) }
  | _ => st
@[go_sem ↓] theorem toArr_eq : St.toArr st o = toArrK st o (st.os o) := by
  unfold St.toArr toArrK
  rfl
@[go_sem ↓] theorem toRow_eq : St.toRow st o = toRowK st o (st.os o) := by
  unfold St.toRow toRowK
  rfl
@[go_sem ↓] theorem toArrK_row (rows : List (List D)) (m : Nat) (e : TypeId) : toArrK ⟨env, os⟩ o (some (.row rows m e)) = ⟨env, upd os o (some (.arr rows m e))⟩ := rfl
@[go_sem ↓] theorem toRowK_arr (rows : List (List D)) (m : Nat) (e : TypeId) : toRowK ⟨env, os⟩ o (some (.arr rows m e)) = ⟨env, upd os o (some (.row rows m e))⟩ := rfl
@[go_sem ↓] theorem arrAll_nil : arrAll st [] = st := rfl
@[go_sem ↓] theorem arrAll_cons (l : List Nat) : arrAll st (o :: l) = arrAll (st.toArr o) l := rfl
@[go_sem ↓] theorem rowAll_nil : rowAll st [] = st := rfl
@[go_sem ↓] theorem rowAll_cons (l : List Nat) : rowAll st (o :: l) = rowAll (st.toRow o) l := rfl
@[go_sem ↓] theorem rowsR_nil : rowsR os [] = [] := rfl
@[go_sem ↓] theorem rowsR_cons (l : List Nat) : rowsR os (o :: l) = if rowIs (os o) then o :: rowsR os l else rowsR os l := rfl
@[go_sem ↓] theorem rowIs_row (rows : List (List D)) (m : Nat) (e : TypeId) : rowIs (some (.row rows m e)) = true := rfl
@[go_sem ↓] theorem rowIs_arr (rows : List (List D)) (m : Nat) (e : TypeId) : rowIs (some (.arr rows m e)) = false := rfl
@[go_sem ↓] theorem rowIs_box (cs : List V) (e : TypeId) : rowIs (some (.box cs e)) = false := rfl
@[go_sem ↓] theorem rowIs_raw (K : Raw) : rowIs (some (.raw K)) = false := rfl
@[go_sem ↓] theorem rowIs_none : rowIs none = false := rfl
@[go_sem ↓] theorem rowAt_row (rows : List (List D)) (m : Nat) (e : TypeId) : rowAt (some (.row rows m e)) = some (rows, m, e) := rfl
@[go_sem ↓] theorem rowAt_arr (rows : List (List D)) (m : Nat) (e : TypeId) : rowAt (some (.arr rows m e)) = some (rows, m, e) := rfl
@[go_sem ↓] theorem rowAt_none : rowAt none = none := rfl
@[go_sem ↓] theorem reRow_row (rows r : List (List D)) (m : Nat) (e : TypeId) : reRow (some (.row rows m e)) r = .row r m e := rfl
@[go_sem ↓] theorem reRow_arr (rows r : List (List D)) (m : Nat) (e : TypeId) : reRow (some (.arr rows m e)) r = .arr r m e := rfl
@[go_sem] theorem memB_nil' (x : Nat) : memB x [] = false := rfl
@[go_sem] theorem memB_cons' (x y : Nat) (r : List Nat) : memB x (y :: r) = if x = y then true else memB x r := by
  rw [memB]
  by_cases c : x = y
  · subst c; rw [Nat.beq_refl]; simp
  · rw [if_neg c]
    have : Nat.beq x y = false := by
      cases h : Nat.beq x y with
      | false => rfl
      | true => exact absurd (Nat.eq_of_beq_eq_true h) c
    rw [this, Bool.false_or]
@[go_sem] theorem natBeq (a b : Nat) : Nat.beq a b = if a = b then true else false := by
  by_cases c : a = b
  · subst c; rw [Nat.beq_refl]; simp
  · rw [if_neg c]
    cases h : Nat.beq a b with
    | false => rfl
    | true => exact absurd (Nat.eq_of_beq_eq_true h) c
attribute [go_sem] Option.isNone_none Option.isNone_some cond_true cond_false
@[go_sem ↓] theorem keepS_none (s : St) : keepS s none = none := rfl
@[go_sem ↓] theorem idxP_row (t : TypeId) (o : Nat) (k : IntKind) (n : Int) (K : V → Prop) : idxP C os t (.row o) (.d (.int k n)) K = (match rowAt (os o) with
    | some (rows, m, _) => elemOk C t m = true ∧ (0 ≤ n ∧ n < rows.length) ∧ K (.rptr o m n.toNat 0)
    | none => False) := by
  unfold idxP idxV elemOk
  cases h1 : C.T t with
  | none => cases rowAt (os o) <;> simp
  | some ti =>
    simp only
    cases h2 : ti.kind <;> simp only [Bool.false_eq_true, false_and] <;> try (cases rowAt (os o) <;> rfl)
    · rename_i e
      cases h3 : C.T e with
      | none => cases rowAt (os o) <;> simp
      | some te =>
        cases rowAt (os o) with
        | none => rfl
        | some q =>
          obtain ⟨rows, m, e'⟩ := q
          simp only [beq_iff_eq]
          by_cases c : te.size = m
          · simp [c]
          · simp [if_neg c, c]
    · rename_i len e
      cases C.T e <;> cases rowAt (os o) <;> simp
attribute [go_sem] nodupB V.ren V.rens_eq O.ren V.killS V.killSs_eq O.killS rowsS putO nameOf O.isRow
/-- A call with effects, step by step. -/
def callE4 (s : St) (p : Prop) (r : V) (fp' : List O) (nm : List Nat) : Bool → Option (Prop × V × St)
  | true => some (p, r.ren (nameOf nm), ⟨fun t => (s.env t).killS (rowsS nm fp'), putO (nameOf nm) nm fp' fun o => (s.os o).map (O.killS (rowsS nm fp'))⟩)
  | false => none
def callE3 (s : St) (d : Nat) (fl : List Nat) (n : Nat) : Option (Prop × V × List O) → Option (Prop × V × St)
  | some (p, r, fp') => callE4 s p r fp' (namesE fl n fp'.length d r) (freeB s.os (newsL r d n (fp'.length - n)) && (nodupB (namesE fl n fp'.length d r) && (namesE fl n fp'.length d r).length == fp'.length))
  | none => none
def callE2 (C : Cx) (s : St) (d : Nat) (f : FuncId) : Option (List V × List O × List Nat) → Option (Prop × V × St)
  | some (args, fp, fl) => callE3 s d fl fp.length (C.Δ f args fp)
  | none => none
@[congr] theorem callE2_congr {C : Cx} {s : St} {d : Nat} {f : FuncId} {x y : Option (List V × List O × List Nat)} (h : x = y) : callE2 C s d f x = callE2 C s d f y := by rw [h]
@[congr] theorem callE3_congr {s : St} {d n n' : Nat} {fl fl' : List Nat} {x y : Option (Prop × V × List O)} (h0 : fl = fl') (h1 : n = n') (h : x = y) : callE3 s d fl n x = callE3 s d fl' n' y := by rw [h, h0, h1]
@[congr] theorem callE4_congr {s : St} {p : Prop} {r : V} {fp' : List O} {nm nm' : List Nat} {b b' : Bool} (h : nm = nm') (h1 : b = b') : callE4 s p r fp' nm b = callE4 s p r fp' nm' b' := by rw [h, h1]
@[go_sem ↓] theorem callE1_some (s : St) (xs : List Operand) (f : FuncId) (caps : List V) : callE1 C s d xs (some (f, caps)) = callE2 C s d f (footE s.os (xs.map (ev s.env) ++ caps)) := by
  unfold callE1 callE2 callE3
  simp only
  cases footE s.os (xs.map (ev s.env) ++ caps) with
  | none => rfl
  | some q =>
    obtain ⟨args, fp, fl⟩ := q
    simp only
    cases C.Δ f args fp with
    | none => rfl
    | some q =>
      obtain ⟨p, r, fp'⟩ := q
      simp only
      cases (freeB s.os (newsL r d fp.length (fp'.length - fp.length)) && (nodupB (namesE fl fp.length fp'.length d r) && (namesE fl fp.length fp'.length d r).length == fp'.length)) <;> rfl
@[go_sem] theorem callE2_some (s : St) (f : FuncId) (args : List V) (fp : List O) (fl : List Nat) : callE2 C s d f (some (args, fp, fl)) = callE3 s d fl fp.length (C.Δ f args fp) := rfl
@[go_sem] theorem callE3_some (s : St) (fl : List Nat) (n : Nat) (p : Prop) (r : V) (fp' : List O) : callE3 s d fl n (some (p, r, fp')) = callE4 s p r fp' (namesE fl n fp'.length d r) (freeB s.os (newsL r d n (fp'.length - n)) && (nodupB (namesE fl n fp'.length d r) && (namesE fl n fp'.length d r).length == fp'.length)) := rfl
@[go_sem] theorem callE4_true (p : Prop) (r : V) (fp' : List O) (nm : List Nat) : callE4 ⟨env, os⟩ p r fp' nm true = some (p, r.ren (nameOf nm), ⟨fun t => (env t).killS (rowsS nm fp'), putO (nameOf nm) nm fp' fun o => (os o).map (O.killS (rowsS nm fp'))⟩) := rfl
def callE0 (C : Cx) (d : Nat) (x : Operand) (xs : List Operand) (s : St) : Option (Prop × V × St) := callE1 C s d xs (calleeV (ev s.env x))
@[go_sem ↓] theorem callE_eq (xs : List Operand) : callE C st d x xs = callE0 C d x xs (fresh (frzAll st (rowsOf (xs.map (ev st.env)))) d) := by
  unfold callE callE0 callE1
  simp only
  cases calleeV (ev (fresh (frzAll st (rowsOf (xs.map (ev st.env)))) d).env x) with
  | none => rfl
  | some q => rfl
@[congr] theorem callE0_congr {C : Cx} {d : Nat} {x : Operand} {xs : List Operand} {s s' : St} (h : s = s') : callE0 C d x xs s = callE0 C d x xs s' := by rw [h]
@[go_sem] theorem callE0_eq (xs : List Operand) : callE0 C d x xs ⟨env, os⟩ = callE1 C ⟨env, os⟩ d xs (calleeV (ev env x)) := rfl
end
/-- Objects by a list; there are no others. -/
def osL : List (Nat × O) → Nat → Option O
  | [], _ => none
  | p :: r, t => if t = p.1 then some p.2 else osL r t
@[go_sem ↓] theorem osL_nil (t : Nat) : osL [] t = none := rfl
@[go_sem ↓] theorem osL_cons (s : Nat) (v : O) (r : List (Nat × O)) (t : Nat) : osL ((s, v) :: r) t = if t = s then some v else osL r t := rfl
def dropAll (st : St) : List Nat → St
  | [] => st
  | t :: r => dropAll (dropO st t) r
theorem Le.trans {a b c : St} (h1 : Le a b) (h2 : Le b c) : Le a c := fun N w0 Pr X Z ρ act w hg => by
  obtain ⟨ρ', h⟩ := h1 N w0 Pr X Z ρ act w hg
  exact h2 N w0 Pr X Z ρ' act w h
theorem Le_dropAll : ∀ (l : List Nat) (st : St), (∀ t ∈ l, t < 100000) → Le st (dropAll st l)
  | [], st, _ => Le.refl st
  | t :: r, st, h => Le.trans (fun N w0 Pr X Z ρ a w hg => ⟨ρ, hg.drop t (h t (by simp))⟩) (Le_dropAll r (dropO st t) fun u hu => h u (List.mem_cons_of_mem _ hu))
/-- What a round must come to, where rounds change objects; ds: the objects of the round alone. -/
def roundO {α : Type} (ds : List Nat) (os : α → Nat → Option O) (l : α → List (Nat × V)) (R : α → Prop) (M : α → Nat) (x : α) (Q : Exit → St → Prop) : Exit → St → Prop
  | .normal, s => ∃ y, R y ∧ M y < M x ∧ AtL (dropAll s ds).env (l y) ∧ (dropAll s ds).os = os y
  | e, s => Q e s
section
variable {α : Type} (ds : List Nat) (os : α → Nat → Option O) (l : α → List (Nat × V)) (R : α → Prop) (M : α → Nat) (x : α) (Q : Exit → St → Prop) (s : St)
@[go_sem ↓] theorem roundO_normal : roundO ds os l R M x Q .normal s = ∃ y, R y ∧ M y < M x ∧ AtL (dropAll s ds).env (l y) ∧ (dropAll s ds).os = os y := rfl
@[go_sem ↓] theorem roundO_ret : roundO ds os l R M x Q .ret s = Q .ret s := rfl
@[go_sem ↓] theorem roundO_exit (id : Nat) : roundO ds os l R M x Q (.exit id) s = Q (.exit id) s := rfl
end
theorem loop_objs {C : Cx} {c : Code} {st : St} {Q : Exit → St → Prop} {α : Type} (ds : List Nat) (hds : ∀ t ∈ ds, t < 100000) (os : α → Nat → Option O) (l : α → List (Nat × V)) (R : α → Prop) (M : α → Nat) (x0 : α) (hR : R x0) (h0 : AtL (dropAll st ds).env (l x0) ∧ (dropAll st ds).os = os x0)
    (h : ∀ x, R x → run C c ⟨envL (l x), os x⟩ (roundO ds os l R M x Q)) : run C (.loop c) st Q := by
  have le : ∀ (s : St) (y : α), AtL (dropAll s ds).env (l y) ∧ (dropAll s ds).os = os y → Le s ⟨envL (l y), os y⟩ := fun s y ⟨h1, h2⟩ =>
    Le.trans (Le_dropAll ds s hds) (by rw [← h2]; exact Le_envL h1)
  refine ⟨α, fun x => ⟨envL (l x), os x⟩, R, M, x0, hR, le _ _ h0, fun x hx => ?_⟩
  refine run_mono _ _ _ _ (fun e s hq => ?_) (h x hx)
  cases e with
  | normal =>
    obtain ⟨y, h1, h2, h3⟩ := hq
    exact ⟨y, h1, h2, le _ _ h3⟩
  | _ => exact hq
@[go_sem ↓] theorem dropAll_nil (st : St) : dropAll st [] = st := rfl
@[go_sem ↓] theorem dropAll_cons (env : Nat → V) (os : Nat → Option O) (t : Nat) (l : List Nat) : dropAll ⟨env, os⟩ (t :: l) = dropAll ⟨fun u => (env u).kill t, fun o' => if o' = t then none else (os o').map (O.kill t)⟩ l := rfl
end Go.Proofs.YtgnnakibcjonbaaGreatDoor.VE
