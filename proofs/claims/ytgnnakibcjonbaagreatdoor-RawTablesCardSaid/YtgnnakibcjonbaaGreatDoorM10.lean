/- Texts put together (merge.py). -/
import Derived.Test.YtgnnakibcjonbaaGreatDoorM9
/- Chapter 16, plain: tables and their widths. -/
namespace Go.Proofs.YtgnnakibcjonbaaGreatDoor.VE
open Go Go.RowKit
set_option linter.unusedVariables false
set_option linter.unusedSimpArgs false
/-- The first place, from one on, at which there is an error. -/
def firstErr (f : Nat → Int) : Nat → Nat → Option (Nat × Int)
  | 0, _ => none
  | c + 1, k => if f k = 0 then firstErr f c (k + 1) else some (k, f k)
def layErr (l : List Ly) (i : Nat) : Option (Nat × Int) :=
  if headErr l i = 0 then (match l[i]? with
    | none => none
    | some x => firstErr (fun k => fieldErr l i k) x.fields.length 0) else some (0, headErr l i)
def tabErr (l : List Ly) : Nat → Nat → Nat × Nat × Int
  | 0, _ => (0, 0, 0)
  | c + 1, i => match layErr l i with
    | some (k, e) => (i, k, e)
    | none => tabErr l c (i + 1)
def checkT (l : List Ly) : Nat × Nat × Int := if 12 < l.length then (0, 0, 2) else tabErr l l.length 0
theorem firstErr_none {f : Nat → Int} : ∀ {c k : Nat}, firstErr f c k = none → ∀ j, k ≤ j → j < k + c → f j = 0
  | 0, k, _, j, h1, h2 => by omega
  | c + 1, k, h, j, h1, h2 => by
    unfold firstErr at h
    split at h
    · rename_i e
      by_cases c' : j = k
      · rw [c']; exact e
      · exact firstErr_none h j (by omega) (by omega)
    · cases h
theorem firstErr_some {f : Nat → Int} : ∀ {c k j : Nat} {e : Int}, firstErr f c k = some (j, e) → e ≠ 0
  | 0, k, j, e, h => by cases h
  | c + 1, k, j, e, h => by
    unfold firstErr at h
    split at h
    · exact firstErr_some h
    · rename_i g
      simp only [Option.some.injEq, Prod.mk.injEq] at h
      rw [← h.2]; exact g
theorem layErr_some {l : List Ly} {i k : Nat} {e : Int} (h : layErr l i = some (k, e)) : e ≠ 0 := by
  unfold layErr at h
  split at h
  · split at h
    · cases h
    · exact firstErr_some h
  · rename_i g
    simp only [Option.some.injEq, Prod.mk.injEq] at h
    rw [← h.2]; exact g
theorem tabErr_ok {l : List Ly} : ∀ {c i : Nat}, (tabErr l c i).2.2 = 0 → ∀ j, i ≤ j → j < i + c → layErr l j = none
  | 0, i, _, j, h1, h2 => by omega
  | c + 1, i, h, j, h1, h2 => by
    unfold tabErr at h
    split at h
    · rename_i k e g; exact (layErr_some g h).elim
    · rename_i g
      by_cases c' : j = i
      · rw [c']; exact g
      · exact tabErr_ok h j (by omega) (by omega)
/-- A right table. -/
structure Right (l : List Ly) : Prop where
  len : l.length ≤ 12
  fields : ∀ (i : Nat) x, l[i]? = some x → x.fields.length ≤ 16
  field : ∀ (i : Nat) x, l[i]? = some x → ∀ (k : Nat) f, x.fields[k]? = some f → fieldErr l i k = 0
theorem right_of {l : List Ly} (h : (checkT l).2.2 = 0) : Right l := by
  unfold checkT at h
  split at h
  · cases h
  · rename_i hl
    have ok := tabErr_ok h
    have lay : ∀ (i : Nat) x, l[i]? = some x → headErr l i = 0 ∧ ∀ (k : Nat) f, x.fields[k]? = some f → fieldErr l i k = 0 := fun i x hx => by
      have hi := (List.getElem?_eq_some_iff.1 hx).1
      have g := ok i (Nat.zero_le _) (by omega)
      unfold layErr at g
      split at g
      · rename_i e
        rw [hx] at g
        exact ⟨e, fun k f hf => firstErr_none g k (Nat.zero_le _) (by have := (List.getElem?_eq_some_iff.1 hf).1; omega)⟩
      · cases g
    refine ⟨by omega, fun i x hx => ?_, fun i x hx => (lay i x hx).2⟩
    have := (lay i x hx).1
    unfold headErr at this
    rw [Int.toNat_natCast, hx] at this
    simp only at this
    split at this
    · split at this
      · split at this
        · cases this
        · omega
      · cases this
    · cases this
/-- What a right field uses, and has. -/
theorem right_field {l : List Ly} {i k : Nat} {x : Ly} {f : Fd} (hx : l[i]? = some x) (hf : x.fields[k]? = some f) (h : fieldErr l i k = 0) :
    (0 ≤ f.kind ∧ f.kind ≤ 7) ∧ fieldForm x f = false ∧ fieldRange f = false ∧ (∀ n ∈ usedOf f, 0 ≤ n ∧ n < i) ∧ (f.kind = 7 → f.choices ≠ []) := by
  unfold fieldErr at h
  rw [Int.toNat_natCast, Int.toNat_natCast, hx] at h
  dsimp only at h
  rw [hf] at h
  dsimp only at h
  have h1 : isNm f.name = true := by
    by_cases c : isNm f.name = true
    · exact c
    · rw [if_pos (by simpa using c)] at h; cases h
  rw [if_neg (by simpa using h1)] at h
  have h2 : ¬ ((x.fields.take k).any fun y => sEq y.name f.name) = true := fun c => by rw [if_pos c] at h; cases h
  rw [if_neg h2] at h
  have h3 : within f.kind 0 7 = true := by
    by_cases c : within f.kind 0 7 = true
    · exact c
    · rw [if_pos (by simpa using c)] at h; cases h
  rw [if_neg (by simpa using h3)] at h
  have h4 : ¬ fieldForm x f = true := fun c => by rw [if_pos c] at h; cases h
  rw [if_neg h4] at h
  have h5 : ¬ fieldRange f = true := fun c => by rw [if_pos c] at h; cases h
  rw [if_neg h5] at h
  have h6 : ¬ (f.signed && f.purpose != 0) = true := fun c => by rw [if_pos c] at h; cases h
  rw [if_neg h6] at h
  have h7 : ¬ ((usedOf f).any fun n => !within n 0 ((i : Int) - 1)) = true := fun c => by rw [if_pos c] at h; cases h
  rw [if_neg h7] at h
  have h8 : ¬ ((usedOf f).any fun n => lowAt l n != x.lowBits) = true := fun c => by rw [if_pos c] at h; cases h
  rw [if_neg h8] at h
  have h9 : ¬ (f.kind = 7 ∧ choicesErr f.choices ≠ 0) := fun c => by rw [if_pos c] at h; exact c.2 h
  refine ⟨?_, by simpa using h4, by simpa using h5, fun n hn => ?_, fun h7 hc => ?_⟩
  · simp only [within, Bool.and_eq_true, decide_eq_true_eq] at h3
    exact h3
  · have h7' : ((usedOf f).any fun n => !within n 0 ((i : Int) - 1)) = false := by simpa using h7
    have := List.any_eq_false.1 h7' n hn
    have : within n 0 ((i : Int) - 1) = true := by simpa using this
    simp only [within, Bool.and_eq_true, decide_eq_true_eq] at this
    omega
  · refine h9 ⟨h7, ?_⟩
    rw [hc]
    decide
def mostW : Int := 1099511627776
/-- How many bits a field has, as the reference says it. -/
def fieldW (f : Fd) (ws : List Int) : Int :=
  if f.kind = 0 ∨ f.kind = 4 then f.width else if f.kind = 5 then intAt ws f.of else if f.kind = 7 then
    (match f.choices with
    | [] => 0
    | c :: r => if r.any (fun d => intAt ws d.of != intAt ws c.of) then -1 else intAt ws c.of)
  else if f.width = 0 then -1 else if f.kind = 1 then f.width else if f.kind ≠ 6 then 8 * f.width else if intAt ws f.of = -1 then -1 else min (intAt ws f.of * f.width) mostW
def sumW (ws : List Int) : List Fd → Int → Int
  | [], n => n
  | f :: r, n => sumW ws r (if fieldW f ws = -1 ∨ n = -1 then -1 else min (n + fieldW f ws) mostW)
def widthsT : List Ly → List Int → List Int
  | [], ws => ws
  | x :: r, ws => widthsT r (ws ++ [sumW ws x.fields 0])
/-- The same, as the program says it. -/
def rawW (f : Fd) (ws : List Int) : Int :=
  if f.kind = 0 ∨ f.kind = 1 ∨ f.kind = 4 then f.width else if f.kind = 2 ∨ f.kind = 3 then 8 * f.width else if f.kind = 5 then intAt ws f.of else
  if f.kind = 6 then (if 0 ≤ intAt ws f.of then intAt ws f.of * f.width else intAt ws f.of) else if f.kind = 7 then
    (match f.choices with
    | [] => 0
    | c :: r => if (c :: r).any (fun d => intAt ws d.of != intAt ws c.of) then -1 else intAt ws c.of) else 0
def rawSum (ws : List Int) : List Fd → Int → Int
  | [], s => s
  | f :: r, s => if rawW f ws < 0 ∨ (isSized f = true ∧ f.kind ≠ 7) then -1 else rawSum ws r (min (s + rawW f ws) mostW)
theorem sumW_none (ws : List Int) : ∀ fs, sumW ws fs (-1) = -1
  | [] => rfl
  | f :: r => by
    unfold sumW
    rw [if_pos (.inr rfl)]
    exact sumW_none ws r
/-- Widths that may be. -/
def WOk (ws : List Int) : Prop := ∀ n ∈ ws, -1 ≤ n ∧ n ≤ mostW
theorem intAt_ok {ws : List Int} (h : WOk ws) (n : Int) : -1 ≤ intAt ws n ∧ intAt ws n ≤ mostW := by
  unfold intAt
  cases e : ws[n.toNat]? with
  | none => simp only; exact ⟨by decide, by decide⟩
  | some a => exact h a (List.mem_of_getElem? e)
end Go.Proofs.YtgnnakibcjonbaaGreatDoor.VE

/- Chapter 16: CheckLayouts. -/
namespace Go.Proofs.YtgnnakibcjonbaaGreatDoor.VE
open Go Go.RowKit
set_option maxRecDepth 100000
set_option linter.unusedSimpArgs false
set_option linter.unusedVariables false
/-- Tables that are small enough to be looked at. -/
def Small (l : List Ly) : Prop := ∀ x ∈ l, x.fields.length ≤ 1000 ∧ ∀ f ∈ x.fields, f.choices.length ≤ 1000
theorem idx_none {α : Type} {p : α → Bool} {xs : List α} : idxOf p xs 0 = -1 ↔ xs.any p = false := by
  have ha := idxOf_any (p := p) (xs := xs) (k := 0) (Int.le_refl _)
  rcases idxOf_ge (p := p) (xs := xs) (k := 0) with h | ⟨h, _⟩
  · rw [h] at ha ⊢; simp [← ha]
  · rw [← ha]; simp; omega
theorem headErr_at {l : List Ly} {i : Nat} {x : Ly} (hx : l[i]? = some x) : headErr l (i : Int) = if isNm x.name then (if (l.take i).any (fun y => sEq y.name x.name) then 12 else (if 16 < x.fields.length then 2 else 0)) else 7 := by
  unfold headErr
  rw [Int.toNat_natCast, hx]
  dsimp only
  rw [names_eq]
  cases c : isNm x.name with
  | false => rfl
  | true =>
    rw [if_pos rfl, if_pos rfl]
    cases h : (l.take i).any (fun y => sEq y.name x.name) with
    | false => rw [if_pos (idx_none.2 h)]; rfl
    | true => rw [if_neg (fun c => by rw [idx_none.1 c] at h; cases h)]; rfl
theorem tab_head {l : List Ly} {i : Nat} (hi : i < l.length) (h : headErr l i ≠ 0) : tabErr l (l.length - i) i = (i, 0, headErr l i) := by
  obtain ⟨c, hc⟩ : ∃ c, l.length - i = c + 1 := ⟨l.length - i - 1, by omega⟩
  rw [hc, tabErr, layErr, if_neg h]
theorem tab_lay {l : List Ly} {i : Nat} {x : Ly} (hx : l[i]? = some x) (h : headErr l i = 0) : tabErr l (l.length - i) i = match firstErr (fun k => fieldErr l i k) x.fields.length 0 with
    | some (k, e) => (i, k, e)
    | none => tabErr l (l.length - (i + 1)) (i + 1) := by
  have hi := (List.getElem?_eq_some_iff.1 hx).1
  obtain ⟨c, hc⟩ : ∃ c, l.length - i = c + 1 := ⟨l.length - i - 1, by omega⟩
  rw [hc, tabErr, layErr, if_pos h, hx, show l.length - (i + 1) = c by omega]
  all_goals rfl
theorem firstErr_step {f : Nat → Int} {n k : Nat} (hk : k < n) : firstErr f (n - k) k = if f k = 0 then firstErr f (n - (k + 1)) (k + 1) else some (k, f k) := by
  obtain ⟨c, hc⟩ : ∃ c, n - k = c + 1 := ⟨n - k - 1, by omega⟩
  rw [hc, firstErr, show n - (k + 1) = c by omega]
theorem t25 (l : List Ly) : PureOk Tryz.prog 25 [.d (.sl 3 (l.map encLy))] (Small l) (.tup [.d (.int .i64 (checkT l).1), .d (.int .i64 (checkT l).2.1), .d (.int .i64 (checkT l).2.2)]) := by
  refine pure_fn (C := fun gm => ⟨T, gam [E63, E64_65, E66], dam [], plT [], ⟨gm, fun _ _ => none⟩⟩) (fun _ => tok) (fun gm => cok T _ _ _ gm) mixed Tryz.func25 rfl (Nat.le_of_ble_eq_true rfl) rfl (fun _ => rfl) (fun _ => by kernel_rfl) fun gm hp => ?_
  unfold Tryz.f25
  simp only [go_sem, ↓reduceIte, Nat.reduceEqDiff, reduceCtorEq, Nat.reduceAdd, Nat.reduceLeDiff, Nat.reduceSub, Nat.reduceMul, Nat.reduceMod, Nat.reduceLT, asD, asD1, cellDs, cellD, V.scal, D.scal, ← List.map_take, ← List.map_drop, List.drop_zero, List.map_cons, List.map_nil]
  refine ⟨fun h => ?_, fun h => ?_⟩
  · have h := of_decide_eq_true h
    have e : checkT l = (0, 0, 2) := by unfold checkT; rw [if_pos (by omega)]
    rw [e]
    exact ⟨rfl, rfl, rfl⟩
  have h := of_decide_eq_false h
  have e : checkT l = tabErr l l.length 0 := by unfold checkT; rw [if_neg (by omega)]
  refine loop_objs [6] (by simp) (fun _ : Nat => osL []) (fun i => [(0, .d (.sl 3 (l.map encLy))), (12, .d (.sl 3 (l.map encLy))), (13, .d (.int .i64 l.length)), (14, .d (.int .i64 (i : Int)))]) (fun i => i ≤ l.length ∧ checkT l = tabErr l (l.length - i) i) (fun i => l.length - i) 0 ⟨Nat.zero_le _, e⟩ ?_ fun i hi => ?_
  · simp only [go_sem, ↓reduceIte, Nat.reduceEqDiff, reduceCtorEq, Nat.reduceAdd, Nat.reduceLeDiff, Nat.reduceSub, Nat.reduceMul, Nat.reduceMod, Nat.reduceLT, asD, asD1, cellDs, cellD, V.scal, D.scal, ← List.map_take, ← List.map_drop, List.drop_zero, List.map_cons, List.map_nil, idxV, encLy, List.length_map, List.drop, Int.toNat_natCast]
    exact ⟨rfl, by funext o; simp [osL]⟩
  · obtain ⟨hi1, hi2⟩ := hi
    simp only [go_sem, ↓reduceIte, Nat.reduceEqDiff, reduceCtorEq, Nat.reduceAdd, Nat.reduceLeDiff, Nat.reduceSub, Nat.reduceMul, Nat.reduceMod, Nat.reduceLT, asD, asD1, cellDs, cellD, V.scal, D.scal, ← List.map_take, ← List.map_drop, List.drop_zero, List.map_cons, List.map_nil, idxV, encLy, List.length_map, List.drop, Int.toNat_natCast]
    refine ⟨fun hlt => ⟨⟨by omega, of_decide_eq_true hlt⟩, fun x hx => ?_⟩, fun hge => ?_⟩
    · have hlt := of_decide_eq_true hlt
      have hlt : i < l.length := by omega
      have hh := headErr_at hx
      have bad : headErr l i ≠ 0 → checkT l = (i, 0, headErr l i) := fun c => by rw [hi2, tab_head hlt c]
      refine ⟨fun h1 => ?_, fun h1 => ⟨⟨by omega, by omega, by omega⟩, fun h2 => ?_, fun h2 => ⟨fun h3 => ?_, fun h3 => ?_⟩⟩⟩
      · rw [if_neg (by simpa using h1)] at hh
        rw [bad (by rw [hh]; decide), hh]
        exact ⟨rfl, rfl, rfl⟩
      · rw [if_pos (by simpa using h1), if_pos h2] at hh
        rw [bad (by rw [hh]; decide), hh]
        exact ⟨rfl, rfl, rfl⟩
      · have h3 := of_decide_eq_true h3
        rw [if_pos (by simpa using h1), if_neg (by rw [h2]; simp), if_pos (by omega)] at hh
        rw [bad (by rw [hh]; decide), hh]
        exact ⟨rfl, rfl, rfl⟩
      · have h3 := of_decide_eq_false h3
        rw [if_pos (by simpa using h1), if_neg (by rw [h2]; simp), if_neg (by omega)] at hh
        rw [tab_lay hx hh] at hi2
        obtain ⟨s1, s2⟩ := hp x (List.mem_of_getElem? hx)
        refine loop_objs [] (by simp) (fun _ : Nat => osL [(6, .box [.d (.str x.name), .d (.sl 9 (x.fields.map encFd)), .d (.bool x.lowBits)] 37)]) (fun k => [(0, .d (.sl 3 (l.map encLy))), (5, .d (.int .i64 (i : Int))), (12, .d (.sl 3 (l.map encLy))), (13, .d (.int .i64 l.length)), (14, .d (.int .i64 (i : Int))), (40, .d (.int .i64 x.fields.length)), (41, .d (.int .i64 (k : Int)))]) (fun k => k ≤ x.fields.length ∧ firstErr (fun k => fieldErr l i k) x.fields.length 0 = firstErr (fun k => fieldErr l i k) (x.fields.length - k) k) (fun k => x.fields.length - k) 0 ⟨Nat.zero_le _, rfl⟩ ?_ fun k hk => ?_
        · simp only [go_sem, ↓reduceIte, Nat.reduceEqDiff, reduceCtorEq, Nat.reduceAdd, Nat.reduceLeDiff, Nat.reduceSub, Nat.reduceMul, Nat.reduceMod, Nat.reduceLT, asD, asD1, cellDs, cellD, V.scal, D.scal, ← List.map_take, ← List.map_drop, List.drop_zero, List.map_cons, List.map_nil, idxV, encLy, List.length_map, List.drop, Int.toNat_natCast]
          exact ⟨rfl, by funext o; by_cases h6 : o = 6 <;> simp [osL, upd, h6]⟩
        · obtain ⟨hk1, hk2⟩ := hk
          simp only [go_sem, ↓reduceIte, Nat.reduceEqDiff, reduceCtorEq, Nat.reduceAdd, Nat.reduceLeDiff, Nat.reduceSub, Nat.reduceMul, Nat.reduceMod, Nat.reduceLT, asD, asD1, cellDs, cellD, V.scal, D.scal, ← List.map_take, ← List.map_drop, List.drop_zero, List.map_cons, List.map_nil, idxV, encLy, List.length_map, List.drop, Int.toNat_natCast]
          refine ⟨fun hkl => ?_, fun hkg => ?_⟩
          · have hkl := of_decide_eq_true hkl
            have hkl : k < x.fields.length := by omega
            rw [firstErr_step hkl] at hk2
            refine ⟨⟨by omega, by omega, by omega, fun x' hx' => ?_⟩, fun h4 => ?_, fun h4 => ?_⟩
            · obtain rfl := Option.some.inj (hx.symm.trans hx')
              exact ⟨by omega, by omega, s1, fun f hf => s2 f (List.mem_of_getElem? hf)⟩
            · have h4 : fieldErr l i k ≠ 0 := by simpa using h4
              rw [if_neg h4] at hk2
              rw [hk2] at hi2
              rw [hi2]
              exact ⟨rfl, rfl, rfl⟩
            · have h4 : fieldErr l i k = 0 := by simpa using h4
              rw [if_pos h4] at hk2
              exact ⟨k + 1, ⟨hkl, hk2⟩, by omega, by rw [wrap_small _ (by omega) (by omega)]; rfl⟩
          · have hkg := of_decide_eq_false hkg
            obtain rfl : k = x.fields.length := by omega
            rw [Nat.sub_self] at hk2
            rw [hk2] at hi2
            exact ⟨i + 1, ⟨hlt, hi2⟩, by omega, by rw [wrap_small _ (by omega) (by omega)]; rfl, by funext o; by_cases h6 : o = 6 <;> simp [osL, h6]⟩
    · have hge := of_decide_eq_false hge
      obtain rfl : i = l.length := by omega
      rw [hi2, Nat.sub_self]
      exact ⟨rfl, rfl, rfl⟩
noncomputable def E25 : Ent Tryz.prog := Ent.of 25 (fnOk Tryz.func25 rfl (by kernel_rfl)) (fun
    | [.d (.sl 3 l)] => (dec encLy l).bind fun l => some (Small l, .tup [.d (.int .i64 (checkT l).1), .d (.int .i64 (checkT l).2.1), .d (.int .i64 (checkT l).2.2)])
    | _ => none) fun args p r h => by
    split at h
    · obtain ⟨_, hd0, h0⟩ := Option.bind_eq_some_iff.1 h; clear h; have hd0 := dec_some hd0; subst hd0
      cases h0; exact t25 _
    · cases h
@[go_sem] theorem E25_f : E25.f = 25 := rfl
@[go_sem] theorem E25_c (l : List (List D)) : E25.c [.d (.sl 3 l)] = (dec encLy l).bind fun l => some (Small l, .tup [.d (.int .i64 (checkT l).1), .d (.int .i64 (checkT l).2.1), .d (.int .i64 (checkT l).2.2)]) := rfl
end Go.Proofs.YtgnnakibcjonbaaGreatDoor.VE

/- Chapter 16: place. -/
namespace Go.Proofs.YtgnnakibcjonbaaGreatDoor.VE
open Go Go.RowKit
set_option maxRecDepth 100000
set_option linter.unusedSimpArgs false
set_option linter.unusedVariables false

theorem t97 (x : Ly) (name : ByteArray) : PureOk Tryz.prog 97 [.agg [.d (.str x.name), .d (.sl 9 (x.fields.map encFd)), .d (.bool x.lowBits)], .dptr [.str name]] (True) (.d (.bool (sEq x.name name))) := by
  refine pure_fn (C := fun gm => ⟨T, gam [], dam [], plT [], ⟨gm, fun _ _ => none⟩⟩) (fun _ => tok) (fun gm => cok T _ _ _ gm) mixed Tryz.func97 rfl (Nat.le_of_ble_eq_true rfl) rfl (fun _ => rfl) (fun _ => by kernel_rfl) fun gm hp => ?_
  unfold Tryz.f97
  simp only [go_sem, ↓reduceIte, Nat.reduceEqDiff, reduceCtorEq, Nat.reduceAdd, Nat.reduceLeDiff, Nat.reduceSub, Nat.reduceMul, Nat.reduceMod, Nat.reduceLT]
  skip
noncomputable def E97 : Ent Tryz.prog := Ent.of 97 (fnOk Tryz.func97 rfl (by kernel_rfl)) (fun
    | [.agg [.d (.str x_name), .d (.sl 9 x_fields), .d (.bool x_lowBits)], .dptr [.str name]] => (dec encFd x_fields).bind fun x_fields => some (True, .d (.bool (sEq (Ly.mk x_name x_fields x_lowBits).name name)))
    | _ => none) fun args p r h => by
    split at h
    · obtain ⟨_, hd0, h0⟩ := Option.bind_eq_some_iff.1 h; clear h; have hd0 := dec_some hd0; subst hd0
      cases h0; exact t97 (Ly.mk _ _ _) _
    · cases h
@[go_sem] theorem E97_f : E97.f = 97 := rfl
@[go_sem] theorem E97_c (x_name : ByteArray) (x_fields : List (List D)) (x_lowBits : Bool) (name : ByteArray) : E97.c [.agg [.d (.str x_name), .d (.sl 9 x_fields), .d (.bool x_lowBits)], .dptr [.str name]] = (dec encFd x_fields).bind fun x_fields => some (True, .d (.bool (sEq (Ly.mk x_name x_fields x_lowBits).name name))) := rfl
noncomputable def E96_97 : Ent Tryz.prog := Ent.of 96 (fnOk Tryz.func96 rfl (by kernel_rfl)) (fun
    | [.d (.sl 3 xs), .fnc 97 [.dptr [.str name]]] => (dec encLy xs).bind fun xs => some (True, .d (.int .i64 (idxOf (fun x => sEq x.name name) xs 0)))
    | _ => none) fun args p r h => by
    split at h
    · obtain ⟨_, hd0, h0⟩ := Option.bind_eq_some_iff.1 h; clear h; have hd0 := dec_some hd0; subst hd0
      cases h0; exact idxF96 _ 97 _ ⟨rfl, rfl, rfl, fnOk Tryz.func97 rfl (by kernel_rfl)⟩ _ (fun x => t97 x _) _
    · cases h
@[go_sem ↓] theorem E96_97_f : E96_97.f = 96 := rfl
@[go_sem ↓] theorem E96_97_c (xs : List (List D)) (name : ByteArray) : E96_97.c [.d (.sl 3 xs), .fnc 97 [.dptr [.str name]]] = (dec encLy xs).bind fun xs => some (True, .d (.int .i64 (idxOf (fun x => sEq x.name name) xs 0))) := rfl
/-- Where a layout with a name stands in a right table, and the error. -/
def placeT (l : List Ly) (name : ByteArray) : Int × Int := if (checkT l).2.2 = 0 then (if idxOf (fun x => sEq x.name name) l 0 < 0 then (0, 11) else (idxOf (fun x => sEq x.name name) l 0, 0)) else (0, (checkT l).2.2)
theorem t47 (l : List Ly) (name : ByteArray) : PureOk Tryz.prog 47 [.d (.sl 3 (l.map encLy)), .d (.str name)] (Small l) (.tup [.d (.int .i64 (placeT l name).1), .d (.int .i64 (placeT l name).2)]) := by
  refine pure_fn (C := fun gm => ⟨T, gam [E25, E96_97], dam [], plT [], ⟨gm, fun _ _ => none⟩⟩) (fun _ => tok) (fun gm => cok T _ _ _ gm) mixed Tryz.func47 rfl (Nat.le_of_ble_eq_true rfl) rfl (fun _ => rfl) (fun _ => by kernel_rfl) fun gm hp => ?_
  unfold Tryz.f47
  simp only [go_sem, ↓reduceIte, Nat.reduceEqDiff, reduceCtorEq, Nat.reduceAdd, Nat.reduceLeDiff, Nat.reduceSub, Nat.reduceMul, Nat.reduceMod, Nat.reduceLT, asD, asD1, cellDs, cellD, V.scal, D.scal, ← List.map_take, ← List.map_drop, List.drop_zero, List.map_cons, List.map_nil]
  refine ⟨hp, fun h => ?_, fun h => ⟨fun h2 => ?_, fun h2 => ?_⟩⟩
  · have e : placeT l name = (0, (checkT l).2.2) := by unfold placeT; rw [if_neg (by simpa using h)]
    rw [e]; exact ⟨rfl, rfl⟩
  · have e : placeT l name = (0, 11) := by unfold placeT; rw [if_pos (by simpa using h), if_pos (of_decide_eq_true h2)]
    rw [e]; exact ⟨rfl, rfl⟩
  · have e : placeT l name = (idxOf (fun x => sEq x.name name) l 0, 0) := by unfold placeT; rw [if_pos (by simpa using h), if_neg (of_decide_eq_false h2)]
    rw [e]; exact ⟨rfl, rfl⟩
noncomputable def E47 : Ent Tryz.prog := Ent.of 47 (fnOk Tryz.func47 rfl (by kernel_rfl)) (fun
    | [.d (.sl 3 l), .d (.str name)] => (dec encLy l).bind fun l => some (Small l, .tup [.d (.int .i64 (placeT l name).1), .d (.int .i64 (placeT l name).2)])
    | _ => none) fun args p r h => by
    split at h
    · obtain ⟨_, hd0, h0⟩ := Option.bind_eq_some_iff.1 h; clear h; have hd0 := dec_some hd0; subst hd0
      cases h0; exact t47 _ _
    · cases h
@[go_sem] theorem E47_f : E47.f = 47 := rfl
@[go_sem] theorem E47_c (l : List (List D)) (name : ByteArray) : E47.c [.d (.sl 3 l), .d (.str name)] = (dec encLy l).bind fun l => some (Small l, .tup [.d (.int .i64 (placeT l name).1), .d (.int .i64 (placeT l name).2)]) := rfl
end Go.Proofs.YtgnnakibcjonbaaGreatDoor.VE

/- Chapter 16: widthOf. -/
namespace Go.Proofs.YtgnnakibcjonbaaGreatDoor.VE
open Go Go.RowKit
set_option maxRecDepth 100000
set_option linter.unusedSimpArgs false
set_option linter.unusedVariables false
theorem rawW_ok {f : Fd} {ws : List Int} (hw : WOk ws) (w0 : 0 ≤ f.width) (w1 : f.width ≤ 200) : -1 ≤ rawW f ws ∧ rawW f ws ≤ mostW * 200 := by
  have hm : mostW = 1099511627776 := rfl
  unfold rawW
  split
  · omega
  split
  · omega
  split
  · have := intAt_ok hw f.of; omega
  split
  · have hb := intAt_ok hw f.of
    split
    · rename_i d
      have hm := Int.mul_le_mul hb.2 w1 w0 (by decide)
      have hm0 := Int.mul_nonneg d w0
      omega
    · omega
  split
  · split
    · omega
    · rename_i c r e
      have := intAt_ok hw c.of
      split <;> omega
  · omega
/-- What widthOf may be asked. -/
def WidthPre (x : Ly) (ws : List Int) : Prop := x.fields.length ≤ 1000 ∧ WOk ws ∧ ∀ f ∈ x.fields, (0 ≤ f.width ∧ f.width ≤ 200) ∧ (0 ≤ f.kind ∧ f.kind ≤ 7) ∧ (∀ n ∈ usedOf f, 0 ≤ n ∧ n < (ws.length : Int)) ∧ (f.kind = 7 → f.choices ≠ [])

theorem t67 (x : Ly) (ws : List Int) : PureOk Tryz.prog 67 [.agg [.d (.str x.name), .d (.sl 9 (x.fields.map encFd)), .d (.bool x.lowBits)], .d (.sl 1 (ws.map encI))] (WidthPre x ws) (.d (.int .i64 (rawSum ws x.fields 0))) := by
  refine pure_fnW (C := fun gm => ⟨T, gam [E122, E124_125], dam (P := Tryz.prog) [], plT pl67, ⟨gm, fun _ _ => none⟩⟩) (fun _ => tok) Tryz.func67 rfl (Nat.le_of_ble_eq_true rfl) rfl (fun m => rfl) fun gm hp => ?_
  obtain ⟨hl, hw, hf⟩ := hp
  unfold Tryz.f67
  refine W_pre tok (cok T _ _ _ gm) mixed (by kernel_rfl) ?_
  simp only [go_sem, ↓reduceIte, Nat.reduceEqDiff, reduceCtorEq, Nat.reduceAdd, Nat.reduceLeDiff, Nat.reduceSub, Nat.reduceMul, Nat.reduceMod, Nat.reduceLT, asD, asD1, cellDs, cellD, V.scal, D.scal, ← List.map_take, ← List.map_drop, List.drop_zero, List.map_cons, List.map_nil, pl67, idxV, encLy, List.length_map, List.drop, Int.toNat_natCast, thenQ]
  refine W_pre tok (cok T _ _ _ gm) mixed (by kernel_rfl) ?_
  simp only [go_sem, ↓reduceIte, Nat.reduceEqDiff, reduceCtorEq, Nat.reduceAdd, Nat.reduceLeDiff, Nat.reduceSub, Nat.reduceMul, Nat.reduceMod, Nat.reduceLT, asD, asD1, cellDs, cellD, V.scal, D.scal, ← List.map_take, ← List.map_drop, List.drop_zero, List.map_cons, List.map_nil, pl67, idxV, encLy, List.length_map, List.drop, Int.toNat_natCast, thenQ]
  refine W_seq (K := fun s => s.env 5 = .d (.int .i64 (rawSum ws x.fields 0))) ?_ fun s hs => ?_
  · refine W_pre tok (cok T _ _ _ gm) mixed (by kernel_rfl) ?_
    simp only [go_sem, ↓reduceIte, Nat.reduceEqDiff, reduceCtorEq, Nat.reduceAdd, Nat.reduceLeDiff, Nat.reduceSub, Nat.reduceMul, Nat.reduceMod, Nat.reduceLT, asD, asD1, cellDs, cellD, V.scal, D.scal, ← List.map_take, ← List.map_drop, List.drop_zero, List.map_cons, List.map_nil, pl67, idxV, encLy, List.length_map, List.drop, Int.toNat_natCast, thenQ]
    refine W_block ?_
    refine W_loop [7, 8] (by simp) (fun _ : Nat × Int => osL [(2, .box [.d (.str x.name), .d (.sl 9 (x.fields.map encFd)), .d (.bool x.lowBits)] 37), (3, .box [.d (.sl 1 (ws.map encI))] 53)]) (fun p => [(2, .ptr 2 0), (3, .ptr 3 0), (5, .d (.int .i64 p.2)), (10, .d (.sl 9 (x.fields.map encFd))), (11, .d (.int .i64 x.fields.length)), (12, .d (.int .i64 (p.1 : Int)))]) (fun p => p.1 ≤ x.fields.length ∧ (0 ≤ p.2 ∧ p.2 ≤ mostW) ∧ rawSum ws x.fields 0 = rawSum ws (x.fields.drop p.1) p.2) (fun p => x.fields.length - p.1) (0, 0) ⟨Nat.zero_le _, by decide, rfl⟩ ?_ ?_
    · simp only [go_sem, ↓reduceIte, Nat.reduceEqDiff, reduceCtorEq, Nat.reduceAdd, Nat.reduceLeDiff, Nat.reduceSub, Nat.reduceMul, Nat.reduceMod, Nat.reduceLT, asD, asD1, cellDs, cellD, V.scal, D.scal, ← List.map_take, ← List.map_drop, List.drop_zero, List.map_cons, List.map_nil, pl67, idxV, encLy, List.length_map, List.drop, Int.toNat_natCast, thenQ]
      exact ⟨rfl, (by funext o; by_cases h8 : o = 8 <;> by_cases h7 : o = 7 <;> by_cases h2 : o = 2 <;> by_cases h3 : o = 3 <;> simp [osL, upd, O.kill, V.kill, h8, h7, h2, h3])⟩
    · rintro ⟨i, sum⟩ ⟨h1, ⟨h2, h3⟩, h4⟩
      refine W_pre tok (cok T _ _ _ gm) mixed (by kernel_rfl) ?_
      simp only [go_sem, ↓reduceIte, Nat.reduceEqDiff, reduceCtorEq, Nat.reduceAdd, Nat.reduceLeDiff, Nat.reduceSub, Nat.reduceMul, Nat.reduceMod, Nat.reduceLT, asD, asD1, cellDs, cellD, V.scal, D.scal, ← List.map_take, ← List.map_drop, List.drop_zero, List.map_cons, List.map_nil, pl67, idxV, encLy, List.length_map, List.drop, Int.toNat_natCast, thenQ]
      refine W_pre tok (cok T _ _ _ gm) mixed (by kernel_rfl) ?_
      simp only [go_sem, ↓reduceIte, Nat.reduceEqDiff, reduceCtorEq, Nat.reduceAdd, Nat.reduceLeDiff, Nat.reduceSub, Nat.reduceMul, Nat.reduceMod, Nat.reduceLT, asD, asD1, cellDs, cellD, V.scal, D.scal, ← List.map_take, ← List.map_drop, List.drop_zero, List.map_cons, List.map_nil, pl67, idxV, encLy, List.length_map, List.drop, Int.toNat_natCast, thenQ]
      refine ⟨fun hlt => ?_, fun hge => ?_⟩
      · have hlt := of_decide_eq_true hlt
        have hlt : i < x.fields.length := by omega
        obtain ⟨f, hf0⟩ : ∃ f, x.fields[i]? = some f := ⟨_, List.getElem?_eq_getElem hlt⟩
        have hg : (x.fields.map encFd).getD i [] = encFd f := by rw [List.getD_eq_getElem?_getD, List.getElem?_map, hf0]; rfl
        obtain ⟨⟨w0, w1⟩, ⟨q0, q1⟩, hu, hc⟩ := hf f (List.mem_of_getElem? hf0)
        have hd : x.fields.drop i = f :: x.fields.drop (i + 1) := by
          obtain ⟨_, e⟩ := List.getElem?_eq_some_iff.1 hf0
          rw [List.drop_eq_getElem_cons hlt, e]
        rw [hd, rawSum] at h4
        refine W_seq (K := fun s => (¬ (rawW f ws < 0 ∨ (isSized f = true ∧ f.kind ≠ 7))) ∧ AtL (dropAll s [7, 8]).env [(2, .ptr 2 0), (3, .ptr 3 0), (5, .d (.int .i64 (min (sum + rawW f ws) mostW))), (10, .d (.sl 9 (x.fields.map encFd))), (11, .d (.int .i64 x.fields.length)), (12, .d (.int .i64 (i : Int)))] ∧ (dropAll s [7, 8]).os = osL [(2, .box [.d (.str x.name), .d (.sl 9 (x.fields.map encFd)), .d (.bool x.lowBits)] 37), (3, .box [.d (.sl 1 (ws.map encI))] 53)]) ?_ fun s hs => W_le (Le_drop (by simp) hs.2) ?_
        · refine W_block ?_
          refine W_pre tok (cok T _ _ _ gm) mixed (by kernel_rfl) ?_
          simp only [go_sem, ↓reduceIte, Nat.reduceEqDiff, reduceCtorEq, Nat.reduceAdd, Nat.reduceLeDiff, Nat.reduceSub, Nat.reduceMul, Nat.reduceMod, Nat.reduceLT, asD, asD1, cellDs, cellD, V.scal, D.scal, ← List.map_take, ← List.map_drop, List.drop_zero, List.map_cons, List.map_nil, pl67, idxV, hg, encFd, encI, encLy, List.length_map, List.drop, Int.toNat_natCast, thenQ]
          refine ⟨⟨by omega, by omega⟩, fun a ha => ?_⟩
          obtain rfl := Option.some.inj (hf0.symm.trans ha)
          refine W_pre tok (cok T _ _ _ gm) mixed (by kernel_rfl) ?_
          simp only [go_sem, ↓reduceIte, Nat.reduceEqDiff, reduceCtorEq, Nat.reduceAdd, Nat.reduceLeDiff, Nat.reduceSub, Nat.reduceMul, Nat.reduceMod, Nat.reduceLT, asD, asD1, cellDs, cellD, V.scal, D.scal, ← List.map_take, ← List.map_drop, List.drop_zero, List.map_cons, List.map_nil, pl67, idxV, hg, encFd, encI, encLy, List.length_map, List.drop, Int.toNat_natCast, thenQ]
          refine W_st (l := [(2, .ptr 2 0), (3, .ptr 3 0), (5, .d (.int .i64 sum)), (7, .ptr 7 0), (8, .ptr 8 0), (10, .d (.sl 9 (x.fields.map encFd))), (11, .d (.int .i64 x.fields.length)), (12, .d (.int .i64 (i : Int)))]) (os' := osL [(2, .box [.d (.str x.name), .d (.sl 9 (x.fields.map encFd)), .d (.bool x.lowBits)] 37), (3, .box [.d (.sl 1 (ws.map encI))] 53), (7, .box ((encFd f).map .d) 49), (8, .box [.d (.int .i64 0)] 3)]) ⟨rfl, rfl, rfl, rfl, rfl, rfl, rfl, rfl, trivial⟩ (by funext o; by_cases h8 : o = 8 <;> by_cases h7 : o = 7 <;> by_cases h2 : o = 2 <;> by_cases h3 : o = 3 <;> simp [osL, upd, encFd, h8, h7, h2, h3]) ?_
          have ho : ∀ v : Int, v = rawW f ws → upd (osL [(2, .box [.d (.str x.name), .d (.sl 9 (x.fields.map encFd)), .d (.bool x.lowBits)] 37), (3, .box [.d (.sl 1 (ws.map encI))] 53), (7, .box ((encFd f).map .d) 49), (8, .box [.d (.int .i64 0)] 3)]) 8 (some (.box [.d (.int .i64 v)] 3)) = osL [(2, .box [.d (.str x.name), .d (.sl 9 (x.fields.map encFd)), .d (.bool x.lowBits)] 37), (3, .box [.d (.sl 1 (ws.map encI))] 53), (7, .box ((encFd f).map .d) 49), (8, .box [.d (.int .i64 (rawW f ws))] 3)] := fun v e => by
            subst e
            funext o
            by_cases h8 : o = 8 <;> simp [osL, upd, h8]
          have ho2 : ∀ (u : Option O) (v : Int), v = rawW f ws → upd (upd (osL [(2, .box [.d (.str x.name), .d (.sl 9 (x.fields.map encFd)), .d (.bool x.lowBits)] 37), (3, .box [.d (.sl 1 (ws.map encI))] 53), (7, .box ((encFd f).map .d) 49), (8, .box [.d (.int .i64 0)] 3)]) 8 u) 8 (some (.box [.d (.int .i64 v)] 3)) = osL [(2, .box [.d (.str x.name), .d (.sl 9 (x.fields.map encFd)), .d (.bool x.lowBits)] 37), (3, .box [.d (.sl 1 (ws.map encI))] 53), (7, .box ((encFd f).map .d) 49), (8, .box [.d (.int .i64 (rawW f ws))] 3)] := fun u v e => by
            subst e
            funext o
            by_cases h8 : o = 8 <;> simp [osL, upd, h8]
          simp only [encFd, List.map_cons, List.map_nil] at ho ho2
          have h56 : f.kind = 5 ∨ f.kind = 6 → 0 ≤ f.of ∧ f.of < (ws.length : Int) := fun h => hu f.of (by unfold usedOf; rw [if_pos h]; simp)
          have h7 : f.kind = 7 → ∀ c ∈ f.choices, 0 ≤ c.of ∧ c.of < (ws.length : Int) := fun h c hc => hu c.of (by unfold usedOf; rw [if_neg (by omega), if_pos h]; exact List.mem_map_of_mem hc)
          have hk : f.kind = 0 ∨ f.kind = 1 ∨ f.kind = 2 ∨ f.kind = 3 ∨ f.kind = 4 ∨ f.kind = 5 ∨ f.kind = 6 ∨ f.kind = 7 := by omega
          refine W_meet (α := Unit) (fun _ => osL [(2, .box [.d (.str x.name), .d (.sl 9 (x.fields.map encFd)), .d (.bool x.lowBits)] 37), (3, .box [.d (.sl 1 (ws.map encI))] 53), (7, .box ((encFd f).map .d) 49), (8, .box [.d (.int .i64 (rawW f ws))] 3)]) (fun _ => [(2, .ptr 2 0), (3, .ptr 3 0), (5, .d (.int .i64 sum)), (7, .ptr 7 0), (8, .ptr 8 0), (10, .d (.sl 9 (x.fields.map encFd))), (11, .d (.int .i64 x.fields.length)), (12, .d (.int .i64 (i : Int)))]) (fun _ => True) tok (cok T _ _ _ gm) mixed (by kernel_rfl) ?_ fun hc z _ => ?_
          · by_cases hk7 : f.kind = 7
            · obtain ⟨c0, r, hch⟩ : ∃ c0 r, f.choices = c0 :: r := by
                cases e : f.choices with
                | nil => exact absurd e (hc hk7)
                | cons c0 r => exact ⟨c0, r, rfl⟩
              obtain ⟨z0, z1⟩ := h7 hk7 c0 (by rw [hch]; simp)
              obtain ⟨v, hv⟩ : ∃ v, ws[c0.of.toNat]? = some v := ⟨_, List.getElem?_eq_getElem (by omega)⟩
              have hgc : (f.choices.map encCh).getD (Int.toNat 0) [] = encCh c0 := by rw [hch]; rfl
              have hgw : (ws.map encI).getD c0.of.toNat [] = encI v := by rw [List.getD_eq_getElem?_getD, List.getElem?_map, hv]; rfl
              simp only [hk7] at ho ho2
              simp only [go_sem, ↓reduceIte, Nat.reduceEqDiff, reduceCtorEq, Nat.reduceAdd, Nat.reduceLeDiff, Nat.reduceSub, Nat.reduceMul, Nat.reduceMod, Nat.reduceLT, asD, asD1, cellDs, cellD, V.scal, D.scal, ← List.map_take, ← List.map_drop, List.drop_zero, List.map_cons, List.map_nil, pl67, hk7, hgc, hgw, encCh, beq_self_eq_true, Int.reduceBEq, idxV, hg, encFd, encI, encLy, List.length_map, List.drop, Int.toNat_natCast, thenQ]
              generalize osL [_, _, _, (8, .box [.d (.int .i64 0)] 3)] = OSb at *
              generalize osL _ = OSr at *
              have hv' : intAt ws c0.of = v := by unfold intAt; rw [hv]
              have hr : rawW f ws = if (f.choices.any fun d => intAt ws d.of != v) = true then -1 else v := by
                unfold rawW
                rw [hch, if_neg (by omega), if_neg (by omega), if_neg (by omega), if_neg (by omega), if_pos hk7]
                dsimp only
                rw [hv']
              have hcl : 0 < f.choices.length := by rw [hch]; simp
              clear hf hl h4 hd hf0 hg
              repeat' (first | intro _ | apply And.intro)
              all_goals first
                | contradiction
                | omega
                | (rename_i c hc; exact (h7 hk7 c hc).1)
                | (rename_i c hc; exact (h7 hk7 c hc).2)
                | (rename_i e; exact ⟨(), ho2 _ _ (by rw [hr, if_pos e])⟩)
                | (rename_i e; exact ⟨(), ho _ (by rw [hr, if_neg (by rw [e]; simp)])⟩)
            · simp only [go_sem, ↓reduceIte, Nat.reduceEqDiff, reduceCtorEq, Nat.reduceAdd, Nat.reduceLeDiff, Nat.reduceSub, Nat.reduceMul, Nat.reduceMod, Nat.reduceLT, asD, asD1, cellDs, cellD, V.scal, D.scal, ← List.map_take, ← List.map_drop, List.drop_zero, List.map_cons, List.map_nil, pl67, idxV, hg, encFd, encI, encLy, List.length_map, List.drop, Int.toNat_natCast, thenQ]
              generalize osL [_, _, _, (8, .box [.d (.int .i64 0)] 3)] = OSb at *
              generalize osL _ = OSr at *
              clear hf hl h4 hd hf0 hg
              repeat' (first | intro _ | apply And.intro)
              all_goals simp only [beq_iff_eq, beq_eq_false_iff_ne, ne_eq] at *
              all_goals try omega
              all_goals first
                | exact ⟨(), ho _ (by unfold rawW; rw [if_pos (by omega)])⟩
                | exact ⟨(), ho _ (by unfold rawW; rw [if_neg (by omega), if_pos (by omega)]; exact wrap_small _ (by omega) (by omega))⟩
                | (rename ws[f.of.toNat]? = some _ => e; exact ⟨(), ho _ (by unfold rawW intAt; rw [if_neg (by omega), if_neg (by omega), if_pos (by omega), e])⟩)
                | (rename ws[f.of.toNat]? = some _ => e
                   rename decide (0 ≤ _) = true => d
                   have hb := hw _ (List.mem_of_getElem? e)
                   have d := of_decide_eq_true d
                   have hm := Int.mul_le_mul hb.2 w1 w0 (by decide)
                   have hm0 := Int.mul_nonneg d w0
                   exact ⟨(), ho2 _ _ (by unfold rawW intAt; rw [if_neg (by omega), if_neg (by omega), if_neg (by omega), if_pos (by omega), e]; dsimp only; rw [if_pos d]; exact wrap_small _ (by omega) (by unfold mostW at hm; omega))⟩)
                | (rename ws[f.of.toNat]? = some _ => e
                   rename decide (0 ≤ _) = false => d
                   exact ⟨(), ho _ (by unfold rawW intAt; rw [if_neg (by omega), if_neg (by omega), if_neg (by omega), if_pos (by omega), e]; dsimp only; rw [if_neg (of_decide_eq_false d)])⟩)
          · clear hc
            have hb := rawW_ok hw w0 w1
            have hm : mostW = 1099511627776 := rfl
            refine W_run tok (cok T _ _ _ gm) mixed (by kernel_rfl) ?_
            simp only [go_sem, ↓reduceIte, Nat.reduceEqDiff, reduceCtorEq, Nat.reduceAdd, Nat.reduceLeDiff, Nat.reduceSub, Nat.reduceMul, Nat.reduceMod, Nat.reduceLT, asD, asD1, cellDs, cellD, V.scal, D.scal, ← List.map_take, ← List.map_drop, List.drop_zero, List.map_cons, List.map_nil, pl67, idxV, hg, encFd, encI, encLy, List.length_map, List.drop, Int.toNat_natCast, thenQ]
            have hcond : (bif decide (rawW f ws < 0) then true else bif isSized f then f.kind != 7 else false) = decide (rawW f ws < 0 ∨ (isSized f = true ∧ f.kind ≠ 7)) := by
              by_cases d : rawW f ws < 0 <;> cases isSized f <;> by_cases e : f.kind = 7 <;> simp [d, e]
            have ws' : IntKind.i64.wrap (sum + rawW f ws) = sum + rawW f ws := wrap_small _ (by omega) (by omega)
            rw [hcond, ws']
            refine ⟨fun h => ⟨h, fun h2 => by rw [h, h2]; rfl⟩, fun h => by rw [h]; rfl, fun h => by rw [h4, if_pos (of_decide_eq_true h)], fun h => ⟨of_decide_eq_false h, ?_, (by funext o; by_cases h8 : o = 8 <;> by_cases h7 : o = 7 <;> by_cases h2 : o = 2 <;> by_cases h3 : o = 3 <;> simp [osL, upd, O.kill, V.kill, h8, h7, h2, h3])⟩⟩
            congr 2
            have hm : mostW = 1099511627776 := rfl
            rw [hm]
            split <;> omega
        · refine W_run tok (cok T _ _ _ gm) mixed (by kernel_rfl) ?_
          simp only [go_sem, ↓reduceIte, Nat.reduceEqDiff, reduceCtorEq, Nat.reduceAdd, Nat.reduceLeDiff, Nat.reduceSub, Nat.reduceMul, Nat.reduceMod, Nat.reduceLT, asD, asD1, cellDs, cellD, V.scal, D.scal, ← List.map_take, ← List.map_drop, List.drop_zero, List.map_cons, List.map_nil, pl67, idxV, encLy, List.length_map, List.drop, Int.toNat_natCast, thenQ]
          rw [if_neg hs.1] at h4
          have hb := rawW_ok hw w0 w1
          have hm : mostW = 1099511627776 := rfl
          refine ⟨(i + 1, min (sum + rawW f ws) mostW), ⟨hlt, ⟨by have := hs.1; simp only; omega, by simp only; omega⟩, h4⟩, by simp only; omega, ⟨rfl, by rw [wrap_small _ (by omega) (by omega)]; rfl⟩, (by funext o; by_cases h8 : o = 8 <;> by_cases h7 : o = 7 <;> by_cases h2 : o = 2 <;> by_cases h3 : o = 3 <;> simp [osL, upd, O.kill, V.kill, h8, h7, h2, h3])⟩
      · have hge := of_decide_eq_false hge
        obtain rfl : i = x.fields.length := by simp only at h1; omega
        rw [List.drop_length, rawSum] at h4
        rw [h4]
  · refine W_run tok (cok T _ _ _ gm) mixed (by kernel_rfl) ?_
    simp only [go_sem, ↓reduceIte, Nat.reduceEqDiff, reduceCtorEq, hs]
noncomputable def E67 : Ent Tryz.prog := Ent.of 67 (fnOk Tryz.func67 rfl (by kernel_rfl)) (fun
    | [.agg [.d (.str x_name), .d (.sl 9 x_fields), .d (.bool x_lowBits)], .d (.sl 1 ws)] => (dec encFd x_fields).bind fun x_fields => (dec encI ws).bind fun ws => some (WidthPre (Ly.mk x_name x_fields x_lowBits) ws, .d (.int .i64 (rawSum ws (Ly.mk x_name x_fields x_lowBits).fields 0)))
    | _ => none) fun args p r h => by
    split at h
    · obtain ⟨_, hd0, h0⟩ := Option.bind_eq_some_iff.1 h; clear h; have hd0 := dec_some hd0; subst hd0
      obtain ⟨_, hd1, h1⟩ := Option.bind_eq_some_iff.1 h0; clear h0; have hd1 := dec_some hd1; subst hd1
      cases h1; exact t67 (Ly.mk _ _ _) _
    · cases h
@[go_sem] theorem E67_f : E67.f = 67 := rfl
@[go_sem] theorem E67_c (x_name : ByteArray) (x_fields : List (List D)) (x_lowBits : Bool) (ws : List (List D)) : E67.c [.agg [.d (.str x_name), .d (.sl 9 x_fields), .d (.bool x_lowBits)], .d (.sl 1 ws)] = (dec encFd x_fields).bind fun x_fields => (dec encI ws).bind fun ws => some (WidthPre (Ly.mk x_name x_fields x_lowBits) ws, .d (.int .i64 (rawSum ws (Ly.mk x_name x_fields x_lowBits).fields 0))) := rfl
end Go.Proofs.YtgnnakibcjonbaaGreatDoor.VE

/- Chapter 16: WidthIn. -/
namespace Go.Proofs.YtgnnakibcjonbaaGreatDoor.VE
open Go Go.RowKit
set_option maxRecDepth 100000
set_option linter.unusedSimpArgs false
set_option linter.unusedVariables false
theorem rawSum_ok {ws : List Int} (hw : WOk ws) : ∀ (fs : List Fd), (∀ f ∈ fs, 0 ≤ f.width ∧ f.width ≤ 200) → ∀ s, 0 ≤ s → s ≤ mostW → -1 ≤ rawSum ws fs s ∧ rawSum ws fs s ≤ mostW
  | [], _, s, h0, h1 => by unfold rawSum; omega
  | f :: r, hf, s, h0, h1 => by
    have hb := rawW_ok hw (hf f (by simp)).1 (hf f (by simp)).2
    have hm : mostW = 1099511627776 := rfl
    unfold rawSum
    split
    · omega
    · rename_i c
      exact rawSum_ok hw r (fun g hg => hf g (by simp [hg])) _ (by omega) (by omega)
/-- The widths of a table's layouts, one by one. -/
def rawKnown (l : List Ly) (n : Nat) : Nat → List Int
  | 0 => List.replicate n 0
  | k + 1 => match l[k]? with
    | some x => (rawKnown l n k).set k (rawSum (rawKnown l n k) x.fields 0)
    | none => rawKnown l n k
theorem rawKnown_len (l : List Ly) (n : Nat) : ∀ k, (rawKnown l n k).length = n
  | 0 => by simp [rawKnown]
  | k + 1 => by
    have ih := rawKnown_len l n k
    unfold rawKnown
    split
    · rw [List.length_set, ih]
    · exact ih
theorem right_width {l : List Ly} (h : Right l) {k : Nat} {x : Ly} (hx : l[k]? = some x) : ∀ f ∈ x.fields, 0 ≤ f.width ∧ f.width ≤ 200 := fun f hf => by
  obtain ⟨j, hj⟩ := List.getElem?_of_mem hf
  obtain ⟨_, _, hr, _⟩ := right_field hx hj (h.field k x hx j f hj)
  unfold fieldRange at hr
  simp only [Bool.or_eq_false_iff, Bool.not_eq_false'] at hr
  have := hr.1.1
  simp only [within, Bool.and_eq_true, decide_eq_true_eq] at this
  unfold widths at this
  split at this
  · omega
  split at this
  · omega
  split at this
  · omega
  split at this
  · omega
  · omega
theorem WOk.set {ws : List Int} (hw : WOk ws) {k : Nat} {v : Int} (h0 : -1 ≤ v) (h1 : v ≤ mostW) : WOk (ws.set k v) := fun n hn => by
  rcases List.mem_or_eq_of_mem_set hn with h | h
  · exact hw n h
  · rw [h]; exact ⟨h0, h1⟩
theorem rawKnown_ok {l : List Ly} (h : Right l) (n : Nat) : ∀ k, WOk (rawKnown l n k)
  | 0 => fun m hm => by
    rw [rawKnown, List.mem_replicate] at hm
    rw [hm.2]
    decide
  | k + 1 => by
    have ih := rawKnown_ok h n k
    unfold rawKnown
    split
    · rename_i x hx
      have := rawSum_ok ih x.fields (right_width h hx) 0 (Int.le_refl _) (by decide)
      exact ih.set this.1 this.2
    · exact ih
theorem right_pre {l : List Ly} (h : Right l) {k : Nat} {x : Ly} (hx : l[k]? = some x) {ws : List Int} (hw : WOk ws) (hk : k < ws.length) : WidthPre x ws := by
  refine ⟨by have := h.fields k x hx; omega, hw, fun f hf => ?_⟩
  obtain ⟨j, hj⟩ := List.getElem?_of_mem hf
  obtain ⟨h1, _, _, h2, h3⟩ := right_field hx hj (h.field k x hx j f hj)
  exact ⟨right_width h hx f hf, h1, fun n hn => by have := h2 n hn; omega, h3⟩
theorem placeT_ok {l : List Ly} {name : ByteArray} (h : (placeT l name).2 = 0) : Right l ∧ 0 ≤ (placeT l name).1 ∧ (placeT l name).1 < (l.length : Int) ∧ (placeT l name).1 = idxOf (fun x => sEq x.name name) l 0 := by
  unfold placeT at h ⊢
  split at h
  · rename_i hc
    split at h
    · cases h
    · rename_i hi
      rw [if_pos hc, if_neg hi]
      rcases idxOf_ge (p := fun x : Ly => sEq x.name name) (xs := l) (k := 0) with g | ⟨g1, g2⟩
      · omega
      · exact ⟨right_of hc, by simpa using g1, by simpa using g2, rfl⟩
  · rename_i hc; exact absurd h hc
/-- What WidthIn says. -/
def widthInT (l : List Ly) (name : ByteArray) : Int × Int := if (placeT l name).2 = 0 then
    (if intAt (rawKnown l ((placeT l name).1.toNat + 1) ((placeT l name).1.toNat + 1)) (placeT l name).1 < 0 then (0, 23) else (intAt (rawKnown l ((placeT l name).1.toNat + 1) ((placeT l name).1.toNat + 1)) (placeT l name).1, 0))
  else (0, (placeT l name).2)
theorem t26 (l : List Ly) (name : ByteArray) : PureOk Tryz.prog 26 [.d (.sl 3 (l.map encLy)), .d (.str name)] (Small l) (.tup [.d (.int .i64 (widthInT l name).1), .d (.int .i64 (widthInT l name).2)]) := by
  refine pure_fnW (C := fun gm => ⟨T, gam [E47, E67], dam (P := Tryz.prog) [], plT [], ⟨gm, fun _ _ => none⟩⟩) (fun _ => tok) Tryz.func26 rfl (Nat.le_of_ble_eq_true rfl) rfl (fun m => rfl) fun gm hp => ?_
  unfold Tryz.f26
  refine W_pre tok (cok T _ _ _ gm) mixed (by kernel_rfl) ?_
  simp only [go_sem, ↓reduceIte, Nat.reduceEqDiff, reduceCtorEq, Nat.reduceAdd, Nat.reduceLeDiff, Nat.reduceSub, Nat.reduceMul, Nat.reduceMod, Nat.reduceLT, asD, asD1, cellDs, cellD, V.scal, D.scal, ← List.map_take, ← List.map_drop, List.drop_zero, List.map_cons, List.map_nil, idxV, encLy, List.length_map, List.drop, Int.toNat_natCast, thenQ]
  refine W_pre tok (cok T _ _ _ gm) mixed (by kernel_rfl) ?_
  simp only [go_sem, ↓reduceIte, Nat.reduceEqDiff, reduceCtorEq, Nat.reduceAdd, Nat.reduceLeDiff, Nat.reduceSub, Nat.reduceMul, Nat.reduceMod, Nat.reduceLT, asD, asD1, cellDs, cellD, V.scal, D.scal, ← List.map_take, ← List.map_drop, List.drop_zero, List.map_cons, List.map_nil, idxV, encLy, List.length_map, List.drop, Int.toNat_natCast, thenQ]
  refine ⟨hp, ?_⟩
  refine W_pre tok (cok T _ _ _ gm) mixed (by kernel_rfl) ?_
  simp only [go_sem, ↓reduceIte, Nat.reduceEqDiff, reduceCtorEq, Nat.reduceAdd, Nat.reduceLeDiff, Nat.reduceSub, Nat.reduceMul, Nat.reduceMod, Nat.reduceLT, asD, asD1, cellDs, cellD, V.scal, D.scal, ← List.map_take, ← List.map_drop, List.drop_zero, List.map_cons, List.map_nil, idxV, encLy, List.length_map, List.drop, Int.toNat_natCast, thenQ]
  refine ⟨fun h => ?_, fun h => ?_⟩
  · have e : widthInT l name = (0, (placeT l name).2) := by unfold widthInT; rw [if_neg (by simpa using h)]
    rw [e]; exact ⟨rfl, rfl⟩
  have h0 : (placeT l name).2 = 0 := by simpa using h
  obtain ⟨hr, p0, p1, _⟩ := placeT_ok h0
  have hl := hr.len
  obtain ⟨i, hi⟩ := Int.eq_ofNat_of_zero_le p0
  have eW : widthInT l name = if intAt (rawKnown l (i + 1) (i + 1)) (i : Int) < 0 then (0, 23) else (intAt (rawKnown l (i + 1) (i + 1)) (i : Int), 0) := by unfold widthInT; rw [if_pos h0, hi, Int.toNat_natCast]
  refine W_st (l := [(0, .d (.sl 3 (l.map encLy))), (6, .d (.int .i64 (i : Int)))]) (os' := osL []) ⟨rfl, by rw [← hi]; rfl, trivial⟩ (by funext o; rfl) ?_
  have wi : IntKind.i64.wrap ((i : Int) + 1) = ((i + 1 : Nat) : Int) := by rw [wrap_small _ (by omega) (by omega)]; rfl
  refine W_pre tok (cok T _ _ _ gm) mixed (by kernel_rfl) ?_
  simp only [go_sem, ↓reduceIte, Nat.reduceEqDiff, reduceCtorEq, Nat.reduceAdd, Nat.reduceLeDiff, Nat.reduceSub, Nat.reduceMul, Nat.reduceMod, Nat.reduceLT, asD, asD1, cellDs, cellD, V.scal, D.scal, ← List.map_take, ← List.map_drop, List.drop_zero, List.map_cons, List.map_nil, idxV, encLy, List.length_map, List.drop, Int.toNat_natCast, thenQ]
  rw [wi]
  refine ⟨⟨by omega, by omega, by omega, by omega⟩, ?_⟩
  refine W_seq (K := fun s => AtL s.env [(6, .d (.int .i64 (i : Int))), (8, .row 21)] ∧ s.os = osL [(21, .row ((rawKnown l (i + 1) (i + 1)).map encI) 1 3)]) ?_ fun s hs => W_st hs.1 hs.2 ?_
  · refine W_pre tok (cok T _ _ _ gm) mixed (by kernel_rfl) ?_
    simp only [go_sem, ↓reduceIte, Nat.reduceEqDiff, reduceCtorEq, Nat.reduceAdd, Nat.reduceLeDiff, Nat.reduceSub, Nat.reduceMul, Nat.reduceMod, Nat.reduceLT, asD, asD1, cellDs, cellD, V.scal, D.scal, ← List.map_take, ← List.map_drop, List.drop_zero, List.map_cons, List.map_nil, idxV, encLy, List.length_map, List.drop, Int.toNat_natCast, thenQ]
    refine W_block ?_
    refine W_run tok (cok T _ _ _ gm) mixed (by kernel_rfl) ?_
    refine loop_objs [] (by simp) (fun k : Nat => osL [(21, .row ((rawKnown l (i + 1) k).map encI) 1 3)]) (fun k => [(0, .d (.sl 3 (l.map encLy))), (6, .d (.int .i64 (i : Int))), (8, .row 21), (23, .d (.int .i64 ((i + 1 : Nat) : Int))), (24, .d (.int .i64 (k : Int)))]) (fun k => k ≤ i + 1) (fun k => i + 1 - k) 0 (Nat.zero_le _) ?_ fun k hk => ?_
    · simp only [go_sem, ↓reduceIte, Nat.reduceEqDiff, reduceCtorEq, Nat.reduceAdd, Nat.reduceLeDiff, Nat.reduceSub, Nat.reduceMul, Nat.reduceMod, Nat.reduceLT, asD, asD1, cellDs, cellD, V.scal, D.scal, ← List.map_take, ← List.map_drop, List.drop_zero, List.map_cons, List.map_nil, idxV, encLy, List.length_map, List.drop, Int.toNat_natCast, thenQ]
      refine ⟨⟨by rw [List.length_replicate], rfl⟩, ?_⟩
      funext o
      by_cases h21 : o = 21 <;> simp [osL, upd, h21, rawKnown, encI]
    · simp only [go_sem, ↓reduceIte, Nat.reduceEqDiff, reduceCtorEq, Nat.reduceAdd, Nat.reduceLeDiff, Nat.reduceSub, Nat.reduceMul, Nat.reduceMod, Nat.reduceLT, asD, asD1, cellDs, cellD, V.scal, D.scal, ← List.map_take, ← List.map_drop, List.drop_zero, List.map_cons, List.map_nil, idxV, encLy, List.length_map, List.drop, Int.toNat_natCast, thenQ]
      have hL := rawKnown_len l (i + 1) k
      refine ⟨fun hlt => ?_, fun hge => ?_⟩
      · have hlt := of_decide_eq_true hlt
        have hlt : k < i + 1 := by omega
        refine ⟨⟨by omega, by omega⟩, fun x hx => ⟨right_pre hr hx (rawKnown_ok hr (i + 1) k) (by omega), ⟨by omega, by omega⟩, by omega, k + 1, by omega, by omega, by rw [wrap_small _ (by omega) (by omega)]; rfl, ?_⟩⟩
        obtain ⟨v, hv⟩ : ∃ v, (rawKnown l (i + 1) k)[k]? = some v := ⟨_, List.getElem?_eq_getElem (by omega)⟩
        have hgv : ((rawKnown l (i + 1) k).map encI).getD k [] = encI v := by rw [List.getD_eq_getElem?_getD, List.getElem?_map, hv]; rfl
        have hk1 : rawKnown l (i + 1) (k + 1) = (rawKnown l (i + 1) k).set k (rawSum (rawKnown l (i + 1) k) x.fields 0) := by
          conv => lhs; unfold rawKnown
          rw [hx]
        rw [hgv, hk1, List.map_set]
        funext o
        by_cases h21 : o = 21 <;> simp [osL, upd, h21, encI]
      · have hge := of_decide_eq_false hge
        obtain rfl : k = i + 1 := by omega
        rfl
  · have hL := rawKnown_len l (i + 1) (i + 1)
    obtain ⟨v, hv⟩ : ∃ v, (rawKnown l (i + 1) (i + 1))[i]? = some v := ⟨_, List.getElem?_eq_getElem (by omega)⟩
    have hgv : ((rawKnown l (i + 1) (i + 1)).map encI).getD i [] = encI v := by rw [List.getD_eq_getElem?_getD, List.getElem?_map, hv]; rfl
    have hiv : intAt (rawKnown l (i + 1) (i + 1)) (i : Int) = v := by unfold intAt; rw [Int.toNat_natCast, hv]
    rw [hiv] at eW
    refine W_run tok (cok T _ _ _ gm) mixed (by kernel_rfl) ?_
    simp only [go_sem, ↓reduceIte, Nat.reduceEqDiff, reduceCtorEq, Nat.reduceAdd, Nat.reduceLeDiff, Nat.reduceSub, Nat.reduceMul, Nat.reduceMod, Nat.reduceLT, asD, asD1, cellDs, cellD, V.scal, D.scal, ← List.map_take, ← List.map_drop, List.drop_zero, List.map_cons, List.map_nil, idxV, hgv, encI, encLy, List.length_map, List.drop, Int.toNat_natCast, thenQ]
    refine ⟨⟨by omega, by omega⟩, by omega, fun h => ?_, fun h => ⟨⟨by omega, by omega⟩, by omega, ?_⟩⟩
    · rw [eW, if_pos (of_decide_eq_true h)]; exact ⟨rfl, rfl⟩
    · rw [eW, if_neg (of_decide_eq_false h)]; exact ⟨rfl, rfl⟩
noncomputable def E26 : Ent Tryz.prog := Ent.of 26 (fnOk Tryz.func26 rfl (by kernel_rfl)) (fun
    | [.d (.sl 3 l), .d (.str name)] => (dec encLy l).bind fun l => some (Small l, .tup [.d (.int .i64 (widthInT l name).1), .d (.int .i64 (widthInT l name).2)])
    | _ => none) fun args p r h => by
    split at h
    · obtain ⟨_, hd0, h0⟩ := Option.bind_eq_some_iff.1 h; clear h; have hd0 := dec_some hd0; subst hd0
      cases h0; exact t26 _ _
    · cases h
@[go_sem] theorem E26_f : E26.f = 26 := rfl
@[go_sem] theorem E26_c (l : List (List D)) (name : ByteArray) : E26.c [.d (.sl 3 l), .d (.str name)] = (dec encLy l).bind fun l => some (Small l, .tup [.d (.int .i64 (widthInT l name).1), .d (.int .i64 (widthInT l name).2)]) := rfl
end Go.Proofs.YtgnnakibcjonbaaGreatDoor.VE

/- Chapter 16: usedErr of the reference. -/
namespace Go.Proofs.YtgnnakibcjonbaaGreatDoor.VE
open Go Go.RowKit
set_option maxRecDepth 100000
set_option linter.unusedSimpArgs false
set_option linter.unusedVariables false
theorem any_step {α : Type} {p : α → Bool} {xs : List α} {n : Nat} {a : α} (h : (xs.take n).any p = false) (ha : xs[n]? = some a) (hp : p a = false) : (xs.take (n + 1)).any p = false := by
  rw [List.take_add_one, ha, List.any_append, h]
  simp [hp]
theorem any_hit {α : Type} {p : α → Bool} {xs : List α} {n : Nat} {a : α} (ha : xs[n]? = some a) (hp : p a = true) : xs.any p = true := List.any_eq_true.2 ⟨a, List.mem_of_getElem? ha, hp⟩

theorem t91 (l : List Ly) (i : Int) (f : Fd) : PureOk Tryz.prog 91 [.d (.sl 3 (l.map encLy)), .d (.int .i64 i), .agg [.d (.str f.name), .d (.int .i64 f.kind), .d (.int .i64 f.width), .d (.bool f.signed), .d (.bool f.lowFirst), .d (.int .i64 f.purpose), .d (.str f.for_), .d (.int .i64 f.of), .d (.sl 3 (f.choices.map encCh))]] (0 ≤ i ∧ i < l.length ∧ l.length ≤ 1000 ∧ f.choices.length ≤ 1000 ∧ (f.kind = 5 ∨ f.kind = 6 → f.choices = [])) (.d (.int .i64 (usedErr l i f))) := by
  refine pure_fnW (C := fun gm => ⟨T, gam [E88], dam (P := Tryz.prog) [], plT pl91, ⟨gm, fun _ _ => none⟩⟩) (fun _ => tok) Tryz.func91 rfl (Nat.le_of_ble_eq_true rfl) rfl (fun m => rfl) fun gm hp => ?_
  obtain ⟨i0, i1, l1, c1, hk⟩ := hp
  unfold Tryz.f91
  refine W_pre tok (cok T _ _ _ gm) mixed (by kernel_rfl) ?_
  simp only [go_sem, ↓reduceIte, Nat.reduceEqDiff, reduceCtorEq, Nat.reduceAdd, Nat.reduceLeDiff, Nat.reduceSub, Nat.reduceMul, Nat.reduceMod, Nat.reduceLT, asD, asD1, cellDs, cellD, V.scal, D.scal, ← List.map_take, ← List.map_drop, List.drop_zero, List.map_cons, List.map_nil, pl91, idxV, encLy, encFd, List.length_map, List.drop, Int.toNat_natCast, thenQ]
  refine W_pre tok (cok T _ _ _ gm) mixed (by kernel_rfl) ?_
  simp only [go_sem, ↓reduceIte, Nat.reduceEqDiff, reduceCtorEq, Nat.reduceAdd, Nat.reduceLeDiff, Nat.reduceSub, Nat.reduceMul, Nat.reduceMod, Nat.reduceLT, asD, asD1, cellDs, cellD, V.scal, D.scal, ← List.map_take, ← List.map_drop, List.drop_zero, List.map_cons, List.map_nil, pl91, idxV, encLy, encFd, List.length_map, List.drop, Int.toNat_natCast, thenQ]
  refine W_seq (K := fun s => (f.kind = 5 ∨ f.kind = 6 → Le s ⟨envL [(0, .d (.sl 3 (l.map encLy))), (1, .d (.int .i64 i)), (5, .ptr 5 0), (7, .row 23)], osL [(5, .box ((encFd f).map .d) 49), (23, .row [[.int .i64 f.of]] 1 3)]⟩) ∧ (¬ (f.kind = 5 ∨ f.kind = 6) → Le s ⟨envL [(0, .d (.sl 3 (l.map encLy))), (1, .d (.int .i64 i)), (5, .ptr 5 0), (7, .nil)], osL [(5, .box ((encFd f).map .d) 49)]⟩)) ?_ fun s hs1 => ?_
  · refine W_st (l := [(0, .d (.sl 3 (l.map encLy))), (1, .d (.int .i64 i)), (5, .ptr 5 0), (7, .nil)]) (os' := osL [(5, .box ((encFd f).map .d) 49)]) ⟨rfl, rfl, rfl, rfl, trivial⟩ (by funext o; by_cases h5 : o = 5 <;> simp [osL, upd, encFd, h5]) ?_
    refine W_run tok (cok T _ _ _ gm) mixed (by kernel_rfl) ?_
    simp only [go_sem, ↓reduceIte, Nat.reduceEqDiff, reduceCtorEq, Nat.reduceAdd, Nat.reduceLeDiff, Nat.reduceSub, Nat.reduceMul, Nat.reduceMod, Nat.reduceLT, asD, asD1, cellDs, cellD, V.scal, D.scal, ← List.map_take, ← List.map_drop, List.drop_zero, List.map_cons, List.map_nil, pl91, idxV, encLy, encFd, List.length_map, List.drop, Int.toNat_natCast, thenQ]
    have cb : (bif f.kind == 5 then true else f.kind == 6) = decide (f.kind = 5 ∨ f.kind = 6) := by by_cases a : f.kind = 5 <;> by_cases b : f.kind = 6 <;> simp [a, b]
    rw [cb]
    refine ⟨fun h => by rw [h]; rfl, fun h => ⟨fun _ => Le_st ⟨rfl, rfl, rfl, rfl, trivial⟩ (by funext o; by_cases h5 : o = 5 <;> by_cases h23 : o = 23 <;> by_cases h39 : o = 39 <;> simp [osL, upd, O.kill, V.kill, O.frz, V.frz, V.frzs_eq, encFd, encI, h5, h23, h39]), fun c => absurd (of_decide_eq_true h) c⟩, fun h => ⟨fun c => absurd c (of_decide_eq_false h), fun _ => Le_st ⟨rfl, rfl, rfl, rfl, trivial⟩ rfl⟩⟩
  refine W_seq (K := fun s => Le s ⟨envL [(0, .d (.sl 3 (l.map encLy))), (1, .d (.int .i64 i)), (7, .d (.sl 1 ((usedR f).map encI)))], osL [(5, .box ((encFd f).map .d) 49)]⟩) ?_ fun s hs => W_le hs ?_
  · by_cases h56 : f.kind = 5 ∨ f.kind = 6
    · refine W_le (hs1.1 h56) ?_
      have hc := hk h56
      refine W_run tok (cok T _ _ _ gm) mixed (by kernel_rfl) ?_
      simp only [go_sem, ↓reduceIte, Nat.reduceEqDiff, reduceCtorEq, Nat.reduceAdd, Nat.reduceLeDiff, Nat.reduceSub, Nat.reduceMul, Nat.reduceMod, Nat.reduceLT, asD, asD1, cellDs, cellD, V.scal, D.scal, ← List.map_take, ← List.map_drop, List.drop_zero, List.map_cons, List.map_nil, pl91, idxV, encLy, encFd, List.length_map, List.drop, Int.toNat_natCast, thenQ]
      refine loop_objs [] (by simp) (fun _ : Nat => osL [(5, .box ((encFd f).map .d) 49), (23, .row [[.int .i64 f.of]] 1 3)]) (fun n => [(0, .d (.sl 3 (l.map encLy))), (1, .d (.int .i64 i)), (5, .ptr 5 0), (7, .row 23), (8, .d (.int .i64 (n : Int)))]) (fun n => n = 0) (fun n => 0) 0 rfl ?_ fun n hn => ?_
      · simp only [go_sem, ↓reduceIte, Nat.reduceEqDiff, reduceCtorEq, Nat.reduceAdd, Nat.reduceLeDiff, Nat.reduceSub, Nat.reduceMul, Nat.reduceMod, Nat.reduceLT, asD, asD1, cellDs, cellD, V.scal, D.scal, ← List.map_take, ← List.map_drop, List.drop_zero, List.map_cons, List.map_nil, pl91, idxV, encLy, encFd, List.length_map, List.drop, Int.toNat_natCast, thenQ]
        rfl
      · subst hn
        simp only [go_sem, ↓reduceIte, Nat.reduceEqDiff, reduceCtorEq, Nat.reduceAdd, Nat.reduceLeDiff, Nat.reduceSub, Nat.reduceMul, Nat.reduceMod, Nat.reduceLT, asD, asD1, cellDs, cellD, V.scal, D.scal, ← List.map_take, ← List.map_drop, List.drop_zero, List.map_cons, List.map_nil, pl91, idxV, encLy, encFd, List.length_map, List.drop, Int.toNat_natCast, thenQ]
        have hu : usedR f = [f.of] := by unfold usedR; rw [if_pos h56, hc]; rfl
        refine ⟨fun h => by rw [hc] at h; simp at h, fun h => ?_⟩
        exact Le_frz 23 (rows := [[.int .i64 f.of]]) (m := 1) (e := 3) rfl (by rw [hu]; exact ⟨rfl, rfl, rfl, trivial⟩) (by funext o; by_cases h5 : o = 5 <;> by_cases h23 : o = 23 <;> by_cases h39 : o = 39 <;> simp [osL, upd, O.kill, V.kill, O.frz, V.frz, V.frzs_eq, encFd, encI, h5, h23, h39])
    · refine W_le (hs1.2 h56) ?_
      refine W_run tok (cok T _ _ _ gm) mixed (by kernel_rfl) ?_
      simp only [go_sem, ↓reduceIte, Nat.reduceEqDiff, reduceCtorEq, Nat.reduceAdd, Nat.reduceLeDiff, Nat.reduceSub, Nat.reduceMul, Nat.reduceMod, Nat.reduceLT, asD, asD1, cellDs, cellD, V.scal, D.scal, ← List.map_take, ← List.map_drop, List.drop_zero, List.map_cons, List.map_nil, pl91, idxV, encLy, encFd, List.length_map, List.drop, Int.toNat_natCast, thenQ]
      refine loop_objs [] (by simp) (fun n : Nat => grownO (osL [(5, .box ((encFd f).map .d) 49)]) 39 1 3 (fun n => ((f.choices.take n).map (·.of)).map encI) n) (fun n => [(0, .d (.sl 3 (l.map encLy))), (1, .d (.int .i64 i)), (5, .ptr 5 0), (7, grownV 39 n), (8, .d (.int .i64 (n : Int)))]) (fun n => n ≤ f.choices.length) (fun n => f.choices.length - n) 0 (Nat.zero_le _) ?_ fun n hn => ?_
      · simp only [go_sem, ↓reduceIte, Nat.reduceEqDiff, reduceCtorEq, Nat.reduceAdd, Nat.reduceLeDiff, Nat.reduceSub, Nat.reduceMul, Nat.reduceMod, Nat.reduceLT, asD, asD1, cellDs, cellD, V.scal, D.scal, ← List.map_take, ← List.map_drop, List.drop_zero, List.map_cons, List.map_nil, pl91, idxV, encLy, encFd, List.length_map, List.drop, Int.toNat_natCast, thenQ]
        rfl
      · have hu : usedR f = f.choices.map (·.of) := by unfold usedR; rw [if_neg h56]; rfl
        have step : n < f.choices.length → ∀ a, f.choices[n]? = some a → f.choices.take (n + 1) = f.choices.take n ++ [a] := fun h a ha => by
          rw [List.take_add_one, ha]; rfl
        cases n with
        | zero =>
          simp only [go_sem, ↓reduceIte, Nat.reduceEqDiff, reduceCtorEq, Nat.reduceAdd, Nat.reduceLeDiff, Nat.reduceSub, Nat.reduceMul, Nat.reduceMod, Nat.reduceLT, asD, asD1, cellDs, cellD, V.scal, D.scal, ← List.map_take, ← List.map_drop, List.drop_zero, List.map_cons, List.map_nil, pl91, idxV, encLy, encFd, List.length_map, List.drop, Int.toNat_natCast, thenQ]
          refine ⟨fun h => ⟨⟨by omega, of_decide_eq_true h⟩, fun a ha => ?_⟩, fun h => ?_⟩
          · have h := of_decide_eq_true h
            have ht := step (by omega) a ha
            exact ⟨1, by omega, by omega, ⟨rfl, by rw [wrap_small _ (by omega) (by omega)]; rfl⟩, by refine Eq.trans ?_ (grownO_s _ _ _ _ _ 0).symm; exact (by funext o; by_cases h5 : o = 5 <;> by_cases h23 : o = 23 <;> by_cases h39 : o = 39 <;> simp [osL, upd, O.kill, V.kill, O.frz, V.frz, V.frzs_eq, encFd, encI, ht, -List.map_take, h5, h23, h39])⟩
          · have h := of_decide_eq_false h
            have hc0 : f.choices = [] := List.eq_nil_of_length_eq_zero (by omega)
            exact Le_nilL 7 1 rfl (by rw [hu, hc0]; exact ⟨rfl, rfl, rfl, trivial⟩) rfl
        | succ j =>
          simp only [go_sem, ↓reduceIte, Nat.reduceEqDiff, reduceCtorEq, Nat.reduceAdd, Nat.reduceLeDiff, Nat.reduceSub, Nat.reduceMul, Nat.reduceMod, Nat.reduceLT, asD, asD1, cellDs, cellD, V.scal, D.scal, ← List.map_take, ← List.map_drop, List.drop_zero, List.map_cons, List.map_nil, pl91, idxV, encLy, encFd, List.length_map, List.drop, Int.toNat_natCast, thenQ]
          refine ⟨fun h => ⟨⟨by omega, of_decide_eq_true h⟩, fun a ha => ?_⟩, fun h => ?_⟩
          · have h := of_decide_eq_true h
            have ht := step (by omega) a ha
            refine ⟨⟨by rw [List.length_take]; omega, by rw [List.length_take]; omega⟩, j + 2, by omega, by omega, ⟨rfl, by rw [wrap_small _ (by omega) (by omega)]; rfl⟩, by refine Eq.trans ?_ (grownO_s _ _ _ _ _ (j + 1)).symm; exact (by funext o; by_cases h5 : o = 5 <;> by_cases h23 : o = 23 <;> by_cases h39 : o = 39 <;> simp [osL, upd, O.kill, V.kill, O.frz, V.frz, V.frzs_eq, encFd, encI, ht, -List.map_take, h5, h23, h39])⟩
          · have h := of_decide_eq_false h
            have hl : f.choices.take (j + 1) = f.choices := List.take_of_length_le (by omega)
            exact Le_frz 39 (rows := ((f.choices.take (j + 1)).map (·.of)).map encI) (m := 1) (e := 3) rfl (by rw [hu, hl]; exact ⟨rfl, rfl, rfl, trivial⟩) (by funext o; by_cases h5 : o = 5 <;> by_cases h23 : o = 23 <;> by_cases h39 : o = 39 <;> simp [osL, upd, O.kill, V.kill, O.frz, V.frz, V.frzs_eq, encFd, encI, h5, h23, h39])
  clear hs1 hs
  have hun : (usedR f).length ≤ 1001 := by
    unfold usedR
    rw [List.length_append, List.length_map]
    split <;> simp <;> omega
  have wi : IntKind.i64.wrap (i - 1) = i - 1 := wrap_small _ (by omega) (by omega)
  refine W_seq (K := fun s => ((usedR f).any (fun n => !within n 0 (i - 1)) = false) ∧ Le s ⟨envL [(0, .d (.sl 3 (l.map encLy))), (1, .d (.int .i64 i)), (7, .d (.sl 1 ((usedR f).map encI)))], osL [(5, .box ((encFd f).map .d) 49)]⟩) ?_ fun s hs => W_le hs.2 ?_
  · refine W_run tok (cok T _ _ _ gm) mixed (by kernel_rfl) ?_
    simp only [go_sem, ↓reduceIte, Nat.reduceEqDiff, reduceCtorEq, Nat.reduceAdd, Nat.reduceLeDiff, Nat.reduceSub, Nat.reduceMul, Nat.reduceMod, Nat.reduceLT, asD, asD1, cellDs, cellD, V.scal, D.scal, ← List.map_take, ← List.map_drop, List.drop_zero, List.map_cons, List.map_nil, pl91, idxV, encLy, encFd, List.length_map, List.drop, Int.toNat_natCast, thenQ]
    refine loop_objs [] (by simp) (fun _ : Nat => osL [(5, .box ((encFd f).map .d) 49)]) (fun n => [(0, .d (.sl 3 (l.map encLy))), (1, .d (.int .i64 i)), (7, .d (.sl 1 ((usedR f).map encI))), (9, .d (.int .i64 (n : Int)))]) (fun n => n ≤ (usedR f).length ∧ ((usedR f).take n).any (fun n => !within n 0 (i - 1)) = false) (fun n => (usedR f).length - n) 0 ⟨Nat.zero_le _, rfl⟩ ?_ fun n hn => ?_
    · simp only [go_sem, ↓reduceIte, Nat.reduceEqDiff, reduceCtorEq, Nat.reduceAdd, Nat.reduceLeDiff, Nat.reduceSub, Nat.reduceMul, Nat.reduceMod, Nat.reduceLT, asD, asD1, cellDs, cellD, V.scal, D.scal, ← List.map_take, ← List.map_drop, List.drop_zero, List.map_cons, List.map_nil, pl91, idxV, encLy, encFd, List.length_map, List.drop, Int.toNat_natCast, thenQ]
      rfl
    · obtain ⟨n1, n2⟩ := hn
      simp only [go_sem, ↓reduceIte, Nat.reduceEqDiff, reduceCtorEq, Nat.reduceAdd, Nat.reduceLeDiff, Nat.reduceSub, Nat.reduceMul, Nat.reduceMod, Nat.reduceLT, asD, asD1, cellDs, cellD, V.scal, D.scal, ← List.map_take, ← List.map_drop, List.drop_zero, List.map_cons, List.map_nil, pl91, idxV, encLy, encFd, List.length_map, List.drop, Int.toNat_natCast, thenQ]
      rw [wi]
      refine ⟨fun h => ⟨⟨by omega, of_decide_eq_true h⟩, fun a ha => ⟨fun h2 => ?_, fun h2 => ⟨n + 1, ⟨by have := of_decide_eq_true h; omega, any_step n2 ha h2⟩, by have := of_decide_eq_true h; omega, by rw [wrap_small _ (by omega) (by omega)]; rfl⟩⟩⟩, fun h => ?_⟩
      · have e : usedErr l i f = 11 := by unfold usedErr; rw [if_pos (any_hit (p := fun n => !within n 0 (i - 1)) ha h2)]
        rw [e]
      · have h := of_decide_eq_false h
        rw [List.take_of_length_le (by omega)] at n2
        exact ⟨n2, Le_st ⟨rfl, rfl, rfl, trivial⟩ rfl⟩
  have hin : ∀ n ∈ usedR f, 0 ≤ n ∧ n < (l.length : Int) := fun n hn => by
    have := List.any_eq_false.1 hs.1 n hn
    have : within n 0 (i - 1) = true := by simpa using this
    simp only [within, Bool.and_eq_true, decide_eq_true_eq] at this
    omega
  obtain ⟨x, hx⟩ : ∃ x, l[i.toNat]? = some x := ⟨_, List.getElem?_eq_getElem (by omega)⟩
  have hgx : (l.map encLy).getD i.toNat [] = encLy x := by rw [List.getD_eq_getElem?_getD, List.getElem?_map, hx]; rfl
  have hlow : lowAt l i = x.lowBits := by unfold lowAt; rw [hx]
  have eU : usedErr l i f = if (usedR f).any (fun n => lowAt l n != lowAt l i) then 15 else 0 := by unfold usedErr; rw [if_neg (by rw [hs.1]; simp)]
  clear hs
  refine W_run tok (cok T _ _ _ gm) mixed (by kernel_rfl) ?_
  simp only [go_sem, ↓reduceIte, Nat.reduceEqDiff, reduceCtorEq, Nat.reduceAdd, Nat.reduceLeDiff, Nat.reduceSub, Nat.reduceMul, Nat.reduceMod, Nat.reduceLT, asD, asD1, cellDs, cellD, V.scal, D.scal, ← List.map_take, ← List.map_drop, List.drop_zero, List.map_cons, List.map_nil, pl91, idxV, encLy, encFd, List.length_map, List.drop, Int.toNat_natCast, thenQ]
  refine loop_objs [] (by simp) (fun _ : Nat => osL [(5, .box ((encFd f).map .d) 49)]) (fun n => [(0, .d (.sl 3 (l.map encLy))), (1, .d (.int .i64 i)), (7, .d (.sl 1 ((usedR f).map encI))), (10, .d (.int .i64 (n : Int)))]) (fun n => n ≤ (usedR f).length ∧ ((usedR f).take n).any (fun n => lowAt l n != lowAt l i) = false) (fun n => (usedR f).length - n) 0 ⟨Nat.zero_le _, rfl⟩ ?_ fun n hn => ?_
  · simp only [go_sem, ↓reduceIte, Nat.reduceEqDiff, reduceCtorEq, Nat.reduceAdd, Nat.reduceLeDiff, Nat.reduceSub, Nat.reduceMul, Nat.reduceMod, Nat.reduceLT, asD, asD1, cellDs, cellD, V.scal, D.scal, ← List.map_take, ← List.map_drop, List.drop_zero, List.map_cons, List.map_nil, pl91, idxV, encLy, encFd, List.length_map, List.drop, Int.toNat_natCast, thenQ]
    rfl
  · obtain ⟨n1, n2⟩ := hn
    by_cases hlt : n < (usedR f).length
    · obtain ⟨v, hv⟩ : ∃ v, (usedR f)[n]? = some v := ⟨_, List.getElem?_eq_getElem hlt⟩
      obtain ⟨v0, v1⟩ := hin v (List.mem_of_getElem? hv)
      obtain ⟨y, hy⟩ : ∃ y, l[v.toNat]? = some y := ⟨_, List.getElem?_eq_getElem (by omega)⟩
      have hgv : ((usedR f).map encI).getD n [] = encI v := by rw [List.getD_eq_getElem?_getD, List.getElem?_map, hv]; rfl
      have hgy : (l.map encLy).getD v.toNat [] = encLy y := by rw [List.getD_eq_getElem?_getD, List.getElem?_map, hy]; rfl
      have hlv : lowAt l v = y.lowBits := by unfold lowAt; rw [hy]
      simp only [go_sem, ↓reduceIte, Nat.reduceEqDiff, reduceCtorEq, Nat.reduceAdd, Nat.reduceLeDiff, Nat.reduceSub, Nat.reduceMul, Nat.reduceMod, Nat.reduceLT, asD, asD1, cellDs, cellD, V.scal, D.scal, ← List.map_take, ← List.map_drop, List.drop_zero, List.map_cons, List.map_nil, pl91, idxV, hgx, hgv, hgy, encI, encLy, encFd, List.length_map, List.drop, Int.toNat_natCast, thenQ]
      have hp : (lowAt l v != lowAt l i) = !y.lowBits == x.lowBits := by rw [hlv, hlow]; rfl
      refine ⟨fun h => ⟨⟨by omega, by omega⟩, ⟨v0, v1⟩, ⟨i0, i1⟩, fun h2 => ?_, fun h2 => ⟨n + 1, ⟨hlt, any_step n2 hv (by rw [hp]; exact h2)⟩, by omega, by rw [wrap_small _ (by omega) (by omega)]; rfl⟩⟩, fun h => absurd (of_decide_eq_false h) (by omega)⟩
      rw [eU, if_pos (any_hit (p := fun n => lowAt l n != lowAt l i) hv (by rw [hp]; exact h2))]
    · obtain rfl : n = (usedR f).length := by omega
      have hd : decide (((usedR f).length : Int) < ((usedR f).length : Int)) = false := decide_eq_false (by omega)
      rw [List.take_length] at n2
      simp only [go_sem, ↓reduceIte, Nat.reduceEqDiff, reduceCtorEq, Nat.reduceAdd, Nat.reduceLeDiff, Nat.reduceSub, Nat.reduceMul, Nat.reduceMod, Nat.reduceLT, asD, asD1, cellDs, cellD, V.scal, D.scal, ← List.map_take, ← List.map_drop, List.drop_zero, List.map_cons, List.map_nil, pl91, idxV, hd, encLy, encFd, List.length_map, List.drop, Int.toNat_natCast, thenQ]
      rw [eU, n2]
      exact ⟨fun h => h.elim, rfl⟩
noncomputable def E91 : Ent Tryz.prog := Ent.of 91 (fnOk Tryz.func91 rfl (by kernel_rfl)) (fun
    | [.d (.sl 3 l), .d (.int .i64 i), .agg [.d (.str f_name), .d (.int .i64 f_kind), .d (.int .i64 f_width), .d (.bool f_signed), .d (.bool f_lowFirst), .d (.int .i64 f_purpose), .d (.str f_for_), .d (.int .i64 f_of), .d (.sl 3 f_choices)]] => (dec encLy l).bind fun l => (dec encCh f_choices).bind fun f_choices => some (0 ≤ i ∧ i < l.length ∧ l.length ≤ 1000 ∧ (Fd.mk f_name f_kind f_width f_signed f_lowFirst f_purpose f_for_ f_of f_choices).choices.length ≤ 1000 ∧ ((Fd.mk f_name f_kind f_width f_signed f_lowFirst f_purpose f_for_ f_of f_choices).kind = 5 ∨ (Fd.mk f_name f_kind f_width f_signed f_lowFirst f_purpose f_for_ f_of f_choices).kind = 6 → (Fd.mk f_name f_kind f_width f_signed f_lowFirst f_purpose f_for_ f_of f_choices).choices = []), .d (.int .i64 (usedErr l i (Fd.mk f_name f_kind f_width f_signed f_lowFirst f_purpose f_for_ f_of f_choices))))
    | _ => none) fun args p r h => by
    split at h
    · obtain ⟨_, hd0, h0⟩ := Option.bind_eq_some_iff.1 h; clear h; have hd0 := dec_some hd0; subst hd0
      obtain ⟨_, hd1, h1⟩ := Option.bind_eq_some_iff.1 h0; clear h0; have hd1 := dec_some hd1; subst hd1
      cases h1; exact t91 _ _ (Fd.mk _ _ _ _ _ _ _ _ _)
    · cases h
@[go_sem] theorem E91_f : E91.f = 91 := rfl
@[go_sem] theorem E91_c (l : List (List D)) (i : Int) (f_name : ByteArray) (f_kind : Int) (f_width : Int) (f_signed : Bool) (f_lowFirst : Bool) (f_purpose : Int) (f_for_ : ByteArray) (f_of : Int) (f_choices : List (List D)) : E91.c [.d (.sl 3 l), .d (.int .i64 i), .agg [.d (.str f_name), .d (.int .i64 f_kind), .d (.int .i64 f_width), .d (.bool f_signed), .d (.bool f_lowFirst), .d (.int .i64 f_purpose), .d (.str f_for_), .d (.int .i64 f_of), .d (.sl 3 f_choices)]] = (dec encLy l).bind fun l => (dec encCh f_choices).bind fun f_choices => some (0 ≤ i ∧ i < l.length ∧ l.length ≤ 1000 ∧ (Fd.mk f_name f_kind f_width f_signed f_lowFirst f_purpose f_for_ f_of f_choices).choices.length ≤ 1000 ∧ ((Fd.mk f_name f_kind f_width f_signed f_lowFirst f_purpose f_for_ f_of f_choices).kind = 5 ∨ (Fd.mk f_name f_kind f_width f_signed f_lowFirst f_purpose f_for_ f_of f_choices).kind = 6 → (Fd.mk f_name f_kind f_width f_signed f_lowFirst f_purpose f_for_ f_of f_choices).choices = []), .d (.int .i64 (usedErr l i (Fd.mk f_name f_kind f_width f_signed f_lowFirst f_purpose f_for_ f_of f_choices)))) := rfl
end Go.Proofs.YtgnnakibcjonbaaGreatDoor.VE

/- Chapter 16: choicesErr of the reference. -/
namespace Go.Proofs.YtgnnakibcjonbaaGreatDoor.VE
open Go Go.RowKit
set_option maxRecDepth 100000
set_option linter.unusedSimpArgs false
set_option linter.unusedVariables false

theorem t92 (f : Fd) : PureOk Tryz.prog 92 [.agg [.d (.str f.name), .d (.int .i64 f.kind), .d (.int .i64 f.width), .d (.bool f.signed), .d (.bool f.lowFirst), .d (.int .i64 f.purpose), .d (.str f.for_), .d (.int .i64 f.of), .d (.sl 3 (f.choices.map encCh))]] (True) (.d (.int .i64 (choicesErr f.choices))) := by
  refine pure_fnW (C := fun gm => ⟨T, gam [E88, E86], dam (P := Tryz.prog) [], plT pl92, ⟨gm, fun _ _ => none⟩⟩) (fun _ => tok) Tryz.func92 rfl (Nat.le_of_ble_eq_true rfl) rfl (fun m => rfl) fun gm hp => ?_
  unfold Tryz.f92
  refine W_pre tok (cok T _ _ _ gm) mixed (by kernel_rfl) ?_
  simp only [go_sem, ↓reduceIte, Nat.reduceEqDiff, reduceCtorEq, Nat.reduceAdd, Nat.reduceLeDiff, Nat.reduceSub, Nat.reduceMul, Nat.reduceMod, Nat.reduceLT, asD, asD1, cellDs, cellD, V.scal, D.scal, ← List.map_take, ← List.map_drop, List.drop_zero, List.map_cons, List.map_nil, pl92, idxV, encLy, encFd, encCh, List.length_map, List.drop, Int.toNat_natCast, thenQ]
  refine W_pre tok (cok T _ _ _ gm) mixed (by kernel_rfl) ?_
  simp only [go_sem, ↓reduceIte, Nat.reduceEqDiff, reduceCtorEq, Nat.reduceAdd, Nat.reduceLeDiff, Nat.reduceSub, Nat.reduceMul, Nat.reduceMod, Nat.reduceLT, asD, asD1, cellDs, cellD, V.scal, D.scal, ← List.map_take, ← List.map_drop, List.drop_zero, List.map_cons, List.map_nil, pl92, idxV, encLy, encFd, encCh, List.length_map, List.drop, Int.toNat_natCast, thenQ]
  refine ⟨fun h => ?_, fun h0 => ?_⟩
  · have e : f.choices.length = 0 := by simpa using h
    simp only [choicesErr, e, if_true]
  refine W_pre tok (cok T _ _ _ gm) mixed (by kernel_rfl) ?_
  simp only [go_sem, ↓reduceIte, Nat.reduceEqDiff, reduceCtorEq, Nat.reduceAdd, Nat.reduceLeDiff, Nat.reduceSub, Nat.reduceMul, Nat.reduceMod, Nat.reduceLT, asD, asD1, cellDs, cellD, V.scal, D.scal, ← List.map_take, ← List.map_drop, List.drop_zero, List.map_cons, List.map_nil, pl92, idxV, encLy, encFd, encCh, List.length_map, List.drop, Int.toNat_natCast, thenQ]
  refine ⟨fun h1 => ?_, fun h1 => ?_⟩
  · have e : ¬ f.choices.length = 0 := by simpa using h0
    have e1 : 16 < f.choices.length := by have := of_decide_eq_true h1; omega
    simp only [choicesErr, if_neg e, if_pos e1]
  have e : ¬ f.choices.length = 0 := by simpa using h0
  have e1 : ¬ 16 < f.choices.length := by have := of_decide_eq_false h1; omega
  have e2 : choicesErr f.choices = chLoop [] f.choices := by unfold choicesErr; rw [if_neg e, if_neg e1]
  refine W_st (l := [(1, .ptr 1 0)]) (os' := osL [(1, .box ((encFd f).map .d) 49)]) ⟨rfl, trivial⟩ (by funext o; by_cases h1 : o = 1 <;> simp [osL, upd, encFd, encCh, h1]) ?_
  refine W_run tok (cok T _ _ _ gm) mixed (by kernel_rfl) ?_
  simp only [go_sem, ↓reduceIte, Nat.reduceEqDiff, reduceCtorEq, Nat.reduceAdd, Nat.reduceLeDiff, Nat.reduceSub, Nat.reduceMul, Nat.reduceMod, Nat.reduceLT, asD, asD1, cellDs, cellD, V.scal, D.scal, ← List.map_take, ← List.map_drop, List.drop_zero, List.map_cons, List.map_nil, pl92, idxV, encLy, encFd, encCh, List.length_map, List.drop, Int.toNat_natCast, thenQ]
  refine loop_objs [4] (by simp) (fun _ : Nat => osL [(1, .box ((encFd f).map .d) 49)]) (fun n => [(1, .ptr 1 0), (3, .d (.int .i64 (n : Int)))]) (fun n => n ≤ f.choices.length ∧ choicesErr f.choices = chLoop (f.choices.take n) (f.choices.drop n)) (fun n => f.choices.length - n) 0 ⟨Nat.zero_le _, e2⟩ ?_ fun n hn => ?_
  · simp only [go_sem, ↓reduceIte, Nat.reduceEqDiff, reduceCtorEq, Nat.reduceAdd, Nat.reduceLeDiff, Nat.reduceSub, Nat.reduceMul, Nat.reduceMod, Nat.reduceLT, asD, asD1, cellDs, cellD, V.scal, D.scal, ← List.map_take, ← List.map_drop, List.drop_zero, List.map_cons, List.map_nil, pl92, idxV, encLy, encFd, encCh, List.length_map, List.drop, Int.toNat_natCast, thenQ]
    exact ⟨rfl, (by funext o; by_cases h1 : o = 1 <;> by_cases h4 : o = 4 <;> simp [osL, upd, O.kill, V.kill, encFd, encCh, h1, h4])⟩
  · obtain ⟨n1, n2⟩ := hn
    by_cases hlt : n < f.choices.length
    · obtain ⟨c, hc⟩ : ∃ c, f.choices[n]? = some c := ⟨_, List.getElem?_eq_getElem hlt⟩
      have hgc : (f.choices.map encCh).getD n [] = encCh c := by rw [List.getD_eq_getElem?_getD, List.getElem?_map, hc]; rfl
      have hd : f.choices.drop n = c :: f.choices.drop (n + 1) := by
        obtain ⟨_, e⟩ := List.getElem?_eq_some_iff.1 hc
        rw [List.drop_eq_getElem_cons hlt, e]
      have ht : f.choices.take (n + 1) = f.choices.take n ++ [c] := by rw [List.take_add_one, hc]; rfl
      rw [hd, chLoop] at n2
      simp only [go_sem, ↓reduceIte, Nat.reduceEqDiff, reduceCtorEq, Nat.reduceAdd, Nat.reduceLeDiff, Nat.reduceSub, Nat.reduceMul, Nat.reduceMod, Nat.reduceLT, asD, asD1, cellDs, cellD, V.scal, D.scal, ← List.map_take, ← List.map_drop, List.drop_zero, List.map_cons, List.map_nil, pl92, idxV, hgc, encLy, encFd, encCh, List.length_map, List.drop, Int.toNat_natCast, thenQ]
      refine ⟨fun _ => ⟨⟨by omega, by omega⟩, fun a ha => ?_⟩, fun h => absurd (of_decide_eq_false h) (by omega)⟩
      obtain rfl := Option.some.inj (hc.symm.trans ha)
      refine ⟨fun h2 => by rw [n2, if_neg (by simpa using h2)], fun h2 => ?_⟩
      rw [if_pos (by simpa using h2)] at n2
      rw [names_eq]
      refine ⟨fun h3 => by rw [n2, if_neg (by simpa using h3)], fun h3 => ?_⟩
      rw [if_pos (by simpa using h3)] at n2
      refine loop_objs [] (by simp) (fun _ : Nat => osL [(1, .box ((encFd f).map .d) 49), (4, .box ((encCh c).map .d) 128)]) (fun k => [(1, .ptr 1 0), (3, .d (.int .i64 (n : Int))), (4, .ptr 4 0), (5, .d (.int .i64 (k : Int)))]) (fun k => k ≤ n ∧ (f.choices.take k).any (fun x => x.number == c.number || sEq x.name c.name) = false) (fun k => n - k) 0 ⟨Nat.zero_le _, rfl⟩ ?_ fun k hk => ?_
      · simp only [go_sem, ↓reduceIte, Nat.reduceEqDiff, reduceCtorEq, Nat.reduceAdd, Nat.reduceLeDiff, Nat.reduceSub, Nat.reduceMul, Nat.reduceMod, Nat.reduceLT, asD, asD1, cellDs, cellD, V.scal, D.scal, ← List.map_take, ← List.map_drop, List.drop_zero, List.map_cons, List.map_nil, pl92, idxV, encLy, encFd, encCh, List.length_map, List.drop, Int.toNat_natCast, thenQ]
        exact ⟨rfl, (by funext o; by_cases h1 : o = 1 <;> by_cases h4 : o = 4 <;> simp [osL, upd, O.kill, V.kill, encFd, encCh, h1, h4])⟩
      · obtain ⟨k1, k2⟩ := hk
        by_cases hlk : k < n
        · obtain ⟨d, hd2⟩ : ∃ d, f.choices[k]? = some d := ⟨_, List.getElem?_eq_getElem (by omega)⟩
          have hgk : (f.choices.map encCh).getD k [] = encCh d := by rw [List.getD_eq_getElem?_getD, List.getElem?_map, hd2]; rfl
          simp only [go_sem, ↓reduceIte, Nat.reduceEqDiff, reduceCtorEq, Nat.reduceAdd, Nat.reduceLeDiff, Nat.reduceSub, Nat.reduceMul, Nat.reduceMod, Nat.reduceLT, asD, asD1, cellDs, cellD, V.scal, D.scal, ← List.map_take, ← List.map_drop, List.drop_zero, List.map_cons, List.map_nil, pl92, idxV, hgk, encLy, encFd, encCh, List.length_map, List.drop, Int.toNat_natCast, thenQ]
          have hq : (bif d.number == c.number then true else sEq d.name c.name) = (d.number == c.number || sEq d.name c.name) := by cases d.number == c.number <;> rfl
          have hdk : (f.choices.take n)[k]? = some d := by rw [List.getElem?_take, if_pos hlk]; exact hd2
          rw [hq]
          refine ⟨fun _ => ⟨⟨by omega, by omega⟩, fun h => ⟨h, by omega, by omega⟩, fun h => by rw [h]; rfl, fun h => ?_, fun h => ⟨k + 1, ⟨hlk, any_step k2 hd2 h⟩, by omega, by rw [wrap_small _ (by omega) (by omega)]; rfl⟩⟩, fun h => absurd (of_decide_eq_false h) (by omega)⟩
          rw [n2, if_pos (any_hit (p := fun x : Ch => x.number == c.number || sEq x.name c.name) hdk h)]
        · obtain rfl : k = n := by omega
          have hd3 : decide ((k : Int) < (k : Int)) = false := decide_eq_false (by omega)
          simp only [go_sem, ↓reduceIte, Nat.reduceEqDiff, reduceCtorEq, Nat.reduceAdd, Nat.reduceLeDiff, Nat.reduceSub, Nat.reduceMul, Nat.reduceMod, Nat.reduceLT, asD, asD1, cellDs, cellD, V.scal, D.scal, ← List.map_take, ← List.map_drop, List.drop_zero, List.map_cons, List.map_nil, pl92, idxV, hd3, encLy, encFd, encCh, List.length_map, List.drop, Int.toNat_natCast, thenQ]
          rw [if_neg (by rw [k2]; simp), ← ht] at n2
          exact ⟨fun h => h.elim, k + 1, ⟨hlt, n2⟩, by omega, by rw [wrap_small _ (by omega) (by omega)]; rfl, (by funext o; by_cases h1 : o = 1 <;> by_cases h4 : o = 4 <;> simp [osL, upd, O.kill, V.kill, encFd, encCh, h1, h4])⟩
    · obtain rfl : n = f.choices.length := by omega
      have hd : decide ((f.choices.length : Int) < (f.choices.length : Int)) = false := decide_eq_false (by omega)
      rw [List.drop_length, chLoop] at n2
      simp only [go_sem, ↓reduceIte, Nat.reduceEqDiff, reduceCtorEq, Nat.reduceAdd, Nat.reduceLeDiff, Nat.reduceSub, Nat.reduceMul, Nat.reduceMod, Nat.reduceLT, asD, asD1, cellDs, cellD, V.scal, D.scal, ← List.map_take, ← List.map_drop, List.drop_zero, List.map_cons, List.map_nil, pl92, idxV, hd, encLy, encFd, encCh, List.length_map, List.drop, Int.toNat_natCast, thenQ]
      rw [n2]
      exact ⟨fun h => h.elim, rfl⟩
noncomputable def E92 : Ent Tryz.prog := Ent.of 92 (fnOk Tryz.func92 rfl (by kernel_rfl)) (fun
    | [.agg [.d (.str f_name), .d (.int .i64 f_kind), .d (.int .i64 f_width), .d (.bool f_signed), .d (.bool f_lowFirst), .d (.int .i64 f_purpose), .d (.str f_for_), .d (.int .i64 f_of), .d (.sl 3 f_choices)]] => (dec encCh f_choices).bind fun f_choices => some (True, .d (.int .i64 (choicesErr (Fd.mk f_name f_kind f_width f_signed f_lowFirst f_purpose f_for_ f_of f_choices).choices)))
    | _ => none) fun args p r h => by
    split at h
    · obtain ⟨_, hd0, h0⟩ := Option.bind_eq_some_iff.1 h; clear h; have hd0 := dec_some hd0; subst hd0
      cases h0; exact t92 (Fd.mk _ _ _ _ _ _ _ _ _)
    · cases h
@[go_sem] theorem E92_f : E92.f = 92 := rfl
@[go_sem] theorem E92_c (f_name : ByteArray) (f_kind : Int) (f_width : Int) (f_signed : Bool) (f_lowFirst : Bool) (f_purpose : Int) (f_for_ : ByteArray) (f_of : Int) (f_choices : List (List D)) : E92.c [.agg [.d (.str f_name), .d (.int .i64 f_kind), .d (.int .i64 f_width), .d (.bool f_signed), .d (.bool f_lowFirst), .d (.int .i64 f_purpose), .d (.str f_for_), .d (.int .i64 f_of), .d (.sl 3 f_choices)]] = (dec encCh f_choices).bind fun f_choices => some (True, .d (.int .i64 (choicesErr (Fd.mk f_name f_kind f_width f_signed f_lowFirst f_purpose f_for_ f_of f_choices).choices))) := rfl
end Go.Proofs.YtgnnakibcjonbaaGreatDoor.VE

/- Chapter 16: forErr of the reference. -/
namespace Go.Proofs.YtgnnakibcjonbaaGreatDoor.VE
open Go Go.RowKit
set_option maxRecDepth 100000
set_option linter.unusedSimpArgs false
set_option linter.unusedVariables false
/-- The first place from one on at which something holds, or -1. -/
def fromT {α : Type} (p : α → Bool) (xs : List α) (j : Nat) : Int := if idxOf p (xs.drop j) 0 < 0 then -1 else (j : Int) + idxOf p (xs.drop j) 0
theorem idxOf_shift {α : Type} {p : α → Bool} : ∀ {xs : List α} {k : Int}, idxOf p xs (k + 1) = if idxOf p xs k = -1 then (if xs.any p then k + 1 + (idxOf p xs k - k) else -1) else idxOf p xs k + 1
  | [], k => rfl
  | y :: r, k => by
    by_cases c : p y = true
    · simp only [idxOf, c, if_true, List.any_cons, Bool.true_or]
      split <;> omega
    · have c : p y = false := by simpa using c
      simp only [idxOf, c, Bool.false_eq_true, if_false, List.any_cons, Bool.false_or]
      rw [idxOf_shift (k := k + 1)]
      split
      · rename_i h
        rw [h]
        split <;> omega
      · rfl
theorem fromT_end {α : Type} {p : α → Bool} {xs : List α} : fromT p xs xs.length = -1 := by
  unfold fromT
  rw [List.drop_length]
  rfl
theorem fromT_step {α : Type} {p : α → Bool} {xs : List α} {j : Nat} {a : α} (ha : xs[j]? = some a) : fromT p xs j = if p a then (j : Int) else fromT p xs (j + 1) := by
  obtain ⟨hj, e⟩ := List.getElem?_eq_some_iff.1 ha
  have hd : xs.drop j = a :: xs.drop (j + 1) := by rw [List.drop_eq_getElem_cons hj, e]
  unfold fromT
  rw [hd]
  by_cases c : p a = true
  · simp only [idxOf, c, if_true]
    rw [if_neg (by omega)]
    omega
  · have c : p a = false := by simpa using c
    simp only [idxOf, c, Bool.false_eq_true, if_false]
    have hs := idxOf_shift (p := p) (xs := xs.drop (j + 1)) (k := 0)
    have hn := idxOf_ge (p := p) (xs := xs.drop (j + 1)) (k := 0)
    have hany := idx_none (p := p) (xs := xs.drop (j + 1))
    rw [Int.zero_add] at hs ⊢
    rw [hs]
    rcases hn with h | ⟨h1, h2⟩
    · rw [if_pos h, hany.1 h, h]
      rfl
    · rw [if_neg (by omega), if_neg (by omega), if_neg (by omega)]
      omega
theorem idxOf_at {α : Type} {p : α → Bool} : ∀ {xs : List α} {k : Int}, 0 ≤ k → idxOf p xs k = -1 ∨ ∃ (n : Nat) (a : α), idxOf p xs k = k + n ∧ xs[n]? = some a ∧ p a = true
  | [], k, _ => .inl rfl
  | y :: r, k, hk => by
    by_cases c : p y = true
    · exact .inr ⟨0, y, by simp only [idxOf, c, if_true]; omega, rfl, c⟩
    · have c : p y = false := by simpa using c
      simp only [idxOf, c, Bool.false_eq_true, if_false]
      rcases idxOf_at (p := p) (xs := r) (k := k + 1) (by omega) with h | ⟨n, a, h1, h2, h3⟩
      · exact .inl h
      · exact .inr ⟨n + 1, a, by omega, h2, h3⟩
theorem sEq_to {a b : ByteArray} (h : sEq a b = true) : a = b := by
  unfold sEq at h
  have h := eq_of_beq h
  rw [ByteArray.toList_eq, ByteArray.toList_eq] at h
  exact ByteArray.ext (Array.ext' h)
/-- The source of a field stands before a place. -/
theorem source_lt (x : Ly) {to k : Nat} {g : Fd} (hg : x.fields[to]? = some g) (hk : k ≤ to) : decide (sourceOf x (to : Int) < (k : Int)) = (x.fields.take k).any (fun y => named y && sEq y.for_ g.name) := by
  have hto := (List.getElem?_eq_some_iff.1 hg).1
  have e : x.fields.take to = x.fields.take k ++ (x.fields.take to).drop k := by
    conv => lhs; rw [← List.take_append_drop k (x.fields.take to), List.take_take, Nat.min_eq_left hk]
  have hl : (x.fields.take k).length = k := by rw [List.length_take]; omega
  have hs : sourceOf x (to : Int) = if idxOf (fun y => named y && sEq y.for_ g.name) (x.fields.take to) 0 < 0 then (x.fields.length : Int) else idxOf (fun y => named y && sEq y.for_ g.name) (x.fields.take to) 0 := by
    unfold sourceOf
    rw [Int.toNat_natCast, hg]
  rw [hs]
  clear hs
  have h1 := idxOf_append (p := fun y => named y && sEq y.for_ g.name) (a := x.fields.take k) (b := (x.fields.take to).drop k) (k := 0)
  rw [← e, hl, Int.zero_add] at h1
  have ha := idxOf_any (p := fun y => named y && sEq y.for_ g.name) (xs := x.fields.take k) (k := 0) (Int.le_refl _)
  cases h : (x.fields.take k).any (fun y => named y && sEq y.for_ g.name) with
  | true =>
    rw [h, if_pos rfl] at h1
    rw [h, decide_eq_true_eq] at ha
    rcases idxOf_ge (p := fun y => named y && sEq y.for_ g.name) (xs := x.fields.take k) (k := 0) with q | ⟨q1, q2⟩
    · omega
    · rw [h1, if_neg (by omega), decide_eq_true (by omega)]
  | false =>
    rw [h, if_neg (by simp)] at h1
    rw [h1]
    rcases idxOf_ge (p := fun y => named y && sEq y.for_ g.name) (xs := (x.fields.take to).drop k) (k := (k : Int)) with q | ⟨q1, q2⟩
    · rw [q, if_pos (by omega), decide_eq_false (by omega)]
    · rw [if_neg (by omega), decide_eq_false (by omega)]

theorem t93 (x : Ly) (k : Int) : PureOk Tryz.prog 93 [.agg [.d (.str x.name), .d (.sl 9 (x.fields.map encFd)), .d (.bool x.lowBits)], .d (.int .i64 k)] (0 ≤ k ∧ k < x.fields.length ∧ x.fields.length ≤ 1000 ∧ ∀ f, x.fields[k.toNat]? = some f → within f.purpose 0 4 = true) (.d (.int .i64 (forErr x k))) := by
  refine pure_fnW (C := fun gm => ⟨T, gam [E94, E95, E76], dam (P := Tryz.prog) [], plT pl93, ⟨gm, fun _ _ => none⟩⟩) (fun _ => tok) Tryz.func93 rfl (Nat.le_of_ble_eq_true rfl) rfl (fun m => rfl) fun gm hp => ?_
  obtain ⟨k0, k1, x1, hf0⟩ := hp
  obtain ⟨k, rfl⟩ := Int.eq_ofNat_of_zero_le k0
  rw [Int.toNat_natCast] at hf0
  obtain ⟨f, hf⟩ : ∃ f, x.fields[k]? = some f := ⟨_, List.getElem?_eq_getElem (by omega)⟩
  have hw := hf0 f hf
  have hgf : (x.fields.map encFd).getD k [] = encFd f := by rw [List.getD_eq_getElem?_getD, List.getElem?_map, hf]; rfl
  have eF : forErr x (k : Int) = if named f then purposeErr x k else 0 := by unfold forErr; rw [Int.toNat_natCast, hf]
  unfold Tryz.f93
  refine W_pre tok (cok T _ _ _ gm) mixed (by kernel_rfl) ?_
  simp only [go_sem, ↓reduceIte, Nat.reduceEqDiff, reduceCtorEq, Nat.reduceAdd, Nat.reduceLeDiff, Nat.reduceSub, Nat.reduceMul, Nat.reduceMod, Nat.reduceLT, asD, asD1, cellDs, cellD, V.scal, D.scal, ← List.map_take, ← List.map_drop, List.drop_zero, List.map_cons, List.map_nil, pl93, idxV, encLy, encFd, encCh, List.length_map, List.drop, Int.toNat_natCast, thenQ]
  refine W_pre tok (cok T _ _ _ gm) mixed (by kernel_rfl) ?_
  simp only [go_sem, ↓reduceIte, Nat.reduceEqDiff, reduceCtorEq, Nat.reduceAdd, Nat.reduceLeDiff, Nat.reduceSub, Nat.reduceMul, Nat.reduceMod, Nat.reduceLT, asD, asD1, cellDs, cellD, V.scal, D.scal, ← List.map_take, ← List.map_drop, List.drop_zero, List.map_cons, List.map_nil, pl93, idxV, encLy, encFd, encCh, List.length_map, List.drop, Int.toNat_natCast, thenQ]
  refine ⟨⟨by omega, by omega⟩, fun a ha => ?_⟩
  obtain rfl := Option.some.inj (hf.symm.trans ha)
  refine W_pre tok (cok T _ _ _ gm) mixed (by kernel_rfl) ?_
  simp only [go_sem, ↓reduceIte, Nat.reduceEqDiff, reduceCtorEq, Nat.reduceAdd, Nat.reduceLeDiff, Nat.reduceSub, Nat.reduceMul, Nat.reduceMod, Nat.reduceLT, asD, asD1, cellDs, cellD, V.scal, D.scal, ← List.map_take, ← List.map_drop, List.drop_zero, List.map_cons, List.map_nil, pl93, idxV, encLy, encFd, encCh, List.length_map, List.drop, Int.toNat_natCast, thenQ]
  have cnm : (bif f.purpose == 0 then true else f.purpose == 4) = !named f := by unfold named bne; cases f.purpose == 0 <;> cases f.purpose == 4 <;> rfl
  rw [cnm]
  refine ⟨fun h => by rw [h]; rfl, fun h => by rw [eF, if_neg (by simpa using h)], fun h => ?_⟩
  have hn : named f = true := by simpa using h
  rw [hn, if_pos rfl] at eF
  refine W_st (l := [(1, .d (.int .i64 (k : Int))), (2, .ptr 2 0), (5, .ptr 5 0)]) (os' := osL [(2, .box [.d (.str x.name), .d (.sl 9 (x.fields.map encFd)), .d (.bool x.lowBits)] 37), (5, .box ((encFd f).map .d) 49)]) ⟨rfl, rfl, rfl, trivial⟩ (by funext o; by_cases h2 : o = 2 <;> by_cases h5 : o = 5 <;> simp [osL, upd, encFd, h2, h5]) ?_
  refine W_pre tok (cok T _ _ _ gm) mixed (by kernel_rfl) ?_
  simp only [go_sem, ↓reduceIte, Nat.reduceEqDiff, reduceCtorEq, Nat.reduceAdd, Nat.reduceLeDiff, Nat.reduceSub, Nat.reduceMul, Nat.reduceMod, Nat.reduceLT, asD, asD1, cellDs, cellD, V.scal, D.scal, ← List.map_take, ← List.map_drop, List.drop_zero, List.map_cons, List.map_nil, pl93, idxV, encLy, encFd, encCh, List.length_map, List.drop, Int.toNat_natCast, thenQ]
  refine W_seq (K := fun s => AtL s.env [(1, .d (.int .i64 (k : Int))), (2, .ptr 2 0), (5, .ptr 5 0), (6, .d (.int .i64 (fromT (fun y => sEq y.name f.for_) x.fields (k + 1))))] ∧ s.os = osL [(2, .box [.d (.str x.name), .d (.sl 9 (x.fields.map encFd)), .d (.bool x.lowBits)] 37), (5, .box ((encFd f).map .d) 49)]) ?_ fun s hs => W_st hs.1 hs.2 ?_
  · refine W_pre tok (cok T _ _ _ gm) mixed (by kernel_rfl) ?_
    simp only [go_sem, ↓reduceIte, Nat.reduceEqDiff, reduceCtorEq, Nat.reduceAdd, Nat.reduceLeDiff, Nat.reduceSub, Nat.reduceMul, Nat.reduceMod, Nat.reduceLT, asD, asD1, cellDs, cellD, V.scal, D.scal, ← List.map_take, ← List.map_drop, List.drop_zero, List.map_cons, List.map_nil, pl93, idxV, encLy, encFd, encCh, List.length_map, List.drop, Int.toNat_natCast, thenQ]
    refine W_block ?_
    refine W_run tok (cok T _ _ _ gm) mixed (by kernel_rfl) ?_
    refine loop_objs [] (by simp) (fun _ : Nat => osL [(2, .box [.d (.str x.name), .d (.sl 9 (x.fields.map encFd)), .d (.bool x.lowBits)] 37), (5, .box ((encFd f).map .d) 49)]) (fun m => [(1, .d (.int .i64 (k : Int))), (2, .ptr 2 0), (5, .ptr 5 0), (6, .d (.int .i64 (fromT (fun y => sEq y.name f.for_) x.fields (m + 1)))), (7, .d (.int .i64 (m : Int)))]) (fun m => k ≤ m ∧ m < x.fields.length) (fun m => m) (x.fields.length - 1) ⟨by omega, by omega⟩ ?_ fun m hm => ?_
    · simp only [go_sem, ↓reduceIte, Nat.reduceEqDiff, reduceCtorEq, Nat.reduceAdd, Nat.reduceLeDiff, Nat.reduceSub, Nat.reduceMul, Nat.reduceMod, Nat.reduceLT, asD, asD1, cellDs, cellD, V.scal, D.scal, ← List.map_take, ← List.map_drop, List.drop_zero, List.map_cons, List.map_nil, pl93, idxV, encLy, encFd, encCh, List.length_map, List.drop, Int.toNat_natCast, thenQ]
      refine ⟨?_, by rw [wrap_small _ (by omega) (by omega)]; congr 2; omega⟩
      rw [show x.fields.length - 1 + 1 = x.fields.length by omega, fromT_end]
    · obtain ⟨m0, m1⟩ := hm
      obtain ⟨a, ha⟩ : ∃ a, x.fields[m]? = some a := ⟨_, List.getElem?_eq_getElem m1⟩
      have hgm : (x.fields.map encFd).getD m [] = encFd a := by rw [List.getD_eq_getElem?_getD, List.getElem?_map, ha]; rfl
      have hst := fromT_step (p := fun y : Fd => sEq y.name f.for_) ha
      simp only [go_sem, ↓reduceIte, Nat.reduceEqDiff, reduceCtorEq, Nat.reduceAdd, Nat.reduceLeDiff, Nat.reduceSub, Nat.reduceMul, Nat.reduceMod, Nat.reduceLT, asD, asD1, cellDs, cellD, V.scal, D.scal, ← List.map_take, ← List.map_drop, List.drop_zero, List.map_cons, List.map_nil, pl93, idxV, hgm, encLy, encFd, encCh, List.length_map, List.drop, Int.toNat_natCast, thenQ]
      refine ⟨fun h => ⟨⟨by omega, by omega⟩, fun h2 => ⟨m - 1, ⟨by have := of_decide_eq_true h; omega, by omega⟩, by have := of_decide_eq_true h; omega, ?_, ?_⟩, fun h2 => ⟨m - 1, ⟨by have := of_decide_eq_true h; omega, by omega⟩, by have := of_decide_eq_true h; omega, ?_, ?_⟩⟩, fun h => ?_⟩
      · rw [show m - 1 + 1 = m by have := of_decide_eq_true h; omega, hst, if_pos h2]
      · rw [wrap_small _ (by omega) (by omega)]; congr 2; have := of_decide_eq_true h; omega
      · rw [show m - 1 + 1 = m by have := of_decide_eq_true h; omega, hst, if_neg (by rw [h2]; simp)]
      · rw [wrap_small _ (by omega) (by omega)]; congr 2; have := of_decide_eq_true h; omega
      · have h := of_decide_eq_false h
        obtain rfl : k = m := by omega
        rfl
  clear hs
  have eP : purposeErr x (k : Int) = if idxOf (fun y => sEq y.name f.for_) (x.fields.drop (k + 1)) 0 < 0 then 11 else
    match x.fields[((k : Int) + 1 + idxOf (fun y => sEq y.name f.for_) (x.fields.drop (k + 1)) 0).toNat]? with
    | none => 0
    | some to => if serves f.purpose to.kind then (if (f.purpose != 3 && to.width != 0) || (x.fields.take k).any (fun y => named y && sEq y.for_ f.for_) then 15 else 0) else 17 := by
    unfold purposeErr
    rw [Int.toNat_natCast, hf]
    rfl
  rcases idxOf_at (p := fun y : Fd => sEq y.name f.for_) (xs := x.fields.drop (k + 1)) (k := 0) (Int.le_refl _) with hi | ⟨n, g, hi, hg0, hgn⟩
  · have hfr : fromT (fun y => sEq y.name f.for_) x.fields (k + 1) = -1 := by unfold fromT; rw [hi]; rfl
    rw [hfr]
    rw [hi, if_pos (by omega)] at eP
    refine W_run tok (cok T _ _ _ gm) mixed (by kernel_rfl) ?_
    simp only [go_sem, ↓reduceIte, Nat.reduceEqDiff, reduceCtorEq, Nat.reduceAdd, Nat.reduceLeDiff, Nat.reduceSub, Nat.reduceMul, Nat.reduceMod, Nat.reduceLT, asD, asD1, cellDs, cellD, V.scal, D.scal, ← List.map_take, ← List.map_drop, List.drop_zero, List.map_cons, List.map_nil, pl93, idxV, beq_self_eq_true, Int.reduceBEq, encLy, encFd, encCh, List.length_map, List.drop, Int.toNat_natCast, thenQ]
    exact ⟨by rw [eF, eP], fun h => h.elim⟩
  · rw [List.getElem?_drop] at hg0
    have hto := (List.getElem?_eq_some_iff.1 hg0).1
    have hfr : fromT (fun y => sEq y.name f.for_) x.fields (k + 1) = ((k + 1 + n : Nat) : Int) := by unfold fromT; rw [hi, if_neg (by omega)]; omega
    rw [hfr]
    rw [hi, if_neg (by omega), show ((k : Int) + 1 + (0 + (n : Int))).toNat = k + 1 + n by omega, hg0] at eP
    dsimp only at eP
    generalize ht : k + 1 + n = to at *
    have hgg : (x.fields.map encFd).getD to [] = encFd g := by rw [List.getD_eq_getElem?_getD, List.getElem?_map, hg0]; rfl
    have hsl := source_lt x hg0 (show k ≤ to by omega)
    have hnm : g.name = f.for_ := sEq_to hgn
    refine W_pre tok (cok T _ _ _ gm) mixed (by kernel_rfl) ?_
    simp only [go_sem, ↓reduceIte, Nat.reduceEqDiff, reduceCtorEq, Nat.reduceAdd, Nat.reduceLeDiff, Nat.reduceSub, Nat.reduceMul, Nat.reduceMod, Nat.reduceLT, asD, asD1, cellDs, cellD, V.scal, D.scal, ← List.map_take, ← List.map_drop, List.drop_zero, List.map_cons, List.map_nil, pl93, idxV, hgg,  encLy, encFd, encCh, List.length_map, List.drop, Int.toNat_natCast, thenQ]
    refine ⟨fun h => by have := eq_of_beq h; omega, fun _ => ?_⟩
    refine W_pre tok (cok T _ _ _ gm) mixed (by kernel_rfl) ?_
    simp only [go_sem, ↓reduceIte, Nat.reduceEqDiff, reduceCtorEq, Nat.reduceAdd, Nat.reduceLeDiff, Nat.reduceSub, Nat.reduceMul, Nat.reduceMod, Nat.reduceLT, asD, asD1, cellDs, cellD, V.scal, D.scal, ← List.map_take, ← List.map_drop, List.drop_zero, List.map_cons, List.map_nil, pl93, idxV, hgg,  encLy, encFd, encCh, List.length_map, List.drop, Int.toNat_natCast, thenQ]
    refine ⟨⟨by omega, by omega⟩, fun a ha => ?_⟩
    obtain rfl := Option.some.inj (hg0.symm.trans ha)
    refine W_run tok (cok T _ _ _ gm) mixed (by kernel_rfl) ?_
    have hp3 : f.purpose = 1 ∨ f.purpose = 2 ∨ f.purpose = 3 := by
      simp only [within, Bool.and_eq_true, decide_eq_true_eq] at hw
      unfold named at hn
      rw [Bool.and_eq_true, bne_iff_ne, bne_iff_ne] at hn
      omega
    have hR : (bif bif bif bif f.purpose == 1 then isText g.kind || g.kind == 6 else false then g.kind != 6 else false then true else bif f.purpose == 2 then g.kind == 6 else false then true else bif f.purpose == 3 then g.kind == 7 else false) = serves f.purpose g.kind := by
      unfold serves isText
      by_cases k6 : g.kind = 6
      · rcases hp3 with e | e | e <;> rw [e, k6] <;> rfl
      · have k6b : (g.kind == 6) = false := by simpa using k6
        rcases hp3 with e | e | e <;> rw [e] <;> simp [k6b, bne]
    simp only [go_sem, ↓reduceIte, Nat.reduceEqDiff, reduceCtorEq, Nat.reduceAdd, Nat.reduceLeDiff, Nat.reduceSub, Nat.reduceMul, Nat.reduceMod, Nat.reduceLT, asD, asD1, cellDs, cellD, V.scal, D.scal, ← List.map_take, ← List.map_drop, List.drop_zero, List.map_cons, List.map_nil, pl93, idxV, hgg,  encLy, encFd, encCh, List.length_map, List.drop, Int.toNat_natCast, thenQ]
    rw [hR]
    refine ⟨fun h => ⟨h, fun h2 => by rw [h, h2]; rfl⟩, fun h => by rw [h]; rfl, fun h => ⟨h, fun h2 => by rw [h, h2]; rfl⟩, fun h => by rw [h]; rfl, fun h => by rw [eF, eP, if_neg (by simpa using h)], fun h => ?_⟩
    rw [if_pos (by simpa using h)] at eP
    clear hR
    have hc2 : (bif f.purpose != 3 then g.width != 0 else false) = (f.purpose != 3 && g.width != 0) := by cases f.purpose != 3 <;> rfl
    rw [hc2]
    refine ⟨fun h => ⟨h, by omega, by omega⟩, fun h => by rw [eF, eP, h]; rfl, fun h => ⟨⟨by omega, by omega, x1⟩, ?_⟩⟩
    rw [h, Bool.false_or] at eP
    rw [hnm] at hsl
    rw [eF, eP, hsl]
    cases (x.fields.take k).any (fun y => named y && sEq y.for_ f.for_) <;> rfl
noncomputable def E93 : Ent Tryz.prog := Ent.of 93 (fnOk Tryz.func93 rfl (by kernel_rfl)) (fun
    | [.agg [.d (.str x_name), .d (.sl 9 x_fields), .d (.bool x_lowBits)], .d (.int .i64 k)] => (dec encFd x_fields).bind fun x_fields => some (0 ≤ k ∧ k < (Ly.mk x_name x_fields x_lowBits).fields.length ∧ (Ly.mk x_name x_fields x_lowBits).fields.length ≤ 1000 ∧ ∀ f, (Ly.mk x_name x_fields x_lowBits).fields[k.toNat]? = some f → within f.purpose 0 4 = true, .d (.int .i64 (forErr (Ly.mk x_name x_fields x_lowBits) k)))
    | _ => none) fun args p r h => by
    split at h
    · obtain ⟨_, hd0, h0⟩ := Option.bind_eq_some_iff.1 h; clear h; have hd0 := dec_some hd0; subst hd0
      cases h0; exact t93 (Ly.mk _ _ _) _
    · cases h
@[go_sem] theorem E93_f : E93.f = 93 := rfl
@[go_sem] theorem E93_c (x_name : ByteArray) (x_fields : List (List D)) (x_lowBits : Bool) (k : Int) : E93.c [.agg [.d (.str x_name), .d (.sl 9 x_fields), .d (.bool x_lowBits)], .d (.int .i64 k)] = (dec encFd x_fields).bind fun x_fields => some (0 ≤ k ∧ k < (Ly.mk x_name x_fields x_lowBits).fields.length ∧ (Ly.mk x_name x_fields x_lowBits).fields.length ≤ 1000 ∧ ∀ f, (Ly.mk x_name x_fields x_lowBits).fields[k.toNat]? = some f → within f.purpose 0 4 = true, .d (.int .i64 (forErr (Ly.mk x_name x_fields x_lowBits) k))) := rfl
end Go.Proofs.YtgnnakibcjonbaaGreatDoor.VE

/- Chapter 16: fieldErr of the reference. -/
namespace Go.Proofs.YtgnnakibcjonbaaGreatDoor.VE
open Go Go.RowKit
set_option maxRecDepth 100000
set_option linter.unusedSimpArgs false
set_option linter.unusedVariables false
theorem refErr_at {l : List Ly} {x : Ly} {f : Fd} {i k : Nat} (hx : l[i]? = some x) (hf : x.fields[k]? = some f) : fieldErr l i k =
      if !baseNm f.name then 7 else if idxOf (fun y => sEq y.name f.name) x.fields 0 < k then 13 else if !within f.kind 0 7 then 4 else
      if formBad x f then 5 else if rangeBad f then 3 else if f.signed && f.purpose != 0 then 5 else
      if usedErr l i f ≠ 0 then usedErr l i f else if f.kind = 7 ∧ choicesErr f.choices ≠ 0 then choicesErr f.choices else
      if forErr x k ≠ 0 then forErr x k else if (((isText f.kind || f.kind == 6) && f.width == 0) || f.kind == 7) && sourceOf x k == x.fields.length then 22 else 0 := by
  rw [← refErr_eq]
  unfold refErr
  rw [Int.toNat_natCast, Int.toNat_natCast, hx]
  dsimp only
  rw [hf]

theorem t46 (l : List Ly) (i : Int) (k : Int) : PureOk Tryz.prog 46 [.d (.sl 3 (l.map encLy)), .d (.int .i64 i), .d (.int .i64 k)] (0 ≤ i ∧ i < l.length ∧ l.length ≤ 1000 ∧ ∀ x, l[i.toNat]? = some x → 0 ≤ k ∧ k < x.fields.length ∧ x.fields.length ≤ 1000 ∧ ∀ f, x.fields[k.toNat]? = some f → f.choices.length ≤ 1000) (.d (.int .i64 (fieldErr l i k))) := by
  refine pure_fnW (C := fun gm => ⟨T, gam [E86, E87, E88, E89, E90, E91, E92, E93, E94, E95, E76], dam (P := Tryz.prog) [], plT pl46, ⟨gm, fun _ _ => none⟩⟩) (fun _ => tok) Tryz.func46 rfl (Nat.le_of_ble_eq_true rfl) rfl (fun m => rfl) fun gm hp => ?_
  obtain ⟨i0, i1, l1, hx0⟩ := hp
  obtain ⟨i, rfl⟩ := Int.eq_ofNat_of_zero_le i0
  obtain ⟨x, hx⟩ : ∃ x, l[i]? = some x := ⟨_, List.getElem?_eq_getElem (by omega)⟩
  obtain ⟨k0, k1, x1, hf0⟩ := hx0 x hx
  obtain ⟨k, rfl⟩ := Int.eq_ofNat_of_zero_le k0
  obtain ⟨f, hf⟩ : ∃ f, x.fields[k]? = some f := ⟨_, List.getElem?_eq_getElem (by omega)⟩
  have c1 := hf0 f hf
  clear hx0 hf0
  have hg1 : (l.map encLy).getD i [] = encLy x := by rw [List.getD_eq_getElem?_getD, List.getElem?_map, hx]; rfl
  have hg2 : (x.fields.map encFd).getD k [] = encFd f := by rw [List.getD_eq_getElem?_getD, List.getElem?_map, hf]; rfl
  have eR := refErr_at hx hf
  unfold Tryz.f46
  refine W_pre tok (cok T _ _ _ gm) mixed (by kernel_rfl) ?_
  simp only [go_sem, ↓reduceIte, Nat.reduceEqDiff, reduceCtorEq, Nat.reduceAdd, Nat.reduceLeDiff, Nat.reduceSub, Nat.reduceMul, Nat.reduceMod, Nat.reduceLT, asD, asD1, cellDs, cellD, V.scal, D.scal, ← List.map_take, ← List.map_drop, List.drop_zero, List.map_cons, List.map_nil, pl46, idxV, hg1, hg2, encLy, encFd, encCh, List.length_map, List.drop, Int.toNat_natCast, thenQ]
  refine W_pre tok (cok T _ _ _ gm) mixed (by kernel_rfl) ?_
  simp only [go_sem, ↓reduceIte, Nat.reduceEqDiff, reduceCtorEq, Nat.reduceAdd, Nat.reduceLeDiff, Nat.reduceSub, Nat.reduceMul, Nat.reduceMod, Nat.reduceLT, asD, asD1, cellDs, cellD, V.scal, D.scal, ← List.map_take, ← List.map_drop, List.drop_zero, List.map_cons, List.map_nil, pl46, idxV, hg1, hg2, encLy, encFd, encCh, List.length_map, List.drop, Int.toNat_natCast, thenQ]
  refine ⟨⟨by omega, by omega⟩, ⟨by omega, by omega⟩, ⟨by omega, by omega⟩, ⟨⟨by omega, by omega⟩, by omega, by omega⟩, ?_⟩
  refine W_st (l := [(0, .d (.sl 3 (l.map encLy))), (1, .d (.int .i64 (i : Int))), (2, .d (.int .i64 (k : Int))), (7, .ptr 7 0), (8, .ptr 8 0)]) (os' := osL [(7, .box [.d (.str x.name), .d (.sl 9 (x.fields.map encFd)), .d (.bool x.lowBits)] 37), (8, .box ((encFd f).map .d) 49)]) ⟨rfl, rfl, rfl, rfl, rfl, trivial⟩ (by funext o; by_cases h7 : o = 7 <;> by_cases h8 : o = 8 <;> simp [osL, upd, encFd, h7, h8]) ?_
  refine W_pre tok (cok T _ _ _ gm) mixed (by kernel_rfl) ?_
  simp only [go_sem, ↓reduceIte, Nat.reduceEqDiff, reduceCtorEq, Nat.reduceAdd, Nat.reduceLeDiff, Nat.reduceSub, Nat.reduceMul, Nat.reduceMod, Nat.reduceLT, asD, asD1, cellDs, cellD, V.scal, D.scal, ← List.map_take, ← List.map_drop, List.drop_zero, List.map_cons, List.map_nil, pl46, idxV, hg1, hg2, encLy, encFd, encCh, List.length_map, List.drop, Int.toNat_natCast, thenQ]
  refine ⟨fun h => by rw [eR, if_pos h], fun h => ?_⟩
  rw [if_neg (by rw [h]; simp)] at eR
  refine W_pre tok (cok T _ _ _ gm) mixed (by kernel_rfl) ?_
  simp only [go_sem, ↓reduceIte, Nat.reduceEqDiff, reduceCtorEq, Nat.reduceAdd, Nat.reduceLeDiff, Nat.reduceSub, Nat.reduceMul, Nat.reduceMod, Nat.reduceLT, asD, asD1, cellDs, cellD, V.scal, D.scal, ← List.map_take, ← List.map_drop, List.drop_zero, List.map_cons, List.map_nil, pl46, idxV, hg1, hg2, encLy, encFd, encCh, List.length_map, List.drop, Int.toNat_natCast, thenQ]
  refine ⟨x1, fun h => by rw [eR, if_pos (of_decide_eq_true h)], fun h => ?_⟩
  rw [if_neg (of_decide_eq_false h)] at eR
  refine W_pre tok (cok T _ _ _ gm) mixed (by kernel_rfl) ?_
  simp only [go_sem, ↓reduceIte, Nat.reduceEqDiff, reduceCtorEq, Nat.reduceAdd, Nat.reduceLeDiff, Nat.reduceSub, Nat.reduceMul, Nat.reduceMod, Nat.reduceLT, asD, asD1, cellDs, cellD, V.scal, D.scal, ← List.map_take, ← List.map_drop, List.drop_zero, List.map_cons, List.map_nil, pl46, idxV, hg1, hg2, encLy, encFd, encCh, List.length_map, List.drop, Int.toNat_natCast, thenQ]
  refine ⟨fun h => by rw [eR, if_pos h], fun h => ?_⟩
  rw [if_neg (by rw [h]; simp)] at eR
  refine W_pre tok (cok T _ _ _ gm) mixed (by kernel_rfl) ?_
  simp only [go_sem, ↓reduceIte, Nat.reduceEqDiff, reduceCtorEq, Nat.reduceAdd, Nat.reduceLeDiff, Nat.reduceSub, Nat.reduceMul, Nat.reduceMod, Nat.reduceLT, asD, asD1, cellDs, cellD, V.scal, D.scal, ← List.map_take, ← List.map_drop, List.drop_zero, List.map_cons, List.map_nil, pl46, idxV, hg1, hg2, encLy, encFd, encCh, List.length_map, List.drop, Int.toNat_natCast, thenQ]
  refine ⟨fun h => ?_, fun h => ?_⟩
  · have hb : formBad x f = true := by cases c : formBad x f with | true => rfl | false => rw [c] at h; cases h
    rw [eR, if_pos hb, if_pos hb]
  have hb : formBad x f = false := by cases c : formBad x f with | false => rfl | true => rw [c] at h; cases h
  rw [if_neg (by rw [hb]; simp)] at eR
  refine W_pre tok (cok T _ _ _ gm) mixed (by kernel_rfl) ?_
  simp only [go_sem, ↓reduceIte, Nat.reduceEqDiff, reduceCtorEq, Nat.reduceAdd, Nat.reduceLeDiff, Nat.reduceSub, Nat.reduceMul, Nat.reduceMod, Nat.reduceLT, asD, asD1, cellDs, cellD, V.scal, D.scal, ← List.map_take, ← List.map_drop, List.drop_zero, List.map_cons, List.map_nil, pl46, idxV, hg1, hg2, encLy, encFd, encCh, List.length_map, List.drop, Int.toNat_natCast, thenQ]
  refine ⟨fun h => ?_, fun h => ?_⟩
  · have hr : rangeBad f = true := by cases c : rangeBad f with | true => rfl | false => unfold rangeErr at h; rw [c] at h; cases h
    rw [eR, if_pos hr]
    unfold rangeErr
    rw [if_pos hr]
  have hr : rangeBad f = false := by cases c : rangeBad f with | false => rfl | true => unfold rangeErr at h; rw [c] at h; cases h
  rw [if_neg (by rw [hr]; simp)] at eR
  have hpw : within f.purpose 0 4 = true := by
    unfold rangeBad at hr
    simp only [Bool.or_eq_false_iff, Bool.not_eq_false'] at hr
    exact hr.1.2
  have hk56 : f.kind = 5 ∨ f.kind = 6 → f.choices = [] := fun hk => by
    unfold formBad at hb
    simp only [Bool.or_eq_false_iff] at hb
    have h1 := hb.1.1.2.2
    rw [Bool.and_eq_false_iff] at h1
    rcases h1 with h1 | h1
    · have : f.kind ≠ 7 := by omega
      simp [this] at h1
    · have := of_decide_eq_false h1
      exact List.eq_nil_of_length_eq_zero (by omega)
  refine W_pre tok (cok T _ _ _ gm) mixed (by kernel_rfl) ?_
  simp only [go_sem, ↓reduceIte, Nat.reduceEqDiff, reduceCtorEq, Nat.reduceAdd, Nat.reduceLeDiff, Nat.reduceSub, Nat.reduceMul, Nat.reduceMod, Nat.reduceLT, asD, asD1, cellDs, cellD, V.scal, D.scal, ← List.map_take, ← List.map_drop, List.drop_zero, List.map_cons, List.map_nil, pl46, idxV, hg1, hg2, encLy, encFd, encCh, List.length_map, List.drop, Int.toNat_natCast, thenQ]
  have cs : (bif f.signed then f.purpose != 0 else false) = (f.signed && f.purpose != 0) := by cases f.signed <;> rfl
  rw [cs]
  refine ⟨fun h => by rw [eR, if_pos h], fun h => ?_⟩
  rw [if_neg (by rw [h]; simp)] at eR
  refine W_pre tok (cok T _ _ _ gm) mixed (by kernel_rfl) ?_
  simp only [go_sem, ↓reduceIte, Nat.reduceEqDiff, reduceCtorEq, Nat.reduceAdd, Nat.reduceLeDiff, Nat.reduceSub, Nat.reduceMul, Nat.reduceMod, Nat.reduceLT, asD, asD1, cellDs, cellD, V.scal, D.scal, ← List.map_take, ← List.map_drop, List.drop_zero, List.map_cons, List.map_nil, pl46, idxV, hg1, hg2, encLy, encFd, encCh, List.length_map, List.drop, Int.toNat_natCast, thenQ]
  refine ⟨⟨by omega, by omega, l1, c1, hk56⟩, fun h => by rw [eR, if_pos (by simpa using h)], fun h => ?_⟩
  rw [if_neg (by simpa using h)] at eR
  refine W_meet (α := Unit) (fun _ => osL [(7, .box [.d (.str x.name), .d (.sl 9 (x.fields.map encFd)), .d (.bool x.lowBits)] 37), (8, .box ((encFd f).map .d) 49)]) (fun _ => [(2, .d (.int .i64 (k : Int))), (7, .ptr 7 0), (8, .ptr 8 0)]) (fun _ => ¬ (f.kind = 7 ∧ choicesErr f.choices ≠ 0)) tok (cok T _ _ _ gm) mixed (by kernel_rfl) ?_ fun hc z hz => ?_
  · simp only [go_sem, ↓reduceIte, Nat.reduceEqDiff, reduceCtorEq, Nat.reduceAdd, Nat.reduceLeDiff, Nat.reduceSub, Nat.reduceMul, Nat.reduceMod, Nat.reduceLT, asD, asD1, cellDs, cellD, V.scal, D.scal, ← List.map_take, ← List.map_drop, List.drop_zero, List.map_cons, List.map_nil, pl46, idxV, hg1, hg2, encLy, encFd, encCh, List.length_map, List.drop, Int.toNat_natCast, thenQ]
    refine ⟨fun h7 => ⟨fun h8 => ?_, fun h8 => ⟨(), fun h9 => h9.2 (by simpa using h8)⟩⟩, fun h7 => ⟨(), fun h9 => by simp [h9.1] at h7⟩⟩
    rw [eR, if_pos ⟨by simpa using h7, by simpa using h8⟩]
  rw [if_neg hz] at eR
  clear hc hz
  refine W_pre tok (cok T _ _ _ gm) mixed (by kernel_rfl) ?_
  simp only [go_sem, ↓reduceIte, Nat.reduceEqDiff, reduceCtorEq, Nat.reduceAdd, Nat.reduceLeDiff, Nat.reduceSub, Nat.reduceMul, Nat.reduceMod, Nat.reduceLT, asD, asD1, cellDs, cellD, V.scal, D.scal, ← List.map_take, ← List.map_drop, List.drop_zero, List.map_cons, List.map_nil, pl46, idxV, hg1, hg2, encLy, encFd, encCh, List.length_map, List.drop, Int.toNat_natCast, thenQ]
  refine ⟨⟨by omega, by omega, x1, fun g hg => by obtain rfl := Option.some.inj (hf.symm.trans hg); exact hpw⟩, fun h => by rw [eR, if_pos (by simpa using h)], fun h => ?_⟩
  rw [if_neg (by simpa using h)] at eR
  refine W_run tok (cok T _ _ _ gm) mixed (by kernel_rfl) ?_
  simp only [go_sem, ↓reduceIte, Nat.reduceEqDiff, reduceCtorEq, Nat.reduceAdd, Nat.reduceLeDiff, Nat.reduceSub, Nat.reduceMul, Nat.reduceMod, Nat.reduceLT, asD, asD1, cellDs, cellD, V.scal, D.scal, ← List.map_take, ← List.map_drop, List.drop_zero, List.map_cons, List.map_nil, pl46, idxV, hg1, hg2, encLy, encFd, encCh, List.length_map, List.drop, Int.toNat_natCast, thenQ]
  refine ⟨fun h => by rw [h]; rfl, fun h => ⟨h, by omega, by omega, x1⟩, ?_⟩
  rw [eR]
  have hq : (bif bif bif isText f.kind || f.kind == 6 then f.width == 0 else false then true else f.kind == 7 then sourceOf x (k : Int) == (x.fields.length : Int) else false) = ((((isText f.kind || f.kind == 6) && f.width == 0) || f.kind == 7) && sourceOf x (k : Int) == (x.fields.length : Int)) := by
    cases isText f.kind || f.kind == 6 <;> cases f.width == 0 <;> cases f.kind == 7 <;> rfl
  rw [hq]
  cases (((isText f.kind || f.kind == 6) && f.width == 0) || f.kind == 7) && sourceOf x (k : Int) == (x.fields.length : Int) <;> rfl
noncomputable def E46 : Ent Tryz.prog := Ent.of 46 (fnOk Tryz.func46 rfl (by kernel_rfl)) (fun
    | [.d (.sl 3 l), .d (.int .i64 i), .d (.int .i64 k)] => (dec encLy l).bind fun l => some (0 ≤ i ∧ i < l.length ∧ l.length ≤ 1000 ∧ ∀ x, l[i.toNat]? = some x → 0 ≤ k ∧ k < x.fields.length ∧ x.fields.length ≤ 1000 ∧ ∀ f, x.fields[k.toNat]? = some f → f.choices.length ≤ 1000, .d (.int .i64 (fieldErr l i k)))
    | _ => none) fun args p r h => by
    split at h
    · obtain ⟨_, hd0, h0⟩ := Option.bind_eq_some_iff.1 h; clear h; have hd0 := dec_some hd0; subst hd0
      cases h0; exact t46 _ _ _
    · cases h
@[go_sem] theorem E46_f : E46.f = 46 := rfl
@[go_sem] theorem E46_c (l : List (List D)) (i : Int) (k : Int) : E46.c [.d (.sl 3 l), .d (.int .i64 i), .d (.int .i64 k)] = (dec encLy l).bind fun l => some (0 ≤ i ∧ i < l.length ∧ l.length ≤ 1000 ∧ ∀ x, l[i.toNat]? = some x → 0 ≤ k ∧ k < x.fields.length ∧ x.fields.length ≤ 1000 ∧ ∀ f, x.fields[k.toNat]? = some f → f.choices.length ≤ 1000, .d (.int .i64 (fieldErr l i k))) := rfl
end Go.Proofs.YtgnnakibcjonbaaGreatDoor.VE
