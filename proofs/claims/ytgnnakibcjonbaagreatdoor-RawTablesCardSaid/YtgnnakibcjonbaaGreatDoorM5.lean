/- Texts put together (merge.py). -/
import Derived.Test.YtgnnakibcjonbaaGreatDoorM4
import Derived.Deep.LoopGhost
import Derived.Test.YtgnnakibcjonbaaGreatDoorProg
import Derived.KernelRfl
/- The evaluator: regions that draw their order, by a plan, are sound. -/
namespace Go.Proofs.YtgnnakibcjonbaaGreatDoor.VE
open Go Go.RowKit
set_option linter.unusedVariables false
set_option linter.unusedSimpArgs false
/-- For each operation, as bits, what it waits for, itself or through others. -/
def maskOf (acc : List Nat) : List Edge → Nat → Nat
  | [], s => s
  | e :: r, s => maskOf acc r (if Region.binds .any e then s ||| 2 ^ e.on ||| acc.getD e.on 0 else s)
def masksL : List Oper → List Nat → List Nat
  | [], acc => acc
  | o :: r, acc => masksL r (acc ++ [maskOf acc o.after.toList 0])
def masks (ops : Array Oper) : List Nat := masksL ops.toList []
theorem maskOf_spec {acc : List Nat} {i : Nat} : ∀ (l : List Edge) (s : Nat), (maskOf acc l s).testBit i = true → s.testBit i = true ∨ ∃ e ∈ l, Region.binds .any e = true ∧ (e.on = i ∨ (acc.getD e.on 0).testBit i = true)
  | [], s, h => .inl h
  | e :: r, s, h => by
    unfold maskOf at h
    rcases maskOf_spec r _ h with h | ⟨e', h1, h2⟩
    · split at h
      · rename_i hb
        rw [Nat.testBit_or, Nat.testBit_or, Nat.testBit_two_pow] at h
        simp only [Bool.or_eq_true, decide_eq_true_eq] at h
        rcases h with (h | h) | h
        · exact .inl h
        · exact .inr ⟨e, by simp, hb, .inl h⟩
        · exact .inr ⟨e, by simp, hb, .inr h⟩
      · exact .inl h
    · exact .inr ⟨e', List.mem_cons_of_mem _ h1, h2⟩
theorem masksL_length : ∀ (l : List Oper) (acc : List Nat), (masksL l acc).length = acc.length + l.length
  | [], acc => rfl
  | o :: r, acc => by unfold masksL; rw [masksL_length r, List.length_append, List.length_cons, List.length_cons, List.length_nil]; omega
theorem masksL_pre : ∀ (l : List Oper) (acc : List Nat) (j : Nat), j < acc.length → (masksL l acc)[j]? = acc[j]?
  | [], acc, j, _ => rfl
  | o :: r, acc, j, h => by
    unfold masksL
    rw [masksL_pre r _ j (by simp; omega), List.getElem?_append_left h]
theorem masksL_at : ∀ (l : List Oper) (acc : List Nat) (k : Nat) (o : Oper), l[k]? = some o → (masksL l acc)[acc.length + k]? = some (maskOf ((masksL l acc).take (acc.length + k)) o.after.toList 0)
  | [], acc, k, o, h => by simp at h
  | o' :: r, acc, 0, o, h => by
    simp only [List.getElem?_cons_zero, Option.some.injEq] at h
    subst h
    have hp := masksL_pre r (acc ++ [maskOf acc o'.after.toList 0])
    have ht : (masksL r (acc ++ [maskOf acc o'.after.toList 0])).take acc.length = acc := by
      apply List.ext_getElem?
      intro q
      rw [List.getElem?_take]
      split
      · rename_i hq
        rw [hp q (by simp; omega), List.getElem?_append_left hq]
      · rename_i hq
        rw [List.getElem?_eq_none (by omega)]
    unfold masksL
    rw [Nat.add_zero, ht, hp acc.length (by simp), List.getElem?_append_right (Nat.le_refl _)]
    simp
  | o' :: r, acc, k + 1, o, h => by
    rw [List.getElem?_cons_succ] at h
    have ih := masksL_at r (acc ++ [maskOf acc o'.after.toList 0]) k o h
    unfold masksL
    rw [List.length_append, List.length_cons, List.length_nil] at ih
    rw [show acc.length + (k + 1) = acc.length + (0 + 1) + k by omega]
    exact ih
theorem masks_spec {ops : Array Oper} {i j : Nat} (h : ((masks ops).getD j 0).testBit i = true) : ∃ o e, ops[j]? = some o ∧ e ∈ o.after.toList ∧ Region.binds .any e = true ∧ (e.on = i ∨ (e.on < j ∧ ((masks ops).getD e.on 0).testBit i = true)) := by
  cases ho : ops[j]? with
  | none =>
    have : (masks ops)[j]? = none := by
      apply List.getElem?_eq_none
      unfold masks
      rw [masksL_length]
      have := Array.getElem?_eq_none_iff.1 ho
      simp
      omega
    rw [List.getD_eq_getElem?_getD, this] at h
    simp at h
  | some o =>
    have hl : ops.toList[j]? = some o := by rw [Array.getElem?_toList]; exact ho
    have hm := masksL_at ops.toList [] j o hl
    simp only [List.length_nil, Nat.zero_add] at hm
    rw [List.getD_eq_getElem?_getD] at h
    unfold masks at h
    rw [hm, Option.getD_some] at h
    rcases maskOf_spec _ _ h with h | ⟨e, h1, h2, h3⟩
    · simp at h
    · refine ⟨o, e, rfl, h1, h2, h3.imp id fun h3 => ?_⟩
      rw [List.getD_eq_getElem?_getD, List.getElem?_take] at h3
      split at h3
      · rename_i hlt
        exact ⟨hlt, by rw [List.getD_eq_getElem?_getD]; exact h3⟩
      · simp at h3
/-- What is listed waits for nothing that is not. -/
def Closed (ops : Array Oper) (listed : Array Bool) : Prop := ∀ i o, ops[i]? = some o → listed.getD i false = true → ∀ e ∈ o.after.toList, Region.binds .any e = true → listed.getD e.on false = true
theorem closed_mask {ops : Array Oper} {listed : Array Bool} (hc : Closed ops listed) {i : Nat} : ∀ (n j : Nat), j < n → (∀ o, ops[j]? = some o → ∀ e ∈ o.after.toList, Region.binds .any e = true → listed.getD e.on false = true) → ((masks ops).getD j 0).testBit i = true → listed.getD i false = true
  | 0, j, hj, _, _ => by omega
  | n + 1, j, hj, hd, h => by
    obtain ⟨o, e, ho, he, hb, h3⟩ := masks_spec h
    have hl := hd o ho e he hb
    rcases h3 with h3 | ⟨hlt, h3⟩
    · rw [← h3]; exact hl
    · exact closed_mask hc n e.on (by omega) (fun o' ho' e' he' hb' => hc _ o' ho' hl e' he' hb') h3
def noWait (ops : Array Oper) (i j : Nat) : Bool :=
  match ops[i]? with
  | some o => o.after.toList.all fun e => !(Region.binds .any e && e.on == j)
  | none => true
def lateB (ops : Array Oper) (mk : Nat) (rc : List Nat) : List (Nat × List Nat) → Bool
  | [] => true
  | q :: b => (!memB q.1 rc || (selfOk ops q.1 && b.all fun q' => mk.testBit q'.1 || lateAt ops q.1 q'.1)) && lateB ops mk rc b
def allocB (ops : Array Oper) (r : Nat × List Nat) : Bool :=
  match ops[r.1]? with
  | some o => !isAlloc o.op || (o.guard.isNone && decide (o.dst.getD 20000 < 20000) && r.2.isEmpty && (List.range ops.size).all fun j => j == r.1 || (ops[j]?).bind (·.dst) != o.dst)
  | none => true
def planL (ops : Array Oper) (ms : List Nat) : List (Nat × List Nat) → List (Nat × List Nat) → Bool
  | _, [] => true
  | b, r :: l => (b.all fun q => noWait ops q.1 r.1 && ((ms.getD r.1 0).testBit q.1 || pairOk ops q r)) && lateB ops (ms.getD r.1 0) r.2 b && allocB ops r && planL ops ms (b ++ [r]) l
def planOk (ops : Array Oper) (l : List (Nat × List Nat)) : Bool :=
  (List.range ops.size).all (fun i => memB i (l.map (·.1)) && match ops[i]? with
    | some o => o.after.toList.all fun e => !Region.binds .any e || decide (e.on < i)
    | none => true) && nodupB (l.map (·.1)) && l.all (fun q => decide (q.1 < ops.size)) && planL ops (masks ops) [] l
theorem planL_at {ops : Array Oper} {ms : List Nat} {r : Nat × List Nat} : ∀ {A b B : List (Nat × List Nat)}, planL ops ms b (A ++ r :: B) = true → planL ops ms (b ++ A) (r :: B) = true
  | [], b, B, h => by simpa using h
  | q :: A, b, B, h => by
    rw [List.cons_append] at h
    unfold planL at h
    rw [Bool.and_eq_true] at h
    have := planL_at (A := A) (b := b ++ [q]) h.2
    simpa using this
theorem lateB_spec {ops : Array Oper} {mk : Nat} {rc : List Nat} : ∀ {b : List (Nat × List Nat)}, lateB ops mk rc b = true → b.Pairwise (fun q q' => q.1 ∈ rc → mk.testBit q'.1 = true ∨ lateAt ops q.1 q'.1 = true) ∧ ∀ q ∈ b, q.1 ∈ rc → selfOk ops q.1 = true
  | [], _ => ⟨List.Pairwise.nil, fun q h => by simp at h⟩
  | q :: b, h => by
    unfold lateB at h
    rw [Bool.and_eq_true, Bool.or_eq_true, Bool.and_eq_true] at h
    obtain ⟨h1, h2⟩ := h
    have ih := lateB_spec h2
    have key : q.1 ∈ rc → selfOk ops q.1 = true ∧ ∀ q' ∈ b, mk.testBit q'.1 = true ∨ lateAt ops q.1 q'.1 = true := fun hm => by
      rcases h1 with h1 | h1
      · rw [memB_iff.2 hm] at h1; simp at h1
      · exact ⟨h1.1, fun q' hq' => by simpa using List.all_eq_true.1 h1.2 q' hq'⟩
    refine ⟨List.pairwise_cons.2 ⟨fun q' hq' hm => (key hm).2 q' hq', ih.1⟩, fun q' hq' hm => ?_⟩
    rcases List.mem_cons.1 hq' with rfl | hq'
    · exact (key hm).1
    · exact ih.2 q' hq' hm
def restP (l : List (Nat × List Nat)) (listed : Array Bool) : List (Nat × List Nat) := l.filter fun q => !listed.getD q.1 true
theorem getD_set_ne {listed : Array Bool} {i q : Nat} (h : q ≠ i) (b : Bool) : (listed.setIfInBounds i true).getD q b = listed.getD q b := by
  simp [Array.getD_eq_getD_getElem?, Array.getElem?_setIfInBounds, Ne.symm h]
theorem getD_set_same {listed : Array Bool} {i : Nat} (h : i < listed.size) (b : Bool) : (listed.setIfInBounds i true).getD i b = true := by
  simp [Array.getD_eq_getD_getElem?, Array.getElem?_setIfInBounds, h]
theorem restP_set {A : List (Nat × List Nat)} {listed : Array Bool} {i : Nat} (h : i ∉ A.map (·.1)) : restP A (listed.setIfInBounds i true) = restP A listed := by
  apply List.filter_congr
  intro q hq
  rw [getD_set_ne fun e => h (List.mem_map.2 ⟨q, hq, e⟩)]
section
variable {P : Program} {N : Nat} {w0 : World} {Pr X : Nat → Prop} {Z : Nat → Option Value} {ρ : Nat → Value} {st : St} {a : Act} {w : World} {Q : Exit → Act → World → Prop}
theorem sstep_run {C : Cx} (hT : TOK P C.T) (hΓ : COk P C) (hg : Gam N w0 Pr X Z ρ st a w) {ops : Array Oper} {o : Oper} (hd : ∀ t, o.dst = some t → t < N) (hN : N ≤ 100000) {p : Prop} {s : St} (h : sstep C ops o st = some (p, s)) (hp : p) :
    if Region.wanted o (yielded ops a.tmps) then o.wp P a w (Sat N w0 Pr X Z (· = s)) Q else Sat N w0 Pr X Z (· = s) (a.put o.dst undef) w := by
  unfold sstep at h
  cases hps : pstep C ops o st with
  | some q =>
    rw [hps] at h
    simp only [Option.some.injEq] at h
    subst h
    exact pstep_run hT hΓ hg hd hps hp
  | none =>
    rw [hps] at h
    simp only at h
    unfold estep at h
    split at h
    · rename_i hc
      rw [Bool.and_eq_true] at hc
      have hgd : o.guard = none := by simpa using hc.2
      have hw : Region.wanted o (yielded ops a.tmps) = true := by unfold Region.wanted; rw [hgd]
      rw [if_pos hw]
      obtain ⟨⟨p', v, s1⟩, ha, e⟩ := Option.map_eq_some_iff.1 h
      simp only [Prod.mk.injEq] at e
      obtain ⟨rfl, rfl⟩ := e
      have hdl : dOf o < 100000 := by
        unfold dOf
        cases e : o.dst with
        | none => simp
        | some t => exact Nat.lt_of_lt_of_le (hd t e) hN
      refine Oper.wp_mono ?_ (step_run (d := dOf o) hT hΓ hg (by unfold stepV; rw [eff_val hc.1]; exact ha) hdl hp)
      rintro a' w' ⟨z, rfl, ho⟩
      obtain ⟨ρ', hg'⟩ := ho.put o.dst hd
      exact ⟨_, ρ', rfl, hg'⟩
    · cases h
theorem draw_any {C : Cx} (hT : TOK P C.T) (hΓ : COk P C) {ops : Array Oper} (hd : dstsOk N ops = true) {l : List (Nat × List Nat)} (hl : planOk ops l = true) {K : St → Prop} (hK : ∀ a w, Sat N w0 Pr X Z K a w → Q .normal a w) :
    ∀ (fuel : Nat) (listed : Array Bool) (st : St) (ρ : Nat → Value) (a : Act) (w : World), listed.size = ops.size → (restP l listed).length ≤ fuel → Closed ops listed →
      (∀ q ∈ restP l listed, ∀ o, ops[q.1]? = some o → isAlloc o.op = true → ∀ t, o.dst = some t → st.os t = none) →
      Gam N w0 Pr X Z ρ st a w → runD C ops (restP l listed) st K → wpAny P .any ops Q fuel listed a w := by
  have hN : N ≤ 100000 := by
    unfold dstsOk at hd
    rw [Bool.and_eq_true, decide_eq_true_eq] at hd
    exact hd.1
  unfold planOk at hl
  rw [Bool.and_eq_true, Bool.and_eq_true, Bool.and_eq_true] at hl
  obtain ⟨⟨⟨p1, p2⟩, p3⟩, p4⟩ := hl
  have all1 : ∀ i, i < ops.size → i ∈ l.map (·.1) := fun i hi => by
    have := List.all_eq_true.1 p1 i (List.mem_range.2 hi)
    rw [Bool.and_eq_true] at this
    exact memB_iff.1 this.1
  have edge : ∀ i o, ops[i]? = some o → ∀ e ∈ o.after.toList, Region.binds .any e = true → e.on < i := fun i o ho e he hb => by
    have := List.all_eq_true.1 p1 i (List.mem_range.2 (Array.getElem?_eq_some_iff.1 ho).1)
    rw [Bool.and_eq_true, ho] at this
    have := List.all_eq_true.1 this.2 e he
    simpa [hb] using this
  have hnd : (l.map (·.1)).Nodup := nodupB_nodup p2
  intro fuel
  induction fuel with
  | zero =>
    intro listed st ρ a w hsz hf hcl hfr hg h
    have hr : restP l listed = [] := List.eq_nil_of_length_eq_zero (by omega)
    rw [hr] at h
    refine ⟨?_, hK a w ⟨st, ρ, h, hg⟩⟩
    apply List.eq_nil_of_length_eq_zero
    rcases Nat.eq_zero_or_pos (Region.ready .any ops listed).length with e | e
    · exact e
    · have hm : (Region.ready .any ops listed)[0] ∈ Region.ready .any ops listed := List.getElem_mem e
      have h1 := (ready_spec hm).1
      unfold rest at h1
      rw [List.mem_filter, List.mem_range] at h1
      obtain ⟨q, hq, e2⟩ := List.mem_map.1 (all1 _ h1.1)
      have : q ∈ restP l listed := List.mem_filter.2 ⟨hq, by rw [e2]; exact h1.2⟩
      rw [hr] at this
      cases this
  | succ fuel ih =>
    intro listed st ρ a w hsz hf hcl hfr hg h
    refine ⟨fun hnone => ?_, fun i hi => ?_⟩
    · cases hr : restP l listed with
      | nil =>
        rw [hr] at h
        exact hK a w ⟨st, ρ, h, hg⟩
      | cons r R =>
        exfalso
        have hmem : r ∈ restP l listed := by rw [hr]; simp
        obtain ⟨hrl, hrn⟩ := List.mem_filter.1 hmem
        have hlt : r.1 < ops.size := by simpa using List.all_eq_true.1 p3 r hrl
        have ho : ops[r.1]? = some ops[r.1] := Array.getElem?_eq_getElem hlt
        obtain ⟨A, B, hAB⟩ := List.append_of_mem hrl
        -- what stands ahead of r is listed
        have hA : restP A listed = [] := by
          have : restP l listed = restP A listed ++ r :: restP B listed := by
            rw [hAB]; unfold restP; rw [List.filter_append, List.filter_cons, if_pos hrn]
          rw [hr] at this
          cases hA : restP A listed with
          | nil => rfl
          | cons q A' =>
            rw [hA, List.cons_append, List.cons.injEq] at this
            have hq : q ∈ restP A listed := by rw [hA]; simp
            have hqA := (List.mem_filter.1 hq).1
            rw [hAB, List.map_append, List.map_cons] at hnd
            have := (List.nodup_append.1 hnd).2.2 q.1 (List.mem_map.2 ⟨q, hqA, rfl⟩) r.1 (by simp)
            exact (this (by rw [← ‹r = q ∧ _›.1])).elim
        have hready : r.1 ∈ Region.ready .any ops listed := by
          unfold Region.ready
          rw [List.mem_filter]
          refine ⟨List.mem_range.2 hlt, ?_⟩
          rw [Bool.and_eq_true]
          refine ⟨hrn, ?_⟩
          rw [ho]
          simp only [Option.map_some, Option.getD_some]
          rw [Array.all_eq_true_iff_forall_mem]
          intro e he
          cases hb : Region.binds .any e with
          | false => rfl
          | true =>
            simp only [Bool.not_true, Bool.false_or]
            have hel := edge _ _ ho e (by simpa using he) hb
            obtain ⟨q, hq, e2⟩ := List.mem_map.1 (all1 e.on (by omega))
            rw [hAB] at hq
            rcases List.mem_append.1 hq with hqA | hqB
            · -- listed
              have hnot : ¬ (!listed.getD q.1 true) = true := fun hc => by
                have : q ∈ restP A listed := List.mem_filter.2 ⟨hqA, hc⟩
                rw [hA] at this
                cases this
              rw [e2] at hnot
              have hin : e.on < listed.size := by omega
              simp [Array.getD_eq_getD_getElem?, hin] at hnot ⊢
              exact hnot
            · rcases List.mem_cons.1 hqB with rfl | hqB
              · omega
              · exfalso
                obtain ⟨B1, B2, hB⟩ := List.append_of_mem hqB
                rw [hAB, hB] at p4
                have h4 := planL_at (A := A ++ r :: B1) (b := []) (r := q) (B := B2) (by simpa using p4)
                unfold planL at h4
                rw [Bool.and_eq_true, Bool.and_eq_true, Bool.and_eq_true] at h4
                have h5 := List.all_eq_true.1 h4.1.1.1 r (by simp)
                rw [Bool.and_eq_true] at h5
                have h6 := h5.1
                unfold noWait at h6
                rw [ho] at h6
                have := List.all_eq_true.1 h6 e (by simpa using he)
                rw [hb, ← e2] at this
                simp at this
        rw [hnone] at hready
        cases hready
    · obtain ⟨hmem, o, ho, hdeps⟩ := ready_spec hi
      unfold rest at hmem
      rw [List.mem_filter, List.mem_range] at hmem
      obtain ⟨⟨i', rc⟩, hq, e2⟩ := List.mem_map.1 (all1 i hmem.1)
      simp only at e2
      subst e2
      obtain ⟨A, B, hAB⟩ := List.append_of_mem hq
      have hnd2 := hnd
      rw [hAB, List.map_append, List.map_cons] at hnd2
      obtain ⟨n1, n2, n3⟩ := List.nodup_append.1 hnd2
      have nA : i' ∉ A.map (·.1) := fun hm => n3 i' hm i' (by simp) rfl
      have nB : i' ∉ B.map (·.1) := (List.nodup_cons.1 n2).1
      have hs : restP l listed = restP A listed ++ (i', rc) :: restP B listed := by
        rw [hAB]; unfold restP; rw [List.filter_append, List.filter_cons, if_pos hmem.2]
      have hisz : i' < listed.size := by omega
      have hs2 : restP l (listed.setIfInBounds i' true) = restP A listed ++ restP B listed := by
        rw [hAB]
        unfold restP
        rw [List.filter_append, List.filter_cons, if_neg (by rw [getD_set_same hisz]; simp)]
        have e1 := restP_set (listed := listed) nA
        have e2 := restP_set (listed := listed) nB
        unfold restP at e1 e2
        rw [e1, e2]
      have h4 : planL ops (masks ops) ([] ++ A) ((i', rc) :: B) = true := planL_at (by rw [← hAB]; exact p4)
      rw [List.nil_append] at h4
      unfold planL at h4
      rw [Bool.and_eq_true, Bool.and_eq_true, Bool.and_eq_true] at h4
      obtain ⟨⟨⟨h5, h6⟩, h7⟩, _⟩ := h4
      -- what is ahead and not listed is not waited for
      have hno : ∀ q ∈ restP A listed, q ∈ A ∧ ((masks ops).getD i' 0).testBit q.1 = false := fun q hq => by
        obtain ⟨hqA, hqn⟩ := List.mem_filter.1 hq
        refine ⟨hqA, ?_⟩
        cases hb : ((masks ops).getD i' 0).testBit q.1 with
        | false => rfl
        | true =>
          have hl := closed_mask hcl (i' + 1) i' (by omega) (fun o' ho' e he hb => by
            rw [ho] at ho'
            simp only [Option.some.injEq] at ho'
            subst ho'
            exact hdeps e he hb) hb
          have hlt : q.1 < listed.size := by
            rw [hsz]
            have : q ∈ l := by rw [hAB]; exact List.mem_append_left _ hqA
            simpa using List.all_eq_true.1 p3 q this
          simp [Array.getD_eq_getD_getElem?, hlt] at hl hqn
          rw [hl] at hqn
          cases hqn
      have hal : AllocOk o rc := fun hA => by
        unfold allocB at h7
        simp only [ho, hA, Bool.not_true, Bool.false_or, Bool.and_eq_true, List.isEmpty_iff, Option.isNone_iff_eq_none, bne_iff_ne, decide_eq_true_eq] at h7
        obtain ⟨⟨⟨g1, g3⟩, g4⟩, g5⟩ := h7
        cases ht : o.dst with
        | none => rw [ht] at g3; simp at g3
        | some t => rw [ht] at g3; exact ⟨g1, ⟨t, rfl, g3⟩, g4⟩
      obtain ⟨l1, l2⟩ := lateB_spec h6
      rw [hs] at h
      have hsub : (restP A listed).Sublist A := List.filter_sublist
      obtain ⟨p, s, hp1, hp2, hp3, _⟩ := runD_first (fun e i h => hT.inert h) ho hal (restP A listed) (restP B listed) st [] (fun q hq => by
        obtain ⟨hqA, hqb⟩ := hno q hq
        have := List.all_eq_true.1 h5 q hqA
        rw [hqb] at this
        simp only [Bool.false_or, Bool.and_eq_true] at this
        exact this.2) (by
        have h8 := l1.sublist hsub
        refine List.Pairwise.imp_of_mem ?_ h8
        intro q q' hq hq' hm hin
        rcases hm hin with g | g
        · rw [(hno q' hq').2] at g; cases g
        · exact g) (fun q hq hm => l2 q (hno q hq).1 hm) (fun z hz' => by simp at hz') (fun hA t ht => by
        exact hfr (i', rc) (by rw [hs]; simp) o ho hA t ht) h
      have hrun := sstep_run (Q := Q) hT hΓ hg (dstsOk_spec hd ho) hN hp1 hp2
      have next : ∀ a' w', Sat N w0 Pr X Z (· = s) a' w' → wpAny P .any ops Q fuel (listed.setIfInBounds i' true) a' w' := by
        rintro a' w' ⟨st', ρ', rfl, hg'⟩
        refine ih (listed.setIfInBounds i' true) st' ρ' a' w' (by simpa using hsz) ?_ ?_ ?_ hg' (by rw [hs2]; exact hp3)
        · rw [hs2]
          rw [hs] at hf
          simp at hf ⊢
          omega
        · intro j oj hj hlj e he hb
          by_cases c : j = i'
          · subst c
            rw [ho] at hj
            simp only [Option.some.injEq] at hj
            subst hj
            have h1 := hdeps e he hb
            by_cases c2 : e.on = j
            · rw [c2]; exact getD_set_same hisz _
            · rw [getD_set_ne c2]; exact h1
          · rw [getD_set_ne c] at hlj
            have h1 := hcl j oj hj hlj e he hb
            by_cases c2 : e.on = i'
            · rw [c2]; exact getD_set_same hisz _
            · rw [getD_set_ne c2]; exact h1
        · intro q hq oq hoq hA t ht
          rw [hs2] at hq
          have hq' : q ∈ restP l listed := by
            rw [hs]
            rcases List.mem_append.1 hq with hq | hq
            · exact List.mem_append_left _ hq
            · exact List.mem_append_right _ (List.mem_cons_of_mem _ hq)
          refine sstep_keeps hp1 (hfr q hq' oq hoq hA t ht) ?_
          -- the names are apart
          have hqne : q.1 ≠ i' := fun e => by
            rcases List.mem_append.1 hq with hq | hq
            · exact nA (List.mem_map.2 ⟨q, (List.mem_filter.1 hq).1, e⟩)
            · exact nB (List.mem_map.2 ⟨q, (List.mem_filter.1 hq).1, e⟩)
          obtain ⟨A2, B2, hAB2⟩ := List.append_of_mem (List.mem_filter.1 hq').1
          have h9 : planL ops (masks ops) ([] ++ A2) (q :: B2) = true := planL_at (by rw [← hAB2]; exact p4)
          unfold planL at h9
          rw [Bool.and_eq_true, Bool.and_eq_true] at h9
          have h10 := h9.1.2
          unfold allocB at h10
          simp only [hoq, hA, Bool.not_true, Bool.false_or, Bool.and_eq_true, bne_iff_ne, decide_eq_true_eq] at h10
          obtain ⟨⟨⟨_, g3⟩, _⟩, g5⟩ := h10
          have g6 := List.all_eq_true.1 g5 i' (List.mem_range.2 (by omega))
          rw [ho] at g6
          simp only [Option.bind_some, Bool.or_eq_true, beq_iff_eq, bne_iff_ne] at g6
          rw [ht] at g3
          have g3 : t < 20000 := g3
          refine ⟨?_, g3⟩
          unfold dOf
          cases hod : o.dst with
          | none =>
            intro e
            have e2 : t = 99999 := e
            rw [e2] at g3
            exact absurd g3 (by decide)
          | some u =>
            intro e
            rcases g6 with g6 | g6
            · exact hqne g6.symm
            · exact g6 (by rw [hod, ht, e]; rfl)
      unfold wpOp
      rw [ho]
      simp only
      split
      · rename_i hw
        rw [if_pos hw] at hrun
        exact .inl (Oper.wp_mono next hrun)
      · rename_i hw
        rw [if_neg hw] at hrun
        exact next _ _ hrun
end
end Go.Proofs.YtgnnakibcjonbaaGreatDoor.VE

/- The evaluator: code, loops, functions. -/
namespace Go.Proofs.YtgnnakibcjonbaaGreatDoor.VE
open Go Go.RowKit
set_option linter.unusedVariables false
set_option linter.unusedSimpArgs false
/-- Every frame and world of the one abstract state is one of the other. -/
def Le (st st' : St) : Prop := ∀ (N : Nat) (w0 : World) (Pr X : Nat → Prop) (Z : Nat → Option Value) (ρ : Nat → Value) (a : Act) (w : World), Gam N w0 Pr X Z ρ st a w → ∃ ρ', Gam N w0 Pr X Z ρ' st' a w
theorem Le.refl (st : St) : Le st st := fun _ _ _ _ _ ρ _ _ h => ⟨ρ, h⟩
/-- A loop, whose rounds f tells: states I, which hold where R does, and a measure. -/
def Lp (f : St → (Exit → St → Prop) → Prop) (st : St) (Q : Exit → St → Prop) : Prop :=
  ∃ (α : Type) (I : α → St) (R : α → Prop) (M : α → Nat) (x0 : α), R x0 ∧ Le st (I x0) ∧ ∀ x, R x → f (I x) fun e s => match e with
    | .normal => ∃ y, R y ∧ M y < M x ∧ Le s (I y)
    | e => Q e s
def thenQ (K : St → Prop) (Q : Exit → St → Prop) : Exit → St → Prop
  | .normal, s => K s
  | e, s => Q e s
def blockQ (id : Nat) (Q : Exit → St → Prop) : Exit → St → Prop
  | .exit id', s => if id' = id then Q .normal s else Q (.exit id') s
  | e, s => Q e s
/-- A region's plan: its own, or the order of the text. -/
def planOr (n : Nat) : List (Nat × List Nat) → List (Nat × List Nat)
  | [] => (List.range n).map fun i => (i, [])
  | l => l
def planFor (pl : Nat → List (Nat × List Nat)) (id n : Nat) : List (Nat × List Nat) := planOr n (pl id)
/-- Plans by a list. -/
def plT : List (Nat × List (Nat × List Nat)) → Nat → List (Nat × List Nat)
  | [], _ => []
  | (k, l) :: r, id => if id = k then l else plT r id
def alloc1 (d : Option Nat) : Bool → List Nat → List Nat
  | true, r => match d with
    | some t => t :: r
    | none => r
  | false, r => r
def allocsOf : List Oper → List Nat
  | [] => []
  | o :: r => alloc1 o.dst (isAlloc o.op) (allocsOf r)
def freshAll (st : St) : List Nat → St
  | [] => st
  | t :: r => freshAll (fresh st t) r
theorem runD_mono {C : Cx} {ops : Array Oper} {K K' : St → Prop} (hK : ∀ s, K s → K' s) : ∀ (l : List (Nat × List Nat)) (st : St), runD C ops l st K → runD C ops l st K'
  | [], st, h => hK _ h
  | (i, rc) :: l, st, h => by
    unfold runD at h ⊢
    split at h
    · split at h
      · exact ⟨h.1, h.2.1, runD_mono hK l _ h.2.2⟩
      · exact h
    · exact h
theorem fresh_none {st : St} {t u : Nat} (h : st.os t = none ∨ t = u) : (fresh st u).os t = none := by
  unfold fresh
  split
  · rename_i hu
    rcases h with h | rfl
    · exact h
    · exact hu
  · simp only [dropO]
    by_cases c : t = u
    · rw [if_pos c]
    · rw [if_neg c, h.resolve_right c]; rfl
theorem freshAll_none : ∀ (l : List Nat) {st : St} {t : Nat}, (st.os t = none ∨ t ∈ l) → (freshAll st l).os t = none
  | [], st, t, h => h.resolve_right (by simp)
  | u :: r, st, t, h => freshAll_none r (by
    rcases h with h | h
    · exact .inl (fresh_none (.inl h))
    · rcases List.mem_cons.1 h with rfl | h
      · exact .inl (fresh_none (.inr rfl))
      · exact .inr h)
theorem alloc1_mem {d : Option Nat} {b : Bool} {r : List Nat} {t : Nat} : t ∈ alloc1 d b r ↔ (b = true ∧ d = some t) ∨ t ∈ r := by
  cases b with
  | false => simp [alloc1]
  | true =>
    cases d with
    | none => simp [alloc1]
    | some u => simp only [alloc1, List.mem_cons, Option.some.injEq, true_and]; exact or_congr eq_comm Iff.rfl
theorem allocs_mem : ∀ {l : List Oper} {o : Oper} {t : Nat}, o ∈ l → isAlloc o.op = true → o.dst = some t → t ∈ allocsOf l
  | [], o, t, h, _, _ => by simp at h
  | o' :: r, o, t, h, ha, hd => by
    unfold allocsOf
    rw [alloc1_mem]
    rcases List.mem_cons.1 h with h | h
    · rw [← h]; exact .inl ⟨ha, hd⟩
    · exact .inr (allocs_mem h ha hd)
theorem allocs_dst : ∀ {l : List Oper} {t : Nat}, t ∈ allocsOf l → ∃ o ∈ l, o.dst = some t
  | [], t, h => by simp [allocsOf] at h
  | o' :: r, t, h => by
    unfold allocsOf at h
    rw [alloc1_mem] at h
    rcases h with h | h
    · exact ⟨o', by simp, h.2⟩
    · obtain ⟨o, h1, h2⟩ := allocs_dst h
      exact ⟨o, List.mem_cons_of_mem _ h1, h2⟩
/-- What must hold that code, from an abstract state on, ends as Q says. -/
def run (C : Cx) : Code → St → (Exit → St → Prop) → Prop
  | .skip, st, Q => Q .normal st
  | .label _, st, Q => Q .normal st
  | .region _ ops false, st, Q => runOps C ops ops.toList st (Q .normal)
  | .region id ops true, st, Q => runD C ops (planFor C.pl id ops.size) (freshAll st (allocsOf ops.toList)) (Q .normal)
  | .seq x y, st, Q => run C x st (thenQ (fun s => run C y s Q) Q)
  | .cond c x y, st, Q => match ev st.env c with
    | .d (.bool b) => (b = true → run C x st Q) ∧ (b = false → run C y st Q)
    | _ => False
  | .block id c, st, Q => run C c st (blockQ id Q)
  | .loop c, st, Q => Lp (fun s q => run C c s q) st Q
  | .exit id, st, Q => Q (.exit id) st
  | .ret, st, Q => Q .ret st
  | _, _, _ => False
theorem runOps_mono {C : Cx} {ops : Array Oper} {K K' : St → Prop} (hK : ∀ s, K s → K' s) : ∀ (l : List Oper) (st : St), runOps C ops l st K → runOps C ops l st K'
  | [], st, h => hK _ h
  | o :: r, st, h => by
    unfold runOps opP at h ⊢
    split at h
    · split at h
      · exact ⟨h.1, runOps_mono hK r _ h.2⟩
      · split at h
        · exact fun b hb hb' => runOps_mono hK r _ (h b hb hb')
        · split at h
          · exact ⟨h.1, runOps_mono hK r _ h.2⟩
          · exact h
    · split at h
      · exact ⟨h.1, runOps_mono hK r _ h.2⟩
      · refine ⟨fun e => ⟨(h.1 e).1, ?_⟩, fun e => runOps_mono hK r _ (h.2 e)⟩
        have h1 := (h.1 e).2
        split at h1
        · exact ⟨h1.1, runOps_mono hK r _ h1.2⟩
        · exact h1
    · exact h
theorem run_mono {C : Cx} : ∀ (c : Code) (st : St) (Q Q' : Exit → St → Prop), (∀ e s, Q e s → Q' e s) → run C c st Q → run C c st Q'
  | .skip, st, Q, Q', hQ, h => hQ _ _ h
  | .label _, st, Q, Q', hQ, h => hQ _ _ h
  | .region _ ops false, st, Q, Q', hQ, h => runOps_mono (hQ .normal) _ _ h
  | .region _ ops true, st, Q, Q', hQ, h => runD_mono (hQ .normal) _ _ h
  | .seq x y, st, Q, Q', hQ, h => run_mono x st _ _ (fun e s h => by
    cases e with
    | normal => exact run_mono y s _ _ hQ h
    | _ => exact hQ _ _ h) h
  | .cond c x y, st, Q, Q', hQ, h => by
    simp only [run] at h ⊢
    split at h
    · exact ⟨fun e => run_mono x st _ _ hQ (h.1 e), fun e => run_mono y st _ _ hQ (h.2 e)⟩
    · exact h
  | .block id c, st, Q, Q', hQ, h => run_mono c st _ _ (fun e s h => by
    cases e with
    | exit id' =>
      simp only [blockQ] at h ⊢
      split at h
      · rename_i e; rw [if_pos e]; exact hQ _ _ h
      · rename_i e; rw [if_neg e]; exact hQ _ _ h
    | _ => exact hQ _ _ h) h
  | .loop c, st, Q, Q', hQ, h => by
    obtain ⟨α, I, R, M, x0, h1, h2, h3⟩ := h
    refine ⟨α, I, R, M, x0, h1, h2, fun x hx => run_mono c _ _ _ (fun e s h => ?_) (h3 x hx)⟩
    cases e with
    | normal => exact h
    | _ => exact hQ _ _ h
  | .exit id, st, Q, Q', hQ, h => hQ _ _ h
  | .ret, st, Q, Q', hQ, h => hQ _ _ h
/-- What is looked at once: the operations' places, and that the order of a region that draws is indifferent. -/
def codeOk (pl : Nat → List (Nat × List Nat)) (N : Nat) : Code → Bool
  | .region id ops d => dstsOk N ops && (!d || (planOk ops (planFor pl id ops.size) && decide ((planFor pl id ops.size).length ≤ ops.size)))
  | .seq x y => codeOk pl N x && codeOk pl N y
  | .cond _ x y => codeOk pl N x && codeOk pl N y
  | .block _ c => codeOk pl N c
  | .loop c => codeOk pl N c
  | _ => true
section
variable {P : Program} {N : Nat} {w0 : World} {Pr X : Nat → Prop} {Z : Nat → Option Value}
theorem freshAll_Gam {ρ : Nat → Value} {a : Act} {w : World} : ∀ (l : List Nat) {st : St}, (∀ t ∈ l, t < 100000) → Gam N w0 Pr X Z ρ st a w → Gam N w0 Pr X Z ρ (freshAll st l) a w
  | [], st, _, h => h
  | t :: r, st, hl, h => freshAll_Gam r (fun u hu => hl u (List.mem_cons_of_mem _ hu)) (h.fresh t (hl t (by simp))).1
theorem draw_plan {C : Cx} (hT : TOK P C.T) (hΓ : COk P C) (hm : P.follows .mixedOrders = true) {ops : Array Oper} (hd : dstsOk N ops = true) {l : List (Nat × List Nat)} (hl : planOk ops l = true) (hln : l.length ≤ ops.size) {Q : Exit → Act → World → Prop} {K : St → Prop} (hK : ∀ a w, Sat N w0 Pr X Z K a w → Q .normal a w) {ρ : Nat → Value} {st : St} {a : Act} {w : World} (hg : Gam N w0 Pr X Z ρ st a w) {id : Nat} (h : runD C ops l (freshAll st (allocsOf ops.toList)) K) :
    (Code.region id ops true).wp P Q a w := by
  have hN : N ≤ 100000 := by
    have := hd
    unfold dstsOk at this
    rw [Bool.and_eq_true, decide_eq_true_eq] at this
    exact this.1
  have hlow : ∀ t ∈ allocsOf ops.toList, t < 100000 := fun t ht => by
    obtain ⟨o, ho, hod⟩ := allocs_dst ht
    obtain ⟨i, hi, rfl⟩ := List.getElem_of_mem ho
    have hi' : i < ops.size := by simpa using hi
    have := dstsOk_spec hd (i := i) (o := ops.toList[i]) (by rw [← Array.getElem?_toList]; exact List.getElem?_eq_getElem hi) t hod
    exact Nat.lt_of_lt_of_le this hN
  have h3 := hl
  unfold planOk at h3
  rw [Bool.and_eq_true, Bool.and_eq_true, Bool.and_eq_true] at h3
  have hrest : restP l (Array.replicate ops.size false) = l := by
    unfold restP
    rw [List.filter_eq_self]
    intro q hq
    have : q.1 < ops.size := by simpa using List.all_eq_true.1 h3.1.2 q hq
    simp [Array.getD_eq_getD_getElem?, this]
  refine wp_region_any hm (draw_any hT hΓ hd hl hK ops.size _ (freshAll st (allocsOf ops.toList)) ρ a _ (by simp) (by rw [hrest]; exact hln) ?_ ?_ (freshAll_Gam _ hlow hg).drew (by rw [hrest]; exact h))
  · intro i o ho hli
    have hi : i < ops.size := (Array.getElem?_eq_some_iff.1 ho).1
    simp [Array.getD_eq_getD_getElem?, hi] at hli
  · intro q hq o ho hA t ht
    exact freshAll_none _ (.inr (allocs_mem (Array.mem_toList_iff.2 (Array.mem_of_getElem? ho)) hA ht))
theorem run_sound {C : Cx} (hT : TOK P C.T) (hΓ : COk P C) (hw : GWm C.gm.m w0) (hm : P.follows .mixedOrders = true) : ∀ (c : Code) (st : St) (Q : Exit → St → Prop) (Q' : Exit → Act → World → Prop) (ρ : Nat → Value) (a : Act) (w : World), codeOk C.pl N c = true → (∀ e a w, Sat N w0 Pr X Z (Q e) a w → Q' e a w) → Gam N w0 Pr X Z ρ st a w → run C c st Q → c.wp P Q' a w
  | .skip, st, Q, Q', ρ, a, w, hc, hQ, hg, h => wp_skip (hQ _ _ _ ⟨st, ρ, h, hg⟩)
  | .label _, st, Q, Q', ρ, a, w, hc, hQ, hg, h => wp_label (hQ _ _ _ ⟨st, ρ, h, hg⟩)
  | .region id ops false, st, Q, Q', ρ, a, w, hc, hQ, hg, h => by
    simp only [codeOk, Bool.and_eq_true] at hc
    exact region_sound hT hΓ hw hc.1 (fun a w hs => hQ _ a w hs) hg h
  | .region id ops true, st, Q, Q', ρ, a, w, hc, hQ, hg, h => by
    simp only [codeOk, Bool.and_eq_true, Bool.not_true, Bool.false_or, decide_eq_true_eq] at hc
    exact draw_plan hT hΓ hm hc.1 hc.2.1 hc.2.2 (fun a w hs => hQ _ a w hs) hg h
  | .seq x y, st, Q, Q', ρ, a, w, hc, hQ, hg, h => by
    simp only [codeOk, Bool.and_eq_true] at hc
    refine wp_seq (run_sound hT hΓ hw hm x st _ _ ρ a w hc.1 ?_ hg h)
    rintro e a' w' ⟨s, ρ', hk, hg'⟩
    cases e with
    | normal => exact run_sound hT hΓ hw hm y s Q Q' ρ' a' w' hc.2 hQ hg' hk
    | exit id => exact hQ _ _ _ ⟨s, ρ', hk, hg'⟩
    | goto l => exact hQ _ _ _ ⟨s, ρ', hk, hg'⟩
    | ret => exact hQ _ _ _ ⟨s, ρ', hk, hg'⟩
    | panic ch => exact hQ _ _ _ ⟨s, ρ', hk, hg'⟩
    | outgrown => exact hQ _ _ _ ⟨s, ρ', hk, hg'⟩
  | .cond c x y, st, Q, Q', ρ, a, w, hc, hQ, hg, h => by
    simp only [codeOk, Bool.and_eq_true] at hc
    simp only [run] at h
    split at h
    · rename_i b hb
      have hv := ev_G hg c
      rw [hb] at hv
      have hv := Rd.bool hv
      cases b with
      | true => exact wp_cond_true hv (run_sound hT hΓ hw hm x st Q Q' ρ a w hc.1 hQ hg (h.1 rfl))
      | false => exact wp_cond_false hv (run_sound hT hΓ hw hm y st Q Q' ρ a w hc.2 hQ hg (h.2 rfl))
    · exact h.elim
  | .block id c, st, Q, Q', ρ, a, w, hc, hQ, hg, h => by
    refine wp_block (run_sound hT hΓ hw hm c st _ _ ρ a w hc ?_ hg h)
    rintro e a' w' ⟨s, ρ', hk, hg'⟩
    cases e with
    | normal => exact hQ _ _ _ ⟨s, ρ', hk, hg'⟩
    | exit id' =>
      simp only [blockQ] at hk
      simp only [Exit.inBlock]
      split at hk
      · rename_i e; rw [if_pos e]; exact hQ _ _ _ ⟨s, ρ', hk, hg'⟩
      · rename_i e; rw [if_neg e]; exact hQ _ _ _ ⟨s, ρ', hk, hg'⟩
    | goto l => exact hQ _ _ _ ⟨s, ρ', hk, hg'⟩
    | ret => exact hQ _ _ _ ⟨s, ρ', hk, hg'⟩
    | panic ch => exact hQ _ _ _ ⟨s, ρ', hk, hg'⟩
    | outgrown => exact hQ _ _ _ ⟨s, ρ', hk, hg'⟩
  | .loop c, st, Q, Q', ρ, a, w, hc, hQ, hg, h => by
    obtain ⟨α, I, R, M, x0, hR, hle, hround⟩ := h
    obtain ⟨ρ0, hg0⟩ := hle _ _ _ _ _ _ _ _ hg
    refine wp_loop_ghost (fun n a w => ∃ x, M x = n ∧ R x ∧ ∃ ρ, Gam N w0 Pr X Z ρ (I x) a w) (M x0) ⟨x0, rfl, hR, ρ0, hg0⟩ ?_
    rintro n a w ⟨x, rfl, hRx, ρ, hgx⟩
    refine run_sound hT hΓ hw hm c (I x) _ _ ρ a w hc ?_ hgx (hround x hRx)
    rintro e a' w' ⟨s, ρ', hk, hg'⟩
    cases e with
    | normal =>
      obtain ⟨y, hy1, hy2, hy3⟩ := hk
      exact ⟨M y, hy2, y, rfl, hy1, hy3 _ _ _ _ _ _ _ _ hg'⟩
    | exit id => exact hQ _ _ _ ⟨s, ρ', hk, hg'⟩
    | goto l => exact hQ _ _ _ ⟨s, ρ', hk, hg'⟩
    | ret => exact hQ _ _ _ ⟨s, ρ', hk, hg'⟩
    | panic ch => exact hQ _ _ _ ⟨s, ρ', hk, hg'⟩
    | outgrown => exact hQ _ _ _ ⟨s, ρ', hk, hg'⟩
  | .exit id, st, Q, Q', ρ, a, w, hc, hQ, hg, h => wp_exit (hQ _ _ _ ⟨st, ρ, h, hg⟩)
  | .ret, st, Q, Q', ρ, a, w, hc, hQ, hg, h => wp_ret (hQ _ _ _ ⟨st, ρ, h, hg⟩)
/-- A result variable's value. -/
def resV1 (C : Cx) (st : St) : ResultVar → Option (Prop × V)
  | .tmp t => some (True, st.env t)
  | .cell a t => loadV C st.os t (st.env a)
def resVs (C : Cx) (st : St) : List ResultVar → Option (Prop × List V)
  | [] => some (True, [])
  | r :: rs => match resV1 C st r, resVs C st rs with
    | some (p, v), some (q, vs) => some (p ∧ q, v :: vs)
    | _, _ => none
def resV (C : Cx) (st : St) (rs : List ResultVar) : Option (Prop × V) :=
  match resVs C st rs with
  | some (p, [v]) => some (p, v)
  | some (p, vs) => some (p, .tup vs)
  | none => none
/-- A cell's value fits data. -/
def Fits1 (os : Nat → Option O) : V → V → Prop
  | .nil, .d (.sl _ rows) => rows = []
  | .nil, .nil => True
  | .row o, .d (.sl m rows) => match os o with
    | some (.row rows' m' _) => rows' = rows ∧ (m' = m ∨ rows = [])
    | _ => False
  | .d x, .d y => x = y
  | _, _ => False
def FitsL (f : V → V → Prop) : List V → List V → Prop
  | [], [] => True
  | x :: xs, y :: ys => f x y ∧ FitsL f xs ys
  | _, _ => False
def Fits2 (os : Nat → Option O) : V → V → Prop
  | .agg xs, .agg ys => FitsL (Fits1 os) xs ys
  | x, y => Fits1 os x y
def Fits (os : Nat → Option O) : V → V → Prop
  | .tup xs, .tup ys => FitsL (Fits2 os) xs ys
  | x, y => Fits2 os x y
theorem FitsL_get {f : V → V → Prop} : ∀ {xs ys : List V}, FitsL f xs ys → xs.length = ys.length ∧ ∀ i (h : i < xs.length) (h2 : i < ys.length), f xs[i] ys[i]
  | [], [], _ => ⟨rfl, fun i h => by simp at h⟩
  | [], _ :: _, h => by simp [FitsL] at h
  | _ :: _, [], h => by simp [FitsL] at h
  | x :: xs, y :: ys, h => by
    simp only [FitsL] at h
    have ih := FitsL_get h.2
    refine ⟨by simp [ih.1], fun i h1 h2 => ?_⟩
    match i with
    | 0 => exact h.1
    | i + 1 => exact ih.2 i (by simpa using h1) (by simpa using h2)
theorem Fits1_G {ρ : Nat → Value} {st : St} {a : Act} {w : World} (hg : Gam N w0 Pr X Z ρ st a w) {B : Nat → Prop} (hB : ∀ b, b < w.heap.size → X b → B b) {x y : V} (hf : Fits1 st.os x y) {v : Value} (h : G (Bk X st.os ρ w) w ρ (Lv st.os) x v) {ρ' : Nat → Value} {L' : Nat → Prop} : G B w ρ' L' y v := by
  unfold Fits1 at hf
  split at hf
  · subst hf
    rw [G] at h
    subst h
    rw [G, Rd]
    exact ⟨none, 0, rfl, Nat.le_refl _, Nat.zero_le _, fun _ => rfl, fun i h => by simp at h, fun h => absurd rfl h⟩
  · rw [G] at h ⊢; exact h
  · rename_i o m rows
    split at hf
    · rename_i rows' m' e ho
      obtain ⟨rfl, hm⟩ := hf
      rw [G] at h
      rw [G, h.2]
      have := row_Rd (B := Bk X st.os ρ w) (B' := B) (hg.obj o _ ho) (fun b hb => hB b hb.1.1 hb.1.2) (fun b hb => hB b ((hg.obj o _ ho).lt hb) (hg.xo o b (by rw [ho]; simp) hb))
      rcases hm with rfl | rfl
      · exact this
      · rw [Rd] at this ⊢
        obtain ⟨A, c, e1, e2, e3, e4, _, _⟩ := this
        exact ⟨A, c, e1, e2, e3, e4, fun i h => by simp at h, fun h => absurd rfl h⟩
    · exact hf.elim
  · subst hf
    rw [G] at h ⊢
    exact h.mono (fun b hb => hB b hb.1.1 hb.1.2) (fun _ _ => rfl)
  · exact hf.elim
theorem Fits2_G {ρ : Nat → Value} {st : St} {a : Act} {w : World} (hg : Gam N w0 Pr X Z ρ st a w) {B : Nat → Prop} (hB : ∀ b, b < w.heap.size → X b → B b) {x y : V} (hf : Fits2 st.os x y) {v : Value} (h : G (Bk X st.os ρ w) w ρ (Lv st.os) x v) {ρ' : Nat → Value} {L' : Nat → Prop} : G B w ρ' L' y v := by
  unfold Fits2 at hf
  split at hf
  · obtain ⟨e1, e2⟩ := FitsL_get hf
    rw [G] at h ⊢
    obtain ⟨vs, rfl, hl, hv⟩ := h
    exact ⟨vs, rfl, by omega, fun i h1 h2 => Fits1_G hg hB (e2 i (by omega) h1) (hv i (by omega) h2)⟩
  · exact Fits1_G hg hB hf h
theorem Fits_G {ρ : Nat → Value} {st : St} {a : Act} {w : World} (hg : Gam N w0 Pr X Z ρ st a w) {B : Nat → Prop} (hB : ∀ b, b < w.heap.size → X b → B b) {x y : V} (hf : Fits st.os x y) {v : Value} (h : G (Bk X st.os ρ w) w ρ (Lv st.os) x v) {ρ' : Nat → Value} {L' : Nat → Prop} : G B w ρ' L' y v := by
  unfold Fits at hf
  split at hf
  · obtain ⟨e1, e2⟩ := FitsL_get hf
    rw [G] at h ⊢
    obtain ⟨vs, rfl, hl, hv⟩ := h
    exact ⟨vs, rfl, by omega, fun i h1 h2 => Fits2_G hg hB (e2 i (by omega) h1) (hv i (by omega) h2)⟩
  · exact Fits2_G hg hB hf h
def resOne (tmps : Array Value) : ResultVar → Sem Value
  | .tmp t => pure (tmps.getD t undef)
  | .cell c t => do loadVar t (← asAddr (tmps.getD c undef))
theorem results_eq (fn : Func) (tmps : Array Value) : results fn tmps = (do
    let vs ← fn.results.mapM (resOne tmps)
    pure (if h : vs.size = 1 then vs[0] else .tuple vs)) := by
  have hf : ∀ f : ResultVar → Sem Value, f = resOne tmps → (do
    let vs ← fn.results.mapM f
    pure (if h : vs.size = 1 then vs[0] else .tuple vs) : Sem Value) = (do
    let vs ← fn.results.mapM (resOne tmps)
    pure (if h : vs.size = 1 then vs[0] else .tuple vs)) := fun f e => by rw [e]
  refine hf _ ?_
  funext r
  cases r <;> rfl
theorem G.pure1 {B : Nat → Prop} {w : World} {ρ ρ' : Nat → Value} {L L' : Nat → Prop} {x : V} {v : Value} (hx : x.pure1 = true) (h : G B w ρ L x v) : G B w ρ' L' x v := by
  cases x <;> simp [V.pure1] at hx <;> (rw [G] at h ⊢; exact h)
theorem G.pure {B : Nat → Prop} {w : World} {ρ ρ' : Nat → Value} {L L' : Nat → Prop} {x : V} {v : Value} (hx : x.pure = true) (h : G B w ρ L x v) : G B w ρ' L' x v := by
  unfold V.pure at hx
  split at hx
  · rw [G] at h ⊢
    obtain ⟨vs, e, hl, hv⟩ := h
    exact ⟨vs, e, hl, fun i h1 h2 => (hv i h1 h2).pure1 ((List.all_eq_true.1 hx) _ (List.getElem_mem _))⟩
  · rw [G] at h ⊢
    obtain ⟨vs, e, hl, hv⟩ := h
    exact ⟨vs, e, hl, fun i h1 h2 => (hv i h1 h2).pure1 ((List.all_eq_true.1 hx) _ (List.getElem_mem _))⟩
  · exact h.pure1 hx
theorem resVs_run {C : Cx} (hT : TOK P C.T) {ρ : Nat → Value} {st : St} {a : Act} {w : World} (hg : Gam N w0 Pr X Z ρ st a w) : ∀ (rs : List ResultVar) (p : Prop) (xs : List V), resVs C st rs = some (p, xs) → p →
    ∃ vs : List Value, (rs.mapM (resOne a.tmps)).run P w = .ok vs w ∧ Gs (Bk X st.os ρ w) w ρ (Lv st.os) xs vs
  | [], p, xs, h, hp => by
    simp only [resVs, Option.some.injEq, Prod.mk.injEq] at h
    obtain ⟨rfl, rfl⟩ := h
    exact ⟨[], by simp, rfl, fun i h => by simp at h⟩
  | r :: rs, p, xs, h, hp => by
    simp only [resVs] at h
    split at h
    · rename_i p1 v q vs' h1 h2
      simp only [Option.some.injEq, Prod.mk.injEq] at h
      obtain ⟨rfl, rfl⟩ := h
      obtain ⟨vs, e1, e2⟩ := resVs_run hT hg rs q vs' h2 hp.2
      have hone : ∃ z, (resOne a.tmps r).run P w = .ok z w ∧ G (Bk X st.os ρ w) w ρ (Lv st.os) v z := by
        unfold resV1 at h1
        cases r with
        | tmp t =>
          simp only [Option.some.injEq, Prod.mk.injEq] at h1
          obtain ⟨rfl, rfl⟩ := h1
          exact ⟨_, rfl, hg.env t⟩
        | cell c t =>
          simp only at h1
          obtain ⟨z, hz, hr⟩ := loadV_run (P := P) hT hg h1 hp.1 (hg.env c)
          refine ⟨z, ?_, hr⟩
          rw [← hz]
          have hv := hg.env c
          -- the value is an address, whatever the abstract one is
          unfold loadV at h1
          split at h1
          · split at h1
            · rename_i hx
              rw [hx, G] at hv
              obtain ⟨_, b, _, e⟩ := hv
              simp [e, resOne, Instr.loadAt, Instr.sureAddr, asAddr]
            · rename_i hx
              rw [hx, G] at hv
              obtain ⟨_, b, _, e⟩ := hv
              simp [e, resOne, Instr.loadAt, Instr.sureAddr, asAddr]
            · rename_i hx
              rw [hx, G] at hv
              obtain ⟨b, off, e, _⟩ := hv
              simp [e, resOne, Instr.loadAt, Instr.sureAddr, asAddr]
            · simp at h1
          · simp at h1
      obtain ⟨z, hz, hr⟩ := hone
      refine ⟨z :: vs, ?_, by simp [e2.1], fun i g1 g2 => ?_⟩
      · simp only [List.mapM_cons, Sem.run_bind, hz, Result.andThen_ok, e1, Sem.run_pure]
      · match i with
        | 0 => exact hr
        | i + 1 => exact e2.2 i (by simpa using g1) (by simpa using g2)
    · simp at h
theorem resV_run {C : Cx} (hT : TOK P C.T) {ρ : Nat → Value} {st : St} {a : Act} {w : World} (hg : Gam N w0 Pr X Z ρ st a w) {fn : Func} {p : Prop} {x : V} (h : resV C st fn.results.toList = some (p, x)) (hp : p) :
    ∃ v, (results fn a.tmps).run P w = .ok v w ∧ G (Bk X st.os ρ w) w ρ (Lv st.os) x v := by
  unfold resV at h
  have red : ∀ vs : List Value, (fn.results.toList.mapM (resOne a.tmps)).run P w = .ok vs w → (results fn a.tmps).run P w = .ok (if h : vs.toArray.size = 1 then vs.toArray[0] else .tuple vs.toArray) w := fun vs e => by
    rw [results_eq, Array.mapM_eq_mapM_toList]
    simp only [Sem.run_bind, Sem.run_map, e, Result.andThen_ok, Sem.run_pure]
  split at h
  · rename_i q v hv
    simp only [Option.some.injEq, Prod.mk.injEq] at h
    obtain ⟨rfl, rfl⟩ := h
    obtain ⟨vs, e1, e2⟩ := resVs_run hT hg _ _ _ hv hp
    have hl : vs.length = 1 := by rw [e2.1]; rfl
    refine ⟨vs[0], ?_, e2.2 0 (by simp) (by omega)⟩
    rw [red vs e1, dif_pos (by simpa using hl)]
    simp
  · rename_i q vs' hne hv
    simp only [Option.some.injEq, Prod.mk.injEq] at h
    obtain ⟨rfl, rfl⟩ := h
    obtain ⟨vs, e1, e2⟩ := resVs_run hT hg _ _ _ hv hp
    have hl : vs.length ≠ 1 := by
      intro e
      rw [e2.1] at e
      obtain ⟨y, hy⟩ := List.length_eq_one_iff.1 e
      exact hne y hy
    refine ⟨.tuple vs.toArray, by rw [red vs e1, dif_neg (by simpa using hl)], ?_⟩
    rw [G]
    exact ⟨vs, rfl, e2.1, e2.2⟩
  · simp at h
/-- The state at a call's begin. -/
def initS (args : List V) : St := ⟨fun t => args.getD t .top, fun _ => none⟩
/-- What a pure function must come to. -/
def Ret (C : Cx) (rs : List ResultVar) (r : V) : Exit → St → Prop := fun e st => (e = .normal ∨ e = .ret) ∧ match resV C st rs with
  | some (p, x) => p ∧ Fits st.os x r
  | none => False
theorem pure_fn {C : Int → Cx} (hT : ∀ m, TOK P (C m).T) (hΓ : ∀ m, COk P (C m)) (hm : P.follows .mixedOrders = true) {f : FuncId} {fn : Func} {code : Code} (hf : P.funcs[f]? = some fn) (hb : fn.body = some code) {args : List V} {p : Prop} {r : V} (hn : args.length ≤ fn.ntmps) (hpu : args.all V.pure = true) (hcg : ∀ m, (C m).gm.m = m) (hok : ∀ m, codeOk (C m).pl fn.ntmps code = true)
    (h : ∀ m, p → run (C m) code (initS args) (Ret (C m) fn.results.toList r)) : PureOk P f args p r := by
  intro w B ρ L vs hB ⟨gm, hgm⟩ hone ha hp
  refine calls_of_wp hf hb ?_
  have hvl : vs.length = args.length := ha.1
  have hg : Gam fn.ntmps w (fun b => b < w.heap.size) (fun b => B b ∨ w.heap.size ≤ b) (fun _ => none) ρ (initS args) { tmps := vs.toArray ++ Array.replicate (fn.ntmps - vs.toArray.size) undef, defers := [] } w := by
    refine ⟨rfl, by simp; omega, fun t => ?_, fun o x h => by simp [initS] at h, fun o o' b h => by simp [initS] at h, hone, fun b hb => rfl, fun o b h => by simp [initS] at h, fun b h => h, Nat.le_refl _, rfl, rfl, rfl, fun b hb => .inr hb, fun o b h => by simp [initS] at h, fun o v h => (by cases h), ⟨⟨gm, hgm⟩, hgm.lt⟩⟩
    have hbk : ∀ b, B b → Bk (fun b => B b ∨ w.heap.size ≤ b) (initS args).os ρ w b := fun b hb => ⟨⟨hB b hb, .inl hb⟩, fun o h => by simp [initS] at h⟩
    by_cases ht : t < args.length
    · have e1 : (initS args).env t = args[t] := by simp [initS, List.getD_eq_getElem?_getD, ht]
      have e2 : (vs.toArray ++ Array.replicate (fn.ntmps - vs.toArray.size) undef).getD t undef = vs[t]'(by omega) := by
        simp [Array.getD_eq_getD_getElem?, Array.getElem?_append, show t < vs.length by omega]
      rw [e1, e2]
      exact ((ha.2 t ht (by omega)).mono hbk (fun _ _ => rfl) (fun _ h => h) (fun _ _ => rfl)).pure ((List.all_eq_true.1 hpu) _ (List.getElem_mem _))
    · have e1 : (initS args).env t = .top := by
        show args.getD t .top = .top
        rw [List.getD_eq_getElem?_getD, List.getElem?_eq_none (by omega)]
        rfl
      rw [e1, G]
      trivial
  refine run_sound (hT gm) (hΓ gm) (by rw [hcg]; exact hgm) hm code (initS args) _ _ ρ _ w (hok gm) ?_ hg (h gm hp)
  rintro e a' w' ⟨st', ρ', ⟨he, hr⟩, hg'⟩
  split at hr
  · rename_i q x hx
    obtain ⟨v, hv, hxv⟩ := resV_run (hT gm) hg' hx hr.1
    have done : a'.defers = [] ∧ ∃ v, (results fn a'.tmps).run P w' = .ok v w' ∧ ∃ v', Ending.returned v = .returned v' ∧ More w w' ∧ G (fun b => B b ∨ (w.heap.size ≤ b ∧ b < w'.heap.size)) w' ρ L r v' := by
      refine ⟨hg'.defers, v, hv, v, rfl, ⟨hg'.grow, hg'.keep, hg'.os', hg'.tape, hg'.output⟩, Fits_G hg' (fun b hb hx => hx.imp id (fun h => ⟨h, hb⟩)) hr.2 hxv⟩
    rcases he with rfl | rfl
    · exact done
    · exact done
  · exact hr.elim
end
end Go.Proofs.YtgnnakibcjonbaaGreatDoor.VE

/- The evaluator's table of types, and its context. -/
namespace Go.Proofs.YtgnnakibcjonbaaGreatDoor.VE
open Go Go.RowKit
set_option maxRecDepth 20000
def tab : Array (Option TI) := #[
  none,
  some ⟨1, 8, false, .other, [.top], false⟩,
  some ⟨1, 8, false, .int .i64, [.d (.int .i64 0)], false⟩,
  some ⟨1, 8, false, .int .i64, [.d (.int .i64 0)], false⟩,
  some ⟨1, 1, false, .bool, [.d (.bool false)], false⟩,
  some ⟨1, 1, false, .int .u8, [.d (.int .u8 0)], false⟩,
  some ⟨1, 1, false, .int .u8, [.d (.int .u8 0)], false⟩,
  some ⟨4, 24, true, .strct [(0, 2), (1, 3), (2, 4), (3, 6)], [.d (.int .i64 0), .d (.int .i64 0), .d (.bool false), .d (.int .u8 0)], false⟩,
  some ⟨4, 24, true, .strct [(0, 2), (1, 3), (2, 4), (3, 6)], [.d (.int .i64 0), .d (.int .i64 0), .d (.bool false), .d (.int .u8 0)], false⟩,
  some ⟨1, 16, false, .str, [.d (.str ⟨#[]⟩)], false⟩,
  some ⟨1, 16, false, .str, [.d (.str ⟨#[]⟩)], false⟩,
  some ⟨1, 16, false, .str, [.d (.str ⟨#[]⟩)], false⟩,
  some ⟨1, 8, false, .int .u64, [.d (.int .u64 0)], false⟩,
  some ⟨2, 24, true, .strct [(0, 9), (1, 12)], [.d (.str ⟨#[]⟩), .d (.int .u64 0)], false⟩,
  some ⟨2, 24, true, .strct [(0, 9), (1, 12)], [.d (.str ⟨#[]⟩), .d (.int .u64 0)], false⟩,
  some ⟨1, 8, false, .other, [.top], false⟩,
  some ⟨1, 8, false, .other, [.top], false⟩,
  some ⟨1, 8, false, .other, [.top], false⟩,
  some ⟨1, 8, true, .strct [(0, 17)], [.top], false⟩,
  some ⟨1, 8, true, .strct [(0, 17)], [.top], false⟩,
  none,
  some ⟨1, 4, false, .int .i32, [.d (.int .i32 0)], false⟩,
  some ⟨1, 24, false, .slice 37, [.nil], false⟩,
  some ⟨2, 40, true, .strct [(0, 22), (1, 9)], [.nil, .d (.str ⟨#[]⟩)], false⟩,
  some ⟨2, 40, true, .strct [(0, 22), (1, 9)], [.nil, .d (.str ⟨#[]⟩)], false⟩,
  some ⟨1, 24, false, .slice 9, [.nil], false⟩,
  some ⟨1, 24, false, .slice 28, [.nil], false⟩,
  some ⟨6, 88, true, .strct [(0, 3), (1, 3), (2, 3), (3, 9), (4, 25), (5, 26)], [.d (.int .i64 0), .d (.int .i64 0), .d (.int .i64 0), .d (.str ⟨#[]⟩), .nil, .nil], false⟩,
  some ⟨6, 88, true, .strct [(0, 3), (1, 3), (2, 3), (3, 9), (4, 25), (5, 26)], [.d (.int .i64 0), .d (.int .i64 0), .d (.int .i64 0), .d (.str ⟨#[]⟩), .nil, .nil], false⟩,
  some ⟨1, 8, false, .other, [.top], false⟩,
  some ⟨1, 8, false, .other, [.top], false⟩,
  some ⟨3, 24, true, .strct [(0, 3), (1, 3), (2, 3)], [.d (.int .i64 0), .d (.int .i64 0), .d (.int .i64 0)], false⟩,
  some ⟨3, 24, true, .strct [(0, 3), (1, 3), (2, 3)], [.d (.int .i64 0), .d (.int .i64 0), .d (.int .i64 0)], true⟩,
  some ⟨1, 8, false, .other, [.top], false⟩,
  some ⟨1, 8, false, .other, [.top], false⟩,
  some ⟨1, 24, false, .slice 49, [.nil], false⟩,
  some ⟨3, 48, true, .strct [(0, 9), (1, 35), (2, 4)], [.d (.str ⟨#[]⟩), .nil, .d (.bool false)], false⟩,
  some ⟨3, 48, true, .strct [(0, 9), (1, 35), (2, 4)], [.d (.str ⟨#[]⟩), .nil, .d (.bool false)], false⟩,
  some ⟨1, 8, false, .int .i64, [.d (.int .i64 0)], false⟩,
  none,
  some ⟨1, 8, false, .other, [.top], false⟩,
  some ⟨1, 8, false, .other, [.top], false⟩,
  some ⟨1, 8, false, .other, [.top], false⟩,
  none,
  some ⟨1, 8, false, .other, [.top], false⟩,
  some ⟨1, 8, false, .other, [.top], false⟩,
  some ⟨1, 8, false, .other, [.top], false⟩,
  some ⟨1, 24, false, .slice 128, [.nil], false⟩,
  some ⟨9, 96, true, .strct [(0, 9), (1, 3), (2, 3), (3, 4), (4, 4), (5, 3), (6, 9), (7, 3), (8, 47)], [.d (.str ⟨#[]⟩), .d (.int .i64 0), .d (.int .i64 0), .d (.bool false), .d (.bool false), .d (.int .i64 0), .d (.str ⟨#[]⟩), .d (.int .i64 0), .nil], false⟩,
  some ⟨9, 96, true, .strct [(0, 9), (1, 3), (2, 3), (3, 4), (4, 4), (5, 3), (6, 9), (7, 3), (8, 47)], [.d (.str ⟨#[]⟩), .d (.int .i64 0), .d (.int .i64 0), .d (.bool false), .d (.bool false), .d (.int .i64 0), .d (.str ⟨#[]⟩), .d (.int .i64 0), .nil], false⟩,
  some ⟨1, 8, false, .other, [.top], false⟩,
  none,
  some ⟨1, 8, false, .other, [.top], false⟩,
  some ⟨1, 24, false, .slice 3, [.nil], false⟩,
  none,
  some ⟨1, 8, false, .other, [.top], false⟩,
  some ⟨1, 8, false, .other, [.top], false⟩,
  some ⟨1, 8, false, .other, [.top], false⟩,
  some ⟨1, 8, false, .other, [.top], false⟩,
  none,
  some ⟨1, 8, false, .other, [.top], false⟩,
  none,
  some ⟨1, 8, false, .other, [.top], false⟩,
  some ⟨1, 8, false, .other, [.top], false⟩,
  some ⟨1, 8, false, .other, [.top], false⟩,
  some ⟨1, 8, false, .other, [.top], false⟩,
  none,
  some ⟨1, 8, false, .other, [.top], false⟩,
  some ⟨2, 32, true, .strct [(0, 53), (1, 3)], [.nil, .d (.int .i64 0)], false⟩,
  some ⟨2, 32, true, .strct [(0, 53), (1, 3)], [.nil, .d (.int .i64 0)], false⟩,
  some ⟨1, 8, false, .other, [.top], false⟩,
  some ⟨1, 8, false, .other, [.top], false⟩,
  some ⟨1, 8, false, .other, [.top], false⟩,
  some ⟨1, 8, false, .other, [.top], false⟩,
  none,
  some ⟨1, 8, false, .other, [.top], false⟩,
  some ⟨1, 8, false, .other, [.top], false⟩,
  none,
  some ⟨1, 8, false, .other, [.top], false⟩,
  some ⟨1, 8, false, .other, [.top], false⟩,
  some ⟨1, 8, false, .other, [.top], false⟩,
  some ⟨1, 24, false, .slice 86, [.nil], false⟩,
  some ⟨9, 128, true, .strct [(0, 28), (6, 3), (7, 3), (8, 81)], [.d (.int .i64 0), .d (.int .i64 0), .d (.int .i64 0), .d (.str ⟨#[]⟩), .nil, .nil, .d (.int .i64 0), .d (.int .i64 0), .nil], false⟩,
  some ⟨9, 128, true, .strct [(0, 28), (6, 3), (7, 3), (8, 81)], [.d (.int .i64 0), .d (.int .i64 0), .d (.int .i64 0), .d (.str ⟨#[]⟩), .nil, .nil, .d (.int .i64 0), .d (.int .i64 0), .nil], false⟩,
  some ⟨1, 8, false, .other, [.top], false⟩,
  some ⟨3, 40, true, .strct [(0, 53), (1, 3), (2, 3)], [.nil, .d (.int .i64 0), .d (.int .i64 0)], false⟩,
  some ⟨3, 40, true, .strct [(0, 53), (1, 3), (2, 3)], [.nil, .d (.int .i64 0), .d (.int .i64 0)], false⟩,
  some ⟨1, 8, false, .other, [.top], false⟩,
  some ⟨1, 8, false, .other, [.top], false⟩,
  some ⟨1, 8, false, .other, [.top], false⟩,
  some ⟨1, 8, false, .other, [.top], false⟩,
  some ⟨1, 8, false, .other, [.top], false⟩,
  some ⟨2, 16, true, .strct [(0, 3), (1, 4)], [.d (.int .i64 0), .d (.bool false)], false⟩,
  some ⟨2, 16, true, .strct [(0, 3), (1, 4)], [.d (.int .i64 0), .d (.bool false)], true⟩,
  some ⟨1, 8, false, .other, [.top], false⟩,
  some ⟨1, 8, false, .other, [.top], false⟩,
  some ⟨1, 8, false, .other, [.top], false⟩,
  some ⟨1, 8, false, .other, [.top], false⟩,
  some ⟨1, 24, false, .slice 5, [.nil], false⟩,
  some ⟨3, 56, true, .strct [(0, 22), (1, 4), (2, 98)], [.nil, .d (.bool false), .nil], false⟩,
  some ⟨3, 56, true, .strct [(0, 22), (1, 4), (2, 98)], [.nil, .d (.bool false), .nil], false⟩,
  some ⟨1, 8, false, .other, [.top], false⟩,
  some ⟨1, 8, false, .other, [.top], false⟩,
  some ⟨1, 8, false, .other, [.top], false⟩,
  some ⟨1, 8, false, .other, [.top], false⟩,
  some ⟨1, 8, false, .other, [.top], false⟩,
  some ⟨3, 56, true, .strct [(0, 22), (1, 53), (2, 38)], [.nil, .nil, .d (.int .i64 0)], false⟩,
  some ⟨3, 56, true, .strct [(0, 22), (1, 53), (2, 38)], [.nil, .nil, .d (.int .i64 0)], false⟩,
  some ⟨1, 8, false, .other, [.top], false⟩,
  some ⟨1, 8, false, .other, [.top], false⟩,
  some ⟨1, 8, false, .other, [.top], false⟩,
  some ⟨1, 8, false, .other, [.top], false⟩,
  some ⟨1, 8, false, .other, [.top], false⟩,
  some ⟨1, 8, false, .other, [.top], false⟩,
  none,
  some ⟨1, 8, false, .other, [.top], false⟩,
  some ⟨1, 24, false, .slice 121, [.nil], false⟩,
  some ⟨8, 104, true, .strct [(0, 22), (1, 9), (2, 4), (3, 3), (4, 3), (5, 116), (6, 3), (7, 38)], [.nil, .d (.str ⟨#[]⟩), .d (.bool false), .d (.int .i64 0), .d (.int .i64 0), .nil, .d (.int .i64 0), .d (.int .i64 0)], false⟩,
  some ⟨8, 104, true, .strct [(0, 22), (1, 9), (2, 4), (3, 3), (4, 3), (5, 116), (6, 3), (7, 38)], [.nil, .d (.str ⟨#[]⟩), .d (.bool false), .d (.int .i64 0), .d (.int .i64 0), .nil, .d (.int .i64 0), .d (.int .i64 0)], false⟩,
  some ⟨1, 8, false, .other, [.top], false⟩,
  some ⟨3, 40, true, .strct [(0, 53), (1, 3), (2, 3)], [.nil, .d (.int .i64 0), .d (.int .i64 0)], false⟩,
  some ⟨3, 40, true, .strct [(0, 53), (1, 3), (2, 3)], [.nil, .d (.int .i64 0), .d (.int .i64 0)], false⟩,
  some ⟨1, 8, false, .other, [.top], false⟩,
  some ⟨4, 40, true, .strct [(0, 3), (1, 3), (2, 3), (3, 9)], [.d (.int .i64 0), .d (.int .i64 0), .d (.int .i64 0), .d (.str ⟨#[]⟩)], false⟩,
  some ⟨4, 40, true, .strct [(0, 3), (1, 3), (2, 3), (3, 9)], [.d (.int .i64 0), .d (.int .i64 0), .d (.int .i64 0), .d (.str ⟨#[]⟩)], true⟩,
  some ⟨1, 8, false, .other, [.top], false⟩,
  some ⟨1, 24, false, .slice 124, [.nil], false⟩,
  some ⟨3, 32, true, .strct [(0, 3), (1, 3), (2, 9)], [.d (.int .i64 0), .d (.int .i64 0), .d (.str ⟨#[]⟩)], false⟩,
  some ⟨3, 32, true, .strct [(0, 3), (1, 3), (2, 9)], [.d (.int .i64 0), .d (.int .i64 0), .d (.str ⟨#[]⟩)], true⟩,
  some ⟨1, 8, false, .other, [.top], false⟩,
  some ⟨1, 8, false, .other, [.top], false⟩,
  some ⟨1, 8, false, .other, [.top], false⟩,
  some ⟨1, 8, false, .other, [.top], false⟩,
  some ⟨1, 8, false, .other, [.top], false⟩,
  some ⟨1, 8, false, .other, [.top], false⟩,
  some ⟨1, 8, false, .other, [.top], false⟩,
  some ⟨1, 8, false, .other, [.top], false⟩,
  some ⟨1, 8, false, .other, [.top], false⟩,
  none,
  some ⟨1, 8, false, .other, [.top], false⟩,
  some ⟨1, 8, false, .other, [.top], false⟩,
  some ⟨1, 8, false, .other, [.top], false⟩,
  some ⟨1, 8, false, .other, [.top], false⟩,
  some ⟨1, 8, false, .other, [.top], false⟩,
  some ⟨1, 8, false, .other, [.top], false⟩,
  some ⟨1, 8, false, .other, [.top], false⟩,
  some ⟨6, 88, true, .strct [(0, 22), (1, 9), (2, 3), (3, 3), (4, 3), (5, 81)], [.nil, .d (.str ⟨#[]⟩), .d (.int .i64 0), .d (.int .i64 0), .d (.int .i64 0), .nil], false⟩,
  some ⟨6, 88, true, .strct [(0, 22), (1, 9), (2, 3), (3, 3), (4, 3), (5, 81)], [.nil, .d (.str ⟨#[]⟩), .d (.int .i64 0), .d (.int .i64 0), .d (.int .i64 0), .nil], false⟩,
  some ⟨1, 8, false, .other, [.top], false⟩,
  some ⟨3, 40, true, .strct [(0, 3), (1, 3), (2, 53)], [.d (.int .i64 0), .d (.int .i64 0), .nil], false⟩,
  some ⟨3, 40, true, .strct [(0, 3), (1, 3), (2, 53)], [.d (.int .i64 0), .d (.int .i64 0), .nil], false⟩,
  some ⟨1, 8, false, .other, [.top], false⟩,
  some ⟨1, 8, false, .other, [.top], false⟩,
  some ⟨1, 8, false, .other, [.top], false⟩,
  some ⟨1, 8, false, .other, [.top], false⟩,
  some ⟨1, 8, false, .other, [.top], false⟩,
  some ⟨1, 8, false, .other, [.top], false⟩,
  some ⟨1, 8, false, .other, [.top], false⟩,
  some ⟨1, 8, false, .other, [.top], false⟩,
  some ⟨1, 8, false, .other, [.top], false⟩,
  some ⟨1, 8, false, .other, [.top], false⟩,
  some ⟨1, 8, false, .other, [.top], false⟩,
  some ⟨1, 8, false, .other, [.top], false⟩,
  some ⟨1, 8, false, .other, [.top], false⟩,
  some ⟨1, 8, false, .other, [.top], false⟩,
  some ⟨1, 8, false, .other, [.top], false⟩,
  some ⟨1, 8, false, .other, [.top], false⟩,
  some ⟨1, 8, false, .other, [.top], false⟩,
  some ⟨1, 8, false, .other, [.top], false⟩,
  some ⟨1, 8, false, .other, [.top], false⟩,
  some ⟨1, 8, false, .other, [.top], false⟩,
  some ⟨1, 8, false, .other, [.top], false⟩,
  some ⟨1, 8, false, .other, [.top], false⟩,
  some ⟨1, 8, false, .other, [.top], false⟩,
  some ⟨1, 8, false, .other, [.top], false⟩,
  some ⟨1, 8, false, .other, [.top], false⟩,
  some ⟨1, 8, false, .other, [.top], false⟩,
  some ⟨1, 8, false, .other, [.top], false⟩,
  some ⟨1, 8, false, .other, [.top], false⟩,
  some ⟨1, 8, false, .other, [.top], false⟩,
  some ⟨1, 8, false, .other, [.top], false⟩,
  some ⟨1, 8, false, .other, [.top], false⟩,
  some ⟨1, 8, false, .other, [.top], false⟩,
  some ⟨1, 8, false, .other, [.top], false⟩,
  some ⟨2, 16, true, .strct [(0, 3), (1, 4)], [.d (.int .i64 0), .d (.bool false)], false⟩,
  some ⟨2, 16, true, .strct [(0, 3), (1, 4)], [.d (.int .i64 0), .d (.bool false)], true⟩,
  some ⟨1, 8, false, .other, [.top], false⟩,
  some ⟨1, 8, false, .other, [.top], false⟩,
  some ⟨1, 8, false, .other, [.top], false⟩,
  some ⟨1, 8, false, .other, [.top], false⟩,
  some ⟨1, 8, false, .other, [.top], false⟩,
  some ⟨1, 8, false, .other, [.top], false⟩,
  some ⟨1, 8, false, .other, [.top], false⟩,
  some ⟨1, 8, false, .other, [.top], false⟩,
  some ⟨1, 8, false, .other, [.top], false⟩,
  some ⟨1, 8, false, .other, [.top], false⟩,
  none,
  some ⟨1, 8, false, .other, [.top], false⟩,
  some ⟨1, 8, false, .other, [.top], false⟩,
  some ⟨1, 8, false, .other, [.top], false⟩,
  some ⟨7, 96, true, .strct [(0, 28), (6, 3)], [.d (.int .i64 0), .d (.int .i64 0), .d (.int .i64 0), .d (.str ⟨#[]⟩), .nil, .nil, .d (.int .i64 0)], false⟩,
  some ⟨7, 96, true, .strct [(0, 28), (6, 3)], [.d (.int .i64 0), .d (.int .i64 0), .d (.int .i64 0), .d (.str ⟨#[]⟩), .nil, .nil, .d (.int .i64 0)], false⟩,
  some ⟨1, 8, false, .other, [.top], false⟩,
  some ⟨1, 8, false, .other, [.top], false⟩,
  some ⟨1, 8, false, .other, [.top], false⟩,
  some ⟨1, 8, false, .other, [.top], false⟩,
  some ⟨1, 8, false, .other, [.top], false⟩,
  some ⟨1, 8, false, .other, [.top], false⟩,
  some ⟨1, 8, false, .other, [.top], false⟩,
  some ⟨1, 8, false, .other, [.top], false⟩,
  some ⟨5, 80, true, .strct [(0, 37), (3, 3), (4, 53)], [.d (.str ⟨#[]⟩), .nil, .d (.bool false), .d (.int .i64 0), .nil], false⟩,
  some ⟨5, 80, true, .strct [(0, 37), (3, 3), (4, 53)], [.d (.str ⟨#[]⟩), .nil, .d (.bool false), .d (.int .i64 0), .nil], false⟩,
  some ⟨1, 8, false, .other, [.top], false⟩,
  some ⟨13, 152, true, .strct [(0, 37), (3, 49), (12, 3)], [.d (.str ⟨#[]⟩), .nil, .d (.bool false), .d (.str ⟨#[]⟩), .d (.int .i64 0), .d (.int .i64 0), .d (.bool false), .d (.bool false), .d (.int .i64 0), .d (.str ⟨#[]⟩), .d (.int .i64 0), .nil, .d (.int .i64 0)], false⟩,
  some ⟨13, 152, true, .strct [(0, 37), (3, 49), (12, 3)], [.d (.str ⟨#[]⟩), .nil, .d (.bool false), .d (.str ⟨#[]⟩), .d (.int .i64 0), .d (.int .i64 0), .d (.bool false), .d (.bool false), .d (.int .i64 0), .d (.str ⟨#[]⟩), .d (.int .i64 0), .nil, .d (.int .i64 0)], false⟩,
  some ⟨1, 8, false, .other, [.top], false⟩,
  some ⟨1, 8, false, .other, [.top], false⟩,
  some ⟨1, 8, false, .other, [.top], false⟩,
  some ⟨1, 8, false, .other, [.top], false⟩,
  some ⟨1, 8, false, .other, [.top], false⟩,
  some ⟨1, 8, false, .other, [.top], false⟩,
  some ⟨1, 8, false, .map 9 3, [.top], false⟩,
  some ⟨1, 8, false, .other, [.top], false⟩,
  some ⟨1, 8, false, .other, [.top], false⟩,
  some ⟨1, 8, false, .other, [.top], false⟩,
  some ⟨1, 8, false, .other, [.top], false⟩,
  some ⟨1, 8, false, .other, [.top], false⟩,
  some ⟨1, 8, false, .other, [.top], false⟩,
  some ⟨1, 8, false, .other, [.top], false⟩,
  some ⟨1, 8, false, .other, [.top], false⟩,
  some ⟨1, 8, false, .other, [.top], false⟩,
  some ⟨1, 8, false, .other, [.top], false⟩,
  some ⟨1, 8, false, .other, [.top], false⟩,
  some ⟨1, 8, false, .other, [.top], false⟩,
  some ⟨1, 8, false, .int .u64, [.d (.int .u64 0)], false⟩,
  none,
  some ⟨1, 8, false, .other, [.top], false⟩,
  some ⟨1, 8, false, .other, [.top], false⟩,
  some ⟨2, 32, true, .strct [(0, 237), (1, 98)], [.top, .nil], false⟩,
  some ⟨2, 32, true, .strct [(0, 237), (1, 98)], [.top, .nil], false⟩,
  none,
  none,
  none,
  some ⟨1, 8, false, .other, [.top], false⟩,
  some ⟨1, 8, false, .other, [.top], false⟩,
  some ⟨1, 8, false, .other, [.top], false⟩,
  some ⟨1, 8, false, .other, [.top], false⟩,
  some ⟨1, 8, false, .other, [.top], false⟩,
  some ⟨1, 8, false, .other, [.top], false⟩,
  some ⟨1, 8, false, .other, [.top], false⟩,
  some ⟨1, 8, false, .other, [.top], false⟩,
  some ⟨5, 5, true, .strct [(0, 4), (1, 4), (2, 4), (3, 4), (4, 4)], [.d (.bool false), .d (.bool false), .d (.bool false), .d (.bool false), .d (.bool false)], false⟩,
  some ⟨5, 5, true, .strct [(0, 4), (1, 4), (2, 4), (3, 4), (4, 4)], [.d (.bool false), .d (.bool false), .d (.bool false), .d (.bool false), .d (.bool false)], true⟩,
  some ⟨1, 8, false, .other, [.top], false⟩,
  some ⟨1, 8, false, .other, [.top], false⟩,
  some ⟨1, 8, false, .other, [.top], false⟩,
  some ⟨1, 8, false, .other, [.top], false⟩,
  some ⟨1, 8, false, .other, [.top], false⟩,
  some ⟨1, 8, false, .other, [.top], false⟩,
  some ⟨15, 184, true, .strct [(0, 49), (9, 28)], [.d (.str ⟨#[]⟩), .d (.int .i64 0), .d (.int .i64 0), .d (.bool false), .d (.bool false), .d (.int .i64 0), .d (.str ⟨#[]⟩), .d (.int .i64 0), .nil, .d (.int .i64 0), .d (.int .i64 0), .d (.int .i64 0), .d (.str ⟨#[]⟩), .nil, .nil], false⟩,
  some ⟨15, 184, true, .strct [(0, 49), (9, 28)], [.d (.str ⟨#[]⟩), .d (.int .i64 0), .d (.int .i64 0), .d (.bool false), .d (.bool false), .d (.int .i64 0), .d (.str ⟨#[]⟩), .d (.int .i64 0), .nil, .d (.int .i64 0), .d (.int .i64 0), .d (.int .i64 0), .d (.str ⟨#[]⟩), .nil, .nil], false⟩,
  some ⟨1, 8, false, .other, [.top], false⟩,
  some ⟨1, 4, false, .int .u32, [.d (.int .u32 0)], false⟩,
  none,
  some ⟨1, 8, false, .other, [.top], false⟩,
  some ⟨1, 8, false, .int .u64, [.d (.int .u64 0)], false⟩,
  none,
  some ⟨1, 8, false, .other, [.top], false⟩,
  some ⟨1, 8, false, .other, [.top], false⟩,
  some ⟨1, 8, false, .other, [.top], false⟩,
  some ⟨1, 8, false, .other, [.top], false⟩,
  some ⟨1, 8, false, .other, [.top], false⟩,
  some ⟨1, 8, false, .other, [.top], false⟩,
  some ⟨1, 8, false, .other, [.top], false⟩,
  some ⟨1, 8, false, .other, [.top], false⟩,
  none,
  none,
  none,
  some ⟨1, 8, false, .other, [.top], false⟩,
  some ⟨1, 8, false, .other, [.top], false⟩,
  some ⟨1, 8, false, .other, [.top], false⟩,
  some ⟨1, 8, false, .other, [.top], false⟩,
  some ⟨1, 8, false, .other, [.top], false⟩,
  some ⟨1, 8, false, .other, [.top], false⟩,
  some ⟨1, 8, false, .other, [.top], false⟩,
  some ⟨1, 8, false, .other, [.top], false⟩,
  none,
  some ⟨1, 8, false, .other, [.top], false⟩,
  some ⟨1, 8, false, .other, [.top], false⟩,
  some ⟨1, 8, false, .other, [.top], false⟩,
  none,
  some ⟨1, 8, false, .other, [.top], false⟩,
  some ⟨1, 8, false, .other, [.top], false⟩,
  some ⟨1, 8, false, .other, [.top], false⟩,
  none,
  some ⟨2, 2, true, .strct [(0, 5), (1, 5)], [.d (.int .u8 0), .d (.int .u8 0)], false⟩,
  some ⟨2, 2, true, .strct [(0, 5), (1, 5)], [.d (.int .u8 0), .d (.int .u8 0)], false⟩,
  some ⟨32, 32, true, .array 16 296, [.d (.int .u8 0), .d (.int .u8 0), .d (.int .u8 0), .d (.int .u8 0), .d (.int .u8 0), .d (.int .u8 0), .d (.int .u8 0), .d (.int .u8 0), .d (.int .u8 0), .d (.int .u8 0), .d (.int .u8 0), .d (.int .u8 0), .d (.int .u8 0), .d (.int .u8 0), .d (.int .u8 0), .d (.int .u8 0), .d (.int .u8 0), .d (.int .u8 0), .d (.int .u8 0), .d (.int .u8 0), .d (.int .u8 0), .d (.int .u8 0), .d (.int .u8 0), .d (.int .u8 0), .d (.int .u8 0), .d (.int .u8 0), .d (.int .u8 0), .d (.int .u8 0), .d (.int .u8 0), .d (.int .u8 0), .d (.int .u8 0), .d (.int .u8 0)], false⟩,
  some ⟨4, 40, true, .strct [(0, 17), (1, 17), (2, 17), (3, 9)], [.top, .top, .top, .d (.str ⟨#[]⟩)], false⟩,
  some ⟨4, 40, true, .strct [(0, 17), (1, 17), (2, 17), (3, 9)], [.top, .top, .top, .d (.str ⟨#[]⟩)], false⟩,
  some ⟨0, 0, true, .array 0 16, [], false⟩,
  none,
  none,
  some ⟨1, 1, false, .int .u8, [.d (.int .u8 0)], false⟩,
  some ⟨1, 1, false, .int .u8, [.d (.int .u8 0)], false⟩,
  some ⟨1, 8, false, .other, [.top], false⟩,
  some ⟨1, 4, false, .int .i32, [.d (.int .i32 0)], false⟩,
  some ⟨1, 4, false, .int .i32, [.d (.int .i32 0)], false⟩,
  some ⟨11, 48, true, .strct [(0, 12), (1, 12), (2, 262), (3, 303), (4, 5), (5, 5), (6, 304), (7, 305), (8, 268), (9, 306), (10, 307)], [.d (.int .u64 0), .d (.int .u64 0), .d (.int .u32 0), .d (.int .u8 0), .d (.int .u8 0), .d (.int .u8 0), .d (.int .u8 0), .top, .top, .d (.int .i32 0), .d (.int .i32 0)], false⟩,
  some ⟨11, 48, true, .strct [(0, 12), (1, 12), (2, 262), (3, 303), (4, 5), (5, 5), (6, 304), (7, 305), (8, 268), (9, 306), (10, 307)], [.d (.int .u64 0), .d (.int .u64 0), .d (.int .u32 0), .d (.int .u8 0), .d (.int .u8 0), .d (.int .u8 0), .d (.int .u8 0), .top, .top, .d (.int .i32 0), .d (.int .i32 0)], false⟩]
def T (t : TypeId) : Option TI := tab.getD t none
@[go_sem ↓] theorem T1 : T 1 = some ⟨1, 8, false, .other, [.top], false⟩ := rfl
@[go_sem ↓] theorem T2 : T 2 = some ⟨1, 8, false, .int .i64, [.d (.int .i64 0)], false⟩ := rfl
@[go_sem ↓] theorem T3 : T 3 = some ⟨1, 8, false, .int .i64, [.d (.int .i64 0)], false⟩ := rfl
@[go_sem ↓] theorem T4 : T 4 = some ⟨1, 1, false, .bool, [.d (.bool false)], false⟩ := rfl
@[go_sem ↓] theorem T5 : T 5 = some ⟨1, 1, false, .int .u8, [.d (.int .u8 0)], false⟩ := rfl
@[go_sem ↓] theorem T6 : T 6 = some ⟨1, 1, false, .int .u8, [.d (.int .u8 0)], false⟩ := rfl
@[go_sem ↓] theorem T7 : T 7 = some ⟨4, 24, true, .strct [(0, 2), (1, 3), (2, 4), (3, 6)], [.d (.int .i64 0), .d (.int .i64 0), .d (.bool false), .d (.int .u8 0)], false⟩ := rfl
@[go_sem ↓] theorem T8 : T 8 = some ⟨4, 24, true, .strct [(0, 2), (1, 3), (2, 4), (3, 6)], [.d (.int .i64 0), .d (.int .i64 0), .d (.bool false), .d (.int .u8 0)], false⟩ := rfl
@[go_sem ↓] theorem T9 : T 9 = some ⟨1, 16, false, .str, [.d (.str ⟨#[]⟩)], false⟩ := rfl
@[go_sem ↓] theorem T10 : T 10 = some ⟨1, 16, false, .str, [.d (.str ⟨#[]⟩)], false⟩ := rfl
@[go_sem ↓] theorem T11 : T 11 = some ⟨1, 16, false, .str, [.d (.str ⟨#[]⟩)], false⟩ := rfl
@[go_sem ↓] theorem T12 : T 12 = some ⟨1, 8, false, .int .u64, [.d (.int .u64 0)], false⟩ := rfl
@[go_sem ↓] theorem T13 : T 13 = some ⟨2, 24, true, .strct [(0, 9), (1, 12)], [.d (.str ⟨#[]⟩), .d (.int .u64 0)], false⟩ := rfl
@[go_sem ↓] theorem T14 : T 14 = some ⟨2, 24, true, .strct [(0, 9), (1, 12)], [.d (.str ⟨#[]⟩), .d (.int .u64 0)], false⟩ := rfl
@[go_sem ↓] theorem T15 : T 15 = some ⟨1, 8, false, .other, [.top], false⟩ := rfl
@[go_sem ↓] theorem T16 : T 16 = some ⟨1, 8, false, .other, [.top], false⟩ := rfl
@[go_sem ↓] theorem T17 : T 17 = some ⟨1, 8, false, .other, [.top], false⟩ := rfl
@[go_sem ↓] theorem T18 : T 18 = some ⟨1, 8, true, .strct [(0, 17)], [.top], false⟩ := rfl
@[go_sem ↓] theorem T19 : T 19 = some ⟨1, 8, true, .strct [(0, 17)], [.top], false⟩ := rfl
@[go_sem ↓] theorem T21 : T 21 = some ⟨1, 4, false, .int .i32, [.d (.int .i32 0)], false⟩ := rfl
@[go_sem ↓] theorem T22 : T 22 = some ⟨1, 24, false, .slice 37, [.nil], false⟩ := rfl
@[go_sem ↓] theorem T23 : T 23 = some ⟨2, 40, true, .strct [(0, 22), (1, 9)], [.nil, .d (.str ⟨#[]⟩)], false⟩ := rfl
@[go_sem ↓] theorem T24 : T 24 = some ⟨2, 40, true, .strct [(0, 22), (1, 9)], [.nil, .d (.str ⟨#[]⟩)], false⟩ := rfl
@[go_sem ↓] theorem T25 : T 25 = some ⟨1, 24, false, .slice 9, [.nil], false⟩ := rfl
@[go_sem ↓] theorem T26 : T 26 = some ⟨1, 24, false, .slice 28, [.nil], false⟩ := rfl
@[go_sem ↓] theorem T27 : T 27 = some ⟨6, 88, true, .strct [(0, 3), (1, 3), (2, 3), (3, 9), (4, 25), (5, 26)], [.d (.int .i64 0), .d (.int .i64 0), .d (.int .i64 0), .d (.str ⟨#[]⟩), .nil, .nil], false⟩ := rfl
@[go_sem ↓] theorem T28 : T 28 = some ⟨6, 88, true, .strct [(0, 3), (1, 3), (2, 3), (3, 9), (4, 25), (5, 26)], [.d (.int .i64 0), .d (.int .i64 0), .d (.int .i64 0), .d (.str ⟨#[]⟩), .nil, .nil], false⟩ := rfl
@[go_sem ↓] theorem T29 : T 29 = some ⟨1, 8, false, .other, [.top], false⟩ := rfl
@[go_sem ↓] theorem T30 : T 30 = some ⟨1, 8, false, .other, [.top], false⟩ := rfl
@[go_sem ↓] theorem T31 : T 31 = some ⟨3, 24, true, .strct [(0, 3), (1, 3), (2, 3)], [.d (.int .i64 0), .d (.int .i64 0), .d (.int .i64 0)], false⟩ := rfl
@[go_sem ↓] theorem T32 : T 32 = some ⟨3, 24, true, .strct [(0, 3), (1, 3), (2, 3)], [.d (.int .i64 0), .d (.int .i64 0), .d (.int .i64 0)], true⟩ := rfl
@[go_sem ↓] theorem T33 : T 33 = some ⟨1, 8, false, .other, [.top], false⟩ := rfl
@[go_sem ↓] theorem T34 : T 34 = some ⟨1, 8, false, .other, [.top], false⟩ := rfl
@[go_sem ↓] theorem T35 : T 35 = some ⟨1, 24, false, .slice 49, [.nil], false⟩ := rfl
@[go_sem ↓] theorem T36 : T 36 = some ⟨3, 48, true, .strct [(0, 9), (1, 35), (2, 4)], [.d (.str ⟨#[]⟩), .nil, .d (.bool false)], false⟩ := rfl
@[go_sem ↓] theorem T37 : T 37 = some ⟨3, 48, true, .strct [(0, 9), (1, 35), (2, 4)], [.d (.str ⟨#[]⟩), .nil, .d (.bool false)], false⟩ := rfl
@[go_sem ↓] theorem T38 : T 38 = some ⟨1, 8, false, .int .i64, [.d (.int .i64 0)], false⟩ := rfl
@[go_sem ↓] theorem T40 : T 40 = some ⟨1, 8, false, .other, [.top], false⟩ := rfl
@[go_sem ↓] theorem T41 : T 41 = some ⟨1, 8, false, .other, [.top], false⟩ := rfl
@[go_sem ↓] theorem T42 : T 42 = some ⟨1, 8, false, .other, [.top], false⟩ := rfl
@[go_sem ↓] theorem T44 : T 44 = some ⟨1, 8, false, .other, [.top], false⟩ := rfl
@[go_sem ↓] theorem T45 : T 45 = some ⟨1, 8, false, .other, [.top], false⟩ := rfl
@[go_sem ↓] theorem T46 : T 46 = some ⟨1, 8, false, .other, [.top], false⟩ := rfl
@[go_sem ↓] theorem T47 : T 47 = some ⟨1, 24, false, .slice 128, [.nil], false⟩ := rfl
@[go_sem ↓] theorem T48 : T 48 = some ⟨9, 96, true, .strct [(0, 9), (1, 3), (2, 3), (3, 4), (4, 4), (5, 3), (6, 9), (7, 3), (8, 47)], [.d (.str ⟨#[]⟩), .d (.int .i64 0), .d (.int .i64 0), .d (.bool false), .d (.bool false), .d (.int .i64 0), .d (.str ⟨#[]⟩), .d (.int .i64 0), .nil], false⟩ := rfl
@[go_sem ↓] theorem T49 : T 49 = some ⟨9, 96, true, .strct [(0, 9), (1, 3), (2, 3), (3, 4), (4, 4), (5, 3), (6, 9), (7, 3), (8, 47)], [.d (.str ⟨#[]⟩), .d (.int .i64 0), .d (.int .i64 0), .d (.bool false), .d (.bool false), .d (.int .i64 0), .d (.str ⟨#[]⟩), .d (.int .i64 0), .nil], false⟩ := rfl
@[go_sem ↓] theorem T50 : T 50 = some ⟨1, 8, false, .other, [.top], false⟩ := rfl
@[go_sem ↓] theorem T52 : T 52 = some ⟨1, 8, false, .other, [.top], false⟩ := rfl
@[go_sem ↓] theorem T53 : T 53 = some ⟨1, 24, false, .slice 3, [.nil], false⟩ := rfl
@[go_sem ↓] theorem T55 : T 55 = some ⟨1, 8, false, .other, [.top], false⟩ := rfl
@[go_sem ↓] theorem T56 : T 56 = some ⟨1, 8, false, .other, [.top], false⟩ := rfl
@[go_sem ↓] theorem T57 : T 57 = some ⟨1, 8, false, .other, [.top], false⟩ := rfl
@[go_sem ↓] theorem T58 : T 58 = some ⟨1, 8, false, .other, [.top], false⟩ := rfl
@[go_sem ↓] theorem T60 : T 60 = some ⟨1, 8, false, .other, [.top], false⟩ := rfl
@[go_sem ↓] theorem T62 : T 62 = some ⟨1, 8, false, .other, [.top], false⟩ := rfl
@[go_sem ↓] theorem T63 : T 63 = some ⟨1, 8, false, .other, [.top], false⟩ := rfl
@[go_sem ↓] theorem T64 : T 64 = some ⟨1, 8, false, .other, [.top], false⟩ := rfl
@[go_sem ↓] theorem T65 : T 65 = some ⟨1, 8, false, .other, [.top], false⟩ := rfl
@[go_sem ↓] theorem T67 : T 67 = some ⟨1, 8, false, .other, [.top], false⟩ := rfl
@[go_sem ↓] theorem T68 : T 68 = some ⟨2, 32, true, .strct [(0, 53), (1, 3)], [.nil, .d (.int .i64 0)], false⟩ := rfl
@[go_sem ↓] theorem T69 : T 69 = some ⟨2, 32, true, .strct [(0, 53), (1, 3)], [.nil, .d (.int .i64 0)], false⟩ := rfl
@[go_sem ↓] theorem T70 : T 70 = some ⟨1, 8, false, .other, [.top], false⟩ := rfl
@[go_sem ↓] theorem T71 : T 71 = some ⟨1, 8, false, .other, [.top], false⟩ := rfl
@[go_sem ↓] theorem T72 : T 72 = some ⟨1, 8, false, .other, [.top], false⟩ := rfl
@[go_sem ↓] theorem T73 : T 73 = some ⟨1, 8, false, .other, [.top], false⟩ := rfl
@[go_sem ↓] theorem T75 : T 75 = some ⟨1, 8, false, .other, [.top], false⟩ := rfl
@[go_sem ↓] theorem T76 : T 76 = some ⟨1, 8, false, .other, [.top], false⟩ := rfl
@[go_sem ↓] theorem T78 : T 78 = some ⟨1, 8, false, .other, [.top], false⟩ := rfl
@[go_sem ↓] theorem T79 : T 79 = some ⟨1, 8, false, .other, [.top], false⟩ := rfl
@[go_sem ↓] theorem T80 : T 80 = some ⟨1, 8, false, .other, [.top], false⟩ := rfl
@[go_sem ↓] theorem T81 : T 81 = some ⟨1, 24, false, .slice 86, [.nil], false⟩ := rfl
@[go_sem ↓] theorem T82 : T 82 = some ⟨9, 128, true, .strct [(0, 28), (6, 3), (7, 3), (8, 81)], [.d (.int .i64 0), .d (.int .i64 0), .d (.int .i64 0), .d (.str ⟨#[]⟩), .nil, .nil, .d (.int .i64 0), .d (.int .i64 0), .nil], false⟩ := rfl
@[go_sem ↓] theorem T83 : T 83 = some ⟨9, 128, true, .strct [(0, 28), (6, 3), (7, 3), (8, 81)], [.d (.int .i64 0), .d (.int .i64 0), .d (.int .i64 0), .d (.str ⟨#[]⟩), .nil, .nil, .d (.int .i64 0), .d (.int .i64 0), .nil], false⟩ := rfl
@[go_sem ↓] theorem T84 : T 84 = some ⟨1, 8, false, .other, [.top], false⟩ := rfl
@[go_sem ↓] theorem T85 : T 85 = some ⟨3, 40, true, .strct [(0, 53), (1, 3), (2, 3)], [.nil, .d (.int .i64 0), .d (.int .i64 0)], false⟩ := rfl
@[go_sem ↓] theorem T86 : T 86 = some ⟨3, 40, true, .strct [(0, 53), (1, 3), (2, 3)], [.nil, .d (.int .i64 0), .d (.int .i64 0)], false⟩ := rfl
@[go_sem ↓] theorem T87 : T 87 = some ⟨1, 8, false, .other, [.top], false⟩ := rfl
@[go_sem ↓] theorem T88 : T 88 = some ⟨1, 8, false, .other, [.top], false⟩ := rfl
@[go_sem ↓] theorem T89 : T 89 = some ⟨1, 8, false, .other, [.top], false⟩ := rfl
@[go_sem ↓] theorem T90 : T 90 = some ⟨1, 8, false, .other, [.top], false⟩ := rfl
@[go_sem ↓] theorem T91 : T 91 = some ⟨1, 8, false, .other, [.top], false⟩ := rfl
@[go_sem ↓] theorem T92 : T 92 = some ⟨2, 16, true, .strct [(0, 3), (1, 4)], [.d (.int .i64 0), .d (.bool false)], false⟩ := rfl
@[go_sem ↓] theorem T93 : T 93 = some ⟨2, 16, true, .strct [(0, 3), (1, 4)], [.d (.int .i64 0), .d (.bool false)], true⟩ := rfl
@[go_sem ↓] theorem T94 : T 94 = some ⟨1, 8, false, .other, [.top], false⟩ := rfl
@[go_sem ↓] theorem T95 : T 95 = some ⟨1, 8, false, .other, [.top], false⟩ := rfl
@[go_sem ↓] theorem T96 : T 96 = some ⟨1, 8, false, .other, [.top], false⟩ := rfl
@[go_sem ↓] theorem T97 : T 97 = some ⟨1, 8, false, .other, [.top], false⟩ := rfl
@[go_sem ↓] theorem T98 : T 98 = some ⟨1, 24, false, .slice 5, [.nil], false⟩ := rfl
@[go_sem ↓] theorem T99 : T 99 = some ⟨3, 56, true, .strct [(0, 22), (1, 4), (2, 98)], [.nil, .d (.bool false), .nil], false⟩ := rfl
@[go_sem ↓] theorem T100 : T 100 = some ⟨3, 56, true, .strct [(0, 22), (1, 4), (2, 98)], [.nil, .d (.bool false), .nil], false⟩ := rfl
@[go_sem ↓] theorem T101 : T 101 = some ⟨1, 8, false, .other, [.top], false⟩ := rfl
@[go_sem ↓] theorem T102 : T 102 = some ⟨1, 8, false, .other, [.top], false⟩ := rfl
@[go_sem ↓] theorem T103 : T 103 = some ⟨1, 8, false, .other, [.top], false⟩ := rfl
@[go_sem ↓] theorem T104 : T 104 = some ⟨1, 8, false, .other, [.top], false⟩ := rfl
@[go_sem ↓] theorem T105 : T 105 = some ⟨1, 8, false, .other, [.top], false⟩ := rfl
@[go_sem ↓] theorem T106 : T 106 = some ⟨3, 56, true, .strct [(0, 22), (1, 53), (2, 38)], [.nil, .nil, .d (.int .i64 0)], false⟩ := rfl
@[go_sem ↓] theorem T107 : T 107 = some ⟨3, 56, true, .strct [(0, 22), (1, 53), (2, 38)], [.nil, .nil, .d (.int .i64 0)], false⟩ := rfl
@[go_sem ↓] theorem T108 : T 108 = some ⟨1, 8, false, .other, [.top], false⟩ := rfl
@[go_sem ↓] theorem T109 : T 109 = some ⟨1, 8, false, .other, [.top], false⟩ := rfl
@[go_sem ↓] theorem T110 : T 110 = some ⟨1, 8, false, .other, [.top], false⟩ := rfl
@[go_sem ↓] theorem T111 : T 111 = some ⟨1, 8, false, .other, [.top], false⟩ := rfl
@[go_sem ↓] theorem T112 : T 112 = some ⟨1, 8, false, .other, [.top], false⟩ := rfl
@[go_sem ↓] theorem T113 : T 113 = some ⟨1, 8, false, .other, [.top], false⟩ := rfl
@[go_sem ↓] theorem T115 : T 115 = some ⟨1, 8, false, .other, [.top], false⟩ := rfl
@[go_sem ↓] theorem T116 : T 116 = some ⟨1, 24, false, .slice 121, [.nil], false⟩ := rfl
@[go_sem ↓] theorem T117 : T 117 = some ⟨8, 104, true, .strct [(0, 22), (1, 9), (2, 4), (3, 3), (4, 3), (5, 116), (6, 3), (7, 38)], [.nil, .d (.str ⟨#[]⟩), .d (.bool false), .d (.int .i64 0), .d (.int .i64 0), .nil, .d (.int .i64 0), .d (.int .i64 0)], false⟩ := rfl
@[go_sem ↓] theorem T118 : T 118 = some ⟨8, 104, true, .strct [(0, 22), (1, 9), (2, 4), (3, 3), (4, 3), (5, 116), (6, 3), (7, 38)], [.nil, .d (.str ⟨#[]⟩), .d (.bool false), .d (.int .i64 0), .d (.int .i64 0), .nil, .d (.int .i64 0), .d (.int .i64 0)], false⟩ := rfl
@[go_sem ↓] theorem T119 : T 119 = some ⟨1, 8, false, .other, [.top], false⟩ := rfl
@[go_sem ↓] theorem T120 : T 120 = some ⟨3, 40, true, .strct [(0, 53), (1, 3), (2, 3)], [.nil, .d (.int .i64 0), .d (.int .i64 0)], false⟩ := rfl
@[go_sem ↓] theorem T121 : T 121 = some ⟨3, 40, true, .strct [(0, 53), (1, 3), (2, 3)], [.nil, .d (.int .i64 0), .d (.int .i64 0)], false⟩ := rfl
@[go_sem ↓] theorem T122 : T 122 = some ⟨1, 8, false, .other, [.top], false⟩ := rfl
@[go_sem ↓] theorem T123 : T 123 = some ⟨4, 40, true, .strct [(0, 3), (1, 3), (2, 3), (3, 9)], [.d (.int .i64 0), .d (.int .i64 0), .d (.int .i64 0), .d (.str ⟨#[]⟩)], false⟩ := rfl
@[go_sem ↓] theorem T124 : T 124 = some ⟨4, 40, true, .strct [(0, 3), (1, 3), (2, 3), (3, 9)], [.d (.int .i64 0), .d (.int .i64 0), .d (.int .i64 0), .d (.str ⟨#[]⟩)], true⟩ := rfl
@[go_sem ↓] theorem T125 : T 125 = some ⟨1, 8, false, .other, [.top], false⟩ := rfl
@[go_sem ↓] theorem T126 : T 126 = some ⟨1, 24, false, .slice 124, [.nil], false⟩ := rfl
@[go_sem ↓] theorem T127 : T 127 = some ⟨3, 32, true, .strct [(0, 3), (1, 3), (2, 9)], [.d (.int .i64 0), .d (.int .i64 0), .d (.str ⟨#[]⟩)], false⟩ := rfl
@[go_sem ↓] theorem T128 : T 128 = some ⟨3, 32, true, .strct [(0, 3), (1, 3), (2, 9)], [.d (.int .i64 0), .d (.int .i64 0), .d (.str ⟨#[]⟩)], true⟩ := rfl
@[go_sem ↓] theorem T129 : T 129 = some ⟨1, 8, false, .other, [.top], false⟩ := rfl
@[go_sem ↓] theorem T130 : T 130 = some ⟨1, 8, false, .other, [.top], false⟩ := rfl
@[go_sem ↓] theorem T131 : T 131 = some ⟨1, 8, false, .other, [.top], false⟩ := rfl
@[go_sem ↓] theorem T132 : T 132 = some ⟨1, 8, false, .other, [.top], false⟩ := rfl
@[go_sem ↓] theorem T133 : T 133 = some ⟨1, 8, false, .other, [.top], false⟩ := rfl
@[go_sem ↓] theorem T134 : T 134 = some ⟨1, 8, false, .other, [.top], false⟩ := rfl
@[go_sem ↓] theorem T135 : T 135 = some ⟨1, 8, false, .other, [.top], false⟩ := rfl
@[go_sem ↓] theorem T136 : T 136 = some ⟨1, 8, false, .other, [.top], false⟩ := rfl
@[go_sem ↓] theorem T137 : T 137 = some ⟨1, 8, false, .other, [.top], false⟩ := rfl
@[go_sem ↓] theorem T139 : T 139 = some ⟨1, 8, false, .other, [.top], false⟩ := rfl
@[go_sem ↓] theorem T140 : T 140 = some ⟨1, 8, false, .other, [.top], false⟩ := rfl
@[go_sem ↓] theorem T141 : T 141 = some ⟨1, 8, false, .other, [.top], false⟩ := rfl
@[go_sem ↓] theorem T142 : T 142 = some ⟨1, 8, false, .other, [.top], false⟩ := rfl
@[go_sem ↓] theorem T143 : T 143 = some ⟨1, 8, false, .other, [.top], false⟩ := rfl
@[go_sem ↓] theorem T144 : T 144 = some ⟨1, 8, false, .other, [.top], false⟩ := rfl
@[go_sem ↓] theorem T145 : T 145 = some ⟨1, 8, false, .other, [.top], false⟩ := rfl
@[go_sem ↓] theorem T146 : T 146 = some ⟨6, 88, true, .strct [(0, 22), (1, 9), (2, 3), (3, 3), (4, 3), (5, 81)], [.nil, .d (.str ⟨#[]⟩), .d (.int .i64 0), .d (.int .i64 0), .d (.int .i64 0), .nil], false⟩ := rfl
@[go_sem ↓] theorem T147 : T 147 = some ⟨6, 88, true, .strct [(0, 22), (1, 9), (2, 3), (3, 3), (4, 3), (5, 81)], [.nil, .d (.str ⟨#[]⟩), .d (.int .i64 0), .d (.int .i64 0), .d (.int .i64 0), .nil], false⟩ := rfl
@[go_sem ↓] theorem T148 : T 148 = some ⟨1, 8, false, .other, [.top], false⟩ := rfl
@[go_sem ↓] theorem T149 : T 149 = some ⟨3, 40, true, .strct [(0, 3), (1, 3), (2, 53)], [.d (.int .i64 0), .d (.int .i64 0), .nil], false⟩ := rfl
@[go_sem ↓] theorem T150 : T 150 = some ⟨3, 40, true, .strct [(0, 3), (1, 3), (2, 53)], [.d (.int .i64 0), .d (.int .i64 0), .nil], false⟩ := rfl
@[go_sem ↓] theorem T151 : T 151 = some ⟨1, 8, false, .other, [.top], false⟩ := rfl
@[go_sem ↓] theorem T152 : T 152 = some ⟨1, 8, false, .other, [.top], false⟩ := rfl
@[go_sem ↓] theorem T153 : T 153 = some ⟨1, 8, false, .other, [.top], false⟩ := rfl
@[go_sem ↓] theorem T154 : T 154 = some ⟨1, 8, false, .other, [.top], false⟩ := rfl
@[go_sem ↓] theorem T155 : T 155 = some ⟨1, 8, false, .other, [.top], false⟩ := rfl
@[go_sem ↓] theorem T156 : T 156 = some ⟨1, 8, false, .other, [.top], false⟩ := rfl
@[go_sem ↓] theorem T157 : T 157 = some ⟨1, 8, false, .other, [.top], false⟩ := rfl
@[go_sem ↓] theorem T158 : T 158 = some ⟨1, 8, false, .other, [.top], false⟩ := rfl
@[go_sem ↓] theorem T159 : T 159 = some ⟨1, 8, false, .other, [.top], false⟩ := rfl
@[go_sem ↓] theorem T160 : T 160 = some ⟨1, 8, false, .other, [.top], false⟩ := rfl
@[go_sem ↓] theorem T161 : T 161 = some ⟨1, 8, false, .other, [.top], false⟩ := rfl
@[go_sem ↓] theorem T162 : T 162 = some ⟨1, 8, false, .other, [.top], false⟩ := rfl
@[go_sem ↓] theorem T163 : T 163 = some ⟨1, 8, false, .other, [.top], false⟩ := rfl
@[go_sem ↓] theorem T164 : T 164 = some ⟨1, 8, false, .other, [.top], false⟩ := rfl
@[go_sem ↓] theorem T165 : T 165 = some ⟨1, 8, false, .other, [.top], false⟩ := rfl
@[go_sem ↓] theorem T166 : T 166 = some ⟨1, 8, false, .other, [.top], false⟩ := rfl
@[go_sem ↓] theorem T167 : T 167 = some ⟨1, 8, false, .other, [.top], false⟩ := rfl
@[go_sem ↓] theorem T168 : T 168 = some ⟨1, 8, false, .other, [.top], false⟩ := rfl
@[go_sem ↓] theorem T169 : T 169 = some ⟨1, 8, false, .other, [.top], false⟩ := rfl
@[go_sem ↓] theorem T170 : T 170 = some ⟨1, 8, false, .other, [.top], false⟩ := rfl
@[go_sem ↓] theorem T171 : T 171 = some ⟨1, 8, false, .other, [.top], false⟩ := rfl
@[go_sem ↓] theorem T172 : T 172 = some ⟨1, 8, false, .other, [.top], false⟩ := rfl
@[go_sem ↓] theorem T173 : T 173 = some ⟨1, 8, false, .other, [.top], false⟩ := rfl
@[go_sem ↓] theorem T174 : T 174 = some ⟨1, 8, false, .other, [.top], false⟩ := rfl
@[go_sem ↓] theorem T175 : T 175 = some ⟨1, 8, false, .other, [.top], false⟩ := rfl
@[go_sem ↓] theorem T176 : T 176 = some ⟨1, 8, false, .other, [.top], false⟩ := rfl
@[go_sem ↓] theorem T177 : T 177 = some ⟨1, 8, false, .other, [.top], false⟩ := rfl
@[go_sem ↓] theorem T178 : T 178 = some ⟨1, 8, false, .other, [.top], false⟩ := rfl
@[go_sem ↓] theorem T179 : T 179 = some ⟨1, 8, false, .other, [.top], false⟩ := rfl
@[go_sem ↓] theorem T180 : T 180 = some ⟨1, 8, false, .other, [.top], false⟩ := rfl
@[go_sem ↓] theorem T181 : T 181 = some ⟨1, 8, false, .other, [.top], false⟩ := rfl
@[go_sem ↓] theorem T182 : T 182 = some ⟨1, 8, false, .other, [.top], false⟩ := rfl
@[go_sem ↓] theorem T183 : T 183 = some ⟨1, 8, false, .other, [.top], false⟩ := rfl
@[go_sem ↓] theorem T184 : T 184 = some ⟨2, 16, true, .strct [(0, 3), (1, 4)], [.d (.int .i64 0), .d (.bool false)], false⟩ := rfl
@[go_sem ↓] theorem T185 : T 185 = some ⟨2, 16, true, .strct [(0, 3), (1, 4)], [.d (.int .i64 0), .d (.bool false)], true⟩ := rfl
@[go_sem ↓] theorem T186 : T 186 = some ⟨1, 8, false, .other, [.top], false⟩ := rfl
@[go_sem ↓] theorem T187 : T 187 = some ⟨1, 8, false, .other, [.top], false⟩ := rfl
@[go_sem ↓] theorem T188 : T 188 = some ⟨1, 8, false, .other, [.top], false⟩ := rfl
@[go_sem ↓] theorem T189 : T 189 = some ⟨1, 8, false, .other, [.top], false⟩ := rfl
@[go_sem ↓] theorem T190 : T 190 = some ⟨1, 8, false, .other, [.top], false⟩ := rfl
@[go_sem ↓] theorem T191 : T 191 = some ⟨1, 8, false, .other, [.top], false⟩ := rfl
@[go_sem ↓] theorem T192 : T 192 = some ⟨1, 8, false, .other, [.top], false⟩ := rfl
@[go_sem ↓] theorem T193 : T 193 = some ⟨1, 8, false, .other, [.top], false⟩ := rfl
@[go_sem ↓] theorem T194 : T 194 = some ⟨1, 8, false, .other, [.top], false⟩ := rfl
@[go_sem ↓] theorem T195 : T 195 = some ⟨1, 8, false, .other, [.top], false⟩ := rfl
@[go_sem ↓] theorem T197 : T 197 = some ⟨1, 8, false, .other, [.top], false⟩ := rfl
@[go_sem ↓] theorem T198 : T 198 = some ⟨1, 8, false, .other, [.top], false⟩ := rfl
@[go_sem ↓] theorem T199 : T 199 = some ⟨1, 8, false, .other, [.top], false⟩ := rfl
@[go_sem ↓] theorem T200 : T 200 = some ⟨7, 96, true, .strct [(0, 28), (6, 3)], [.d (.int .i64 0), .d (.int .i64 0), .d (.int .i64 0), .d (.str ⟨#[]⟩), .nil, .nil, .d (.int .i64 0)], false⟩ := rfl
@[go_sem ↓] theorem T201 : T 201 = some ⟨7, 96, true, .strct [(0, 28), (6, 3)], [.d (.int .i64 0), .d (.int .i64 0), .d (.int .i64 0), .d (.str ⟨#[]⟩), .nil, .nil, .d (.int .i64 0)], false⟩ := rfl
@[go_sem ↓] theorem T202 : T 202 = some ⟨1, 8, false, .other, [.top], false⟩ := rfl
@[go_sem ↓] theorem T203 : T 203 = some ⟨1, 8, false, .other, [.top], false⟩ := rfl
@[go_sem ↓] theorem T204 : T 204 = some ⟨1, 8, false, .other, [.top], false⟩ := rfl
@[go_sem ↓] theorem T205 : T 205 = some ⟨1, 8, false, .other, [.top], false⟩ := rfl
@[go_sem ↓] theorem T206 : T 206 = some ⟨1, 8, false, .other, [.top], false⟩ := rfl
@[go_sem ↓] theorem T207 : T 207 = some ⟨1, 8, false, .other, [.top], false⟩ := rfl
@[go_sem ↓] theorem T208 : T 208 = some ⟨1, 8, false, .other, [.top], false⟩ := rfl
@[go_sem ↓] theorem T209 : T 209 = some ⟨1, 8, false, .other, [.top], false⟩ := rfl
@[go_sem ↓] theorem T210 : T 210 = some ⟨5, 80, true, .strct [(0, 37), (3, 3), (4, 53)], [.d (.str ⟨#[]⟩), .nil, .d (.bool false), .d (.int .i64 0), .nil], false⟩ := rfl
@[go_sem ↓] theorem T211 : T 211 = some ⟨5, 80, true, .strct [(0, 37), (3, 3), (4, 53)], [.d (.str ⟨#[]⟩), .nil, .d (.bool false), .d (.int .i64 0), .nil], false⟩ := rfl
@[go_sem ↓] theorem T212 : T 212 = some ⟨1, 8, false, .other, [.top], false⟩ := rfl
@[go_sem ↓] theorem T213 : T 213 = some ⟨13, 152, true, .strct [(0, 37), (3, 49), (12, 3)], [.d (.str ⟨#[]⟩), .nil, .d (.bool false), .d (.str ⟨#[]⟩), .d (.int .i64 0), .d (.int .i64 0), .d (.bool false), .d (.bool false), .d (.int .i64 0), .d (.str ⟨#[]⟩), .d (.int .i64 0), .nil, .d (.int .i64 0)], false⟩ := rfl
@[go_sem ↓] theorem T214 : T 214 = some ⟨13, 152, true, .strct [(0, 37), (3, 49), (12, 3)], [.d (.str ⟨#[]⟩), .nil, .d (.bool false), .d (.str ⟨#[]⟩), .d (.int .i64 0), .d (.int .i64 0), .d (.bool false), .d (.bool false), .d (.int .i64 0), .d (.str ⟨#[]⟩), .d (.int .i64 0), .nil, .d (.int .i64 0)], false⟩ := rfl
@[go_sem ↓] theorem T215 : T 215 = some ⟨1, 8, false, .other, [.top], false⟩ := rfl
@[go_sem ↓] theorem T216 : T 216 = some ⟨1, 8, false, .other, [.top], false⟩ := rfl
@[go_sem ↓] theorem T217 : T 217 = some ⟨1, 8, false, .other, [.top], false⟩ := rfl
@[go_sem ↓] theorem T218 : T 218 = some ⟨1, 8, false, .other, [.top], false⟩ := rfl
@[go_sem ↓] theorem T219 : T 219 = some ⟨1, 8, false, .other, [.top], false⟩ := rfl
@[go_sem ↓] theorem T220 : T 220 = some ⟨1, 8, false, .other, [.top], false⟩ := rfl
@[go_sem ↓] theorem T221 : T 221 = some ⟨1, 8, false, .map 9 3, [.top], false⟩ := rfl
@[go_sem ↓] theorem T222 : T 222 = some ⟨1, 8, false, .other, [.top], false⟩ := rfl
@[go_sem ↓] theorem T223 : T 223 = some ⟨1, 8, false, .other, [.top], false⟩ := rfl
@[go_sem ↓] theorem T224 : T 224 = some ⟨1, 8, false, .other, [.top], false⟩ := rfl
@[go_sem ↓] theorem T225 : T 225 = some ⟨1, 8, false, .other, [.top], false⟩ := rfl
@[go_sem ↓] theorem T226 : T 226 = some ⟨1, 8, false, .other, [.top], false⟩ := rfl
@[go_sem ↓] theorem T227 : T 227 = some ⟨1, 8, false, .other, [.top], false⟩ := rfl
@[go_sem ↓] theorem T228 : T 228 = some ⟨1, 8, false, .other, [.top], false⟩ := rfl
@[go_sem ↓] theorem T229 : T 229 = some ⟨1, 8, false, .other, [.top], false⟩ := rfl
@[go_sem ↓] theorem T230 : T 230 = some ⟨1, 8, false, .other, [.top], false⟩ := rfl
@[go_sem ↓] theorem T231 : T 231 = some ⟨1, 8, false, .other, [.top], false⟩ := rfl
@[go_sem ↓] theorem T232 : T 232 = some ⟨1, 8, false, .other, [.top], false⟩ := rfl
@[go_sem ↓] theorem T233 : T 233 = some ⟨1, 8, false, .other, [.top], false⟩ := rfl
@[go_sem ↓] theorem T234 : T 234 = some ⟨1, 8, false, .int .u64, [.d (.int .u64 0)], false⟩ := rfl
@[go_sem ↓] theorem T236 : T 236 = some ⟨1, 8, false, .other, [.top], false⟩ := rfl
@[go_sem ↓] theorem T237 : T 237 = some ⟨1, 8, false, .other, [.top], false⟩ := rfl
@[go_sem ↓] theorem T238 : T 238 = some ⟨2, 32, true, .strct [(0, 237), (1, 98)], [.top, .nil], false⟩ := rfl
@[go_sem ↓] theorem T239 : T 239 = some ⟨2, 32, true, .strct [(0, 237), (1, 98)], [.top, .nil], false⟩ := rfl
@[go_sem ↓] theorem T243 : T 243 = some ⟨1, 8, false, .other, [.top], false⟩ := rfl
@[go_sem ↓] theorem T244 : T 244 = some ⟨1, 8, false, .other, [.top], false⟩ := rfl
@[go_sem ↓] theorem T245 : T 245 = some ⟨1, 8, false, .other, [.top], false⟩ := rfl
@[go_sem ↓] theorem T246 : T 246 = some ⟨1, 8, false, .other, [.top], false⟩ := rfl
@[go_sem ↓] theorem T247 : T 247 = some ⟨1, 8, false, .other, [.top], false⟩ := rfl
@[go_sem ↓] theorem T248 : T 248 = some ⟨1, 8, false, .other, [.top], false⟩ := rfl
@[go_sem ↓] theorem T249 : T 249 = some ⟨1, 8, false, .other, [.top], false⟩ := rfl
@[go_sem ↓] theorem T250 : T 250 = some ⟨1, 8, false, .other, [.top], false⟩ := rfl
@[go_sem ↓] theorem T251 : T 251 = some ⟨5, 5, true, .strct [(0, 4), (1, 4), (2, 4), (3, 4), (4, 4)], [.d (.bool false), .d (.bool false), .d (.bool false), .d (.bool false), .d (.bool false)], false⟩ := rfl
@[go_sem ↓] theorem T252 : T 252 = some ⟨5, 5, true, .strct [(0, 4), (1, 4), (2, 4), (3, 4), (4, 4)], [.d (.bool false), .d (.bool false), .d (.bool false), .d (.bool false), .d (.bool false)], true⟩ := rfl
@[go_sem ↓] theorem T253 : T 253 = some ⟨1, 8, false, .other, [.top], false⟩ := rfl
@[go_sem ↓] theorem T254 : T 254 = some ⟨1, 8, false, .other, [.top], false⟩ := rfl
@[go_sem ↓] theorem T255 : T 255 = some ⟨1, 8, false, .other, [.top], false⟩ := rfl
@[go_sem ↓] theorem T256 : T 256 = some ⟨1, 8, false, .other, [.top], false⟩ := rfl
@[go_sem ↓] theorem T257 : T 257 = some ⟨1, 8, false, .other, [.top], false⟩ := rfl
@[go_sem ↓] theorem T258 : T 258 = some ⟨1, 8, false, .other, [.top], false⟩ := rfl
@[go_sem ↓] theorem T259 : T 259 = some ⟨15, 184, true, .strct [(0, 49), (9, 28)], [.d (.str ⟨#[]⟩), .d (.int .i64 0), .d (.int .i64 0), .d (.bool false), .d (.bool false), .d (.int .i64 0), .d (.str ⟨#[]⟩), .d (.int .i64 0), .nil, .d (.int .i64 0), .d (.int .i64 0), .d (.int .i64 0), .d (.str ⟨#[]⟩), .nil, .nil], false⟩ := rfl
@[go_sem ↓] theorem T260 : T 260 = some ⟨15, 184, true, .strct [(0, 49), (9, 28)], [.d (.str ⟨#[]⟩), .d (.int .i64 0), .d (.int .i64 0), .d (.bool false), .d (.bool false), .d (.int .i64 0), .d (.str ⟨#[]⟩), .d (.int .i64 0), .nil, .d (.int .i64 0), .d (.int .i64 0), .d (.int .i64 0), .d (.str ⟨#[]⟩), .nil, .nil], false⟩ := rfl
@[go_sem ↓] theorem T261 : T 261 = some ⟨1, 8, false, .other, [.top], false⟩ := rfl
@[go_sem ↓] theorem T262 : T 262 = some ⟨1, 4, false, .int .u32, [.d (.int .u32 0)], false⟩ := rfl
@[go_sem ↓] theorem T264 : T 264 = some ⟨1, 8, false, .other, [.top], false⟩ := rfl
@[go_sem ↓] theorem T265 : T 265 = some ⟨1, 8, false, .int .u64, [.d (.int .u64 0)], false⟩ := rfl
@[go_sem ↓] theorem T267 : T 267 = some ⟨1, 8, false, .other, [.top], false⟩ := rfl
@[go_sem ↓] theorem T268 : T 268 = some ⟨1, 8, false, .other, [.top], false⟩ := rfl
@[go_sem ↓] theorem T269 : T 269 = some ⟨1, 8, false, .other, [.top], false⟩ := rfl
@[go_sem ↓] theorem T270 : T 270 = some ⟨1, 8, false, .other, [.top], false⟩ := rfl
@[go_sem ↓] theorem T271 : T 271 = some ⟨1, 8, false, .other, [.top], false⟩ := rfl
@[go_sem ↓] theorem T272 : T 272 = some ⟨1, 8, false, .other, [.top], false⟩ := rfl
@[go_sem ↓] theorem T273 : T 273 = some ⟨1, 8, false, .other, [.top], false⟩ := rfl
@[go_sem ↓] theorem T274 : T 274 = some ⟨1, 8, false, .other, [.top], false⟩ := rfl
@[go_sem ↓] theorem T278 : T 278 = some ⟨1, 8, false, .other, [.top], false⟩ := rfl
@[go_sem ↓] theorem T279 : T 279 = some ⟨1, 8, false, .other, [.top], false⟩ := rfl
@[go_sem ↓] theorem T280 : T 280 = some ⟨1, 8, false, .other, [.top], false⟩ := rfl
@[go_sem ↓] theorem T281 : T 281 = some ⟨1, 8, false, .other, [.top], false⟩ := rfl
@[go_sem ↓] theorem T282 : T 282 = some ⟨1, 8, false, .other, [.top], false⟩ := rfl
@[go_sem ↓] theorem T283 : T 283 = some ⟨1, 8, false, .other, [.top], false⟩ := rfl
@[go_sem ↓] theorem T284 : T 284 = some ⟨1, 8, false, .other, [.top], false⟩ := rfl
@[go_sem ↓] theorem T285 : T 285 = some ⟨1, 8, false, .other, [.top], false⟩ := rfl
@[go_sem ↓] theorem T287 : T 287 = some ⟨1, 8, false, .other, [.top], false⟩ := rfl
@[go_sem ↓] theorem T288 : T 288 = some ⟨1, 8, false, .other, [.top], false⟩ := rfl
@[go_sem ↓] theorem T289 : T 289 = some ⟨1, 8, false, .other, [.top], false⟩ := rfl
@[go_sem ↓] theorem T291 : T 291 = some ⟨1, 8, false, .other, [.top], false⟩ := rfl
@[go_sem ↓] theorem T292 : T 292 = some ⟨1, 8, false, .other, [.top], false⟩ := rfl
@[go_sem ↓] theorem T293 : T 293 = some ⟨1, 8, false, .other, [.top], false⟩ := rfl
@[go_sem ↓] theorem T295 : T 295 = some ⟨2, 2, true, .strct [(0, 5), (1, 5)], [.d (.int .u8 0), .d (.int .u8 0)], false⟩ := rfl
@[go_sem ↓] theorem T296 : T 296 = some ⟨2, 2, true, .strct [(0, 5), (1, 5)], [.d (.int .u8 0), .d (.int .u8 0)], false⟩ := rfl
@[go_sem ↓] theorem T297 : T 297 = some ⟨32, 32, true, .array 16 296, [.d (.int .u8 0), .d (.int .u8 0), .d (.int .u8 0), .d (.int .u8 0), .d (.int .u8 0), .d (.int .u8 0), .d (.int .u8 0), .d (.int .u8 0), .d (.int .u8 0), .d (.int .u8 0), .d (.int .u8 0), .d (.int .u8 0), .d (.int .u8 0), .d (.int .u8 0), .d (.int .u8 0), .d (.int .u8 0), .d (.int .u8 0), .d (.int .u8 0), .d (.int .u8 0), .d (.int .u8 0), .d (.int .u8 0), .d (.int .u8 0), .d (.int .u8 0), .d (.int .u8 0), .d (.int .u8 0), .d (.int .u8 0), .d (.int .u8 0), .d (.int .u8 0), .d (.int .u8 0), .d (.int .u8 0), .d (.int .u8 0), .d (.int .u8 0)], false⟩ := rfl
@[go_sem ↓] theorem T298 : T 298 = some ⟨4, 40, true, .strct [(0, 17), (1, 17), (2, 17), (3, 9)], [.top, .top, .top, .d (.str ⟨#[]⟩)], false⟩ := rfl
@[go_sem ↓] theorem T299 : T 299 = some ⟨4, 40, true, .strct [(0, 17), (1, 17), (2, 17), (3, 9)], [.top, .top, .top, .d (.str ⟨#[]⟩)], false⟩ := rfl
@[go_sem ↓] theorem T300 : T 300 = some ⟨0, 0, true, .array 0 16, [], false⟩ := rfl
@[go_sem ↓] theorem T303 : T 303 = some ⟨1, 1, false, .int .u8, [.d (.int .u8 0)], false⟩ := rfl
@[go_sem ↓] theorem T304 : T 304 = some ⟨1, 1, false, .int .u8, [.d (.int .u8 0)], false⟩ := rfl
@[go_sem ↓] theorem T305 : T 305 = some ⟨1, 8, false, .other, [.top], false⟩ := rfl
@[go_sem ↓] theorem T306 : T 306 = some ⟨1, 4, false, .int .i32, [.d (.int .i32 0)], false⟩ := rfl
@[go_sem ↓] theorem T307 : T 307 = some ⟨1, 4, false, .int .i32, [.d (.int .i32 0)], false⟩ := rfl
@[go_sem ↓] theorem T308 : T 308 = some ⟨11, 48, true, .strct [(0, 12), (1, 12), (2, 262), (3, 303), (4, 5), (5, 5), (6, 304), (7, 305), (8, 268), (9, 306), (10, 307)], [.d (.int .u64 0), .d (.int .u64 0), .d (.int .u32 0), .d (.int .u8 0), .d (.int .u8 0), .d (.int .u8 0), .d (.int .u8 0), .top, .top, .d (.int .i32 0), .d (.int .i32 0)], false⟩ := rfl
@[go_sem ↓] theorem T309 : T 309 = some ⟨11, 48, true, .strct [(0, 12), (1, 12), (2, 262), (3, 303), (4, 5), (5, 5), (6, 304), (7, 305), (8, 268), (9, 306), (10, 307)], [.d (.int .u64 0), .d (.int .u64 0), .d (.int .u32 0), .d (.int .u8 0), .d (.int .u8 0), .d (.int .u8 0), .d (.int .u8 0), .top, .top, .d (.int .i32 0), .d (.int .i32 0)], false⟩ := rfl
def tabB (P : Program) : List (Option TI) → Nat → Bool
  | [], _ => true
  | none :: r, t => tabB P r (t + 1)
  | some i :: r, t => tiB P t i && tabB P r (t + 1)
theorem tabB_ok {P : Program} : ∀ (l : List (Option TI)) (t0 : Nat), tabB P l t0 = true → ∀ k i, l[k]? = some (some i) → tiB P (t0 + k) i = true
  | [], _, _, k, i, h => by simp at h
  | x :: r, t0, hb, 0, i, h => by
    simp only [List.getElem?_cons_zero, Option.some.injEq] at h
    subst h
    simp only [tabB, Bool.and_eq_true] at hb
    exact hb.1
  | x :: r, t0, hb, k + 1, i, h => by
    have hr : tabB P r (t0 + 1) = true := by
      cases x with
      | none => exact hb
      | some j => simp only [tabB, Bool.and_eq_true] at hb; exact hb.2
    have := tabB_ok r (t0 + 1) hr k i (by simpa using h)
    rwa [show t0 + 1 + k = t0 + (k + 1) by omega] at this
theorem tabOk : tabB Tryz.prog tab.toList 0 = true := by kernel_rfl
theorem tok : TOK Tryz.prog T := fun t i h => by
  have h' : tab.toList[t]? = some (some i) := by
    unfold T at h
    rw [Array.getD_eq_getD_getElem?] at h
    cases e : tab[t]? with
    | none => rw [e] at h; simp at h
    | some x =>
      rw [e] at h
      simp only [Option.getD_some] at h
      rw [Array.getElem?_toList, e, h]
  have := tabB_ok tab.toList 0 tabOk t i h'
  rwa [Nat.zero_add] at this
theorem mixed : Tryz.prog.follows .mixedOrders = true := by kernel_rfl
end Go.Proofs.YtgnnakibcjonbaaGreatDoor.VE
