/- Texts put together (merge.py). -/
import Derived.Test.YtgnnakibcjonbaaGreatDoorM10
/- Chapter 16: Check of the reference. -/
namespace Go.Proofs.YtgnnakibcjonbaaGreatDoor.VE
open Go Go.RowKit
set_option maxRecDepth 100000
set_option linter.unusedSimpArgs false
set_option linter.unusedVariables false

theorem t12 (l : List Ly) : PureOk Tryz.prog 12 [.d (.sl 3 (l.map encLy))] (Small l) (.agg [.d (.int .i64 (checkT l).1), .d (.int .i64 (checkT l).2.1), .d (.int .i64 (checkT l).2.2)]) := by
  refine pure_fn (C := fun gm => ⟨T, gam [E45, E46], dam [], plT [], ⟨gm, fun _ _ => none⟩⟩) (fun _ => tok) (fun gm => cok T _ _ _ gm) mixed Tryz.func12 rfl (Nat.le_of_ble_eq_true rfl) rfl (fun _ => rfl) (fun _ => by kernel_rfl) fun gm hp => ?_
  unfold Tryz.f12
  simp only [go_sem, ↓reduceIte, Nat.reduceEqDiff, reduceCtorEq, Nat.reduceAdd, Nat.reduceLeDiff, Nat.reduceSub, Nat.reduceMul, Nat.reduceMod, Nat.reduceLT, asD, asD1, cellDs, cellD, V.scal, D.scal, ← List.map_take, ← List.map_drop, List.drop_zero, List.map_cons, List.map_nil]
  refine ⟨fun h => ?_, fun h => ?_⟩
  · have h := of_decide_eq_true h
    have e : checkT l = (0, 0, 2) := by unfold checkT; rw [if_pos (by omega)]
    rw [e]
    exact ⟨rfl, rfl, rfl⟩
  have h := of_decide_eq_false h
  have e : checkT l = tabErr l l.length 0 := by unfold checkT; rw [if_neg (by omega)]
  refine loop_objs [] (by simp) (fun _ : Nat => osL [(2, .box [.d (.int .i64 0), .d (.int .i64 0), .d (.int .i64 0)] 32)]) (fun i => [(0, .d (.sl 3 (l.map encLy))), (2, .ptr 2 0), (3, .d (.int .i64 (i : Int)))]) (fun i => i ≤ l.length ∧ checkT l = tabErr l (l.length - i) i) (fun i => l.length - i) 0 ⟨Nat.zero_le _, e⟩ ?_ fun i hi => ?_
  · simp only [go_sem, ↓reduceIte, Nat.reduceEqDiff, reduceCtorEq, Nat.reduceAdd, Nat.reduceLeDiff, Nat.reduceSub, Nat.reduceMul, Nat.reduceMod, Nat.reduceLT, asD, asD1, cellDs, cellD, V.scal, D.scal, ← List.map_take, ← List.map_drop, List.drop_zero, List.map_cons, List.map_nil, idxV, encLy, List.length_map, List.drop, Int.toNat_natCast]
    exact ⟨rfl, by funext o; by_cases h2 : o = 2 <;> simp [osL, upd, h2]⟩
  · obtain ⟨hi1, hi2⟩ := hi
    by_cases hlt : i < l.length
    · obtain ⟨x, hx⟩ : ∃ x, l[i]? = some x := ⟨_, List.getElem?_eq_getElem hlt⟩
      have hgx : (l.map encLy).getD i [] = encLy x := by rw [List.getD_eq_getElem?_getD, List.getElem?_map, hx]; rfl
      simp only [go_sem, ↓reduceIte, Nat.reduceEqDiff, reduceCtorEq, Nat.reduceAdd, Nat.reduceLeDiff, Nat.reduceSub, Nat.reduceMul, Nat.reduceMod, Nat.reduceLT, asD, asD1, cellDs, cellD, V.scal, D.scal, ← List.map_take, ← List.map_drop, List.drop_zero, List.map_cons, List.map_nil, idxV, encLy, List.length_map, List.drop, Int.toNat_natCast]
      refine ⟨fun _ => ⟨⟨by omega, by omega, by omega⟩, fun h1 => ?_, fun h1 => ?_⟩, fun hge => absurd (of_decide_eq_false hge) (by omega)⟩
      · have h1 : headErr l i ≠ 0 := by simpa using h1
        rw [hi2, tab_head hlt h1]
        exact ⟨rfl, rfl, rfl⟩
      · have h1 : headErr l i = 0 := by simpa using h1
        rw [tab_lay hx h1] at hi2
        obtain ⟨s1, s2⟩ := hp x (List.mem_of_getElem? hx)
        refine loop_objs [] (by simp) (fun _ : Nat => osL [(2, .box [.d (.int .i64 0), .d (.int .i64 0), .d (.int .i64 0)] 32)]) (fun k => [(0, .d (.sl 3 (l.map encLy))), (2, .ptr 2 0), (3, .d (.int .i64 (i : Int))), (5, .d (.int .i64 (k : Int)))]) (fun k => k ≤ x.fields.length ∧ firstErr (fun k => fieldErr l i k) x.fields.length 0 = firstErr (fun k => fieldErr l i k) (x.fields.length - k) k) (fun k => x.fields.length - k) 0 ⟨Nat.zero_le _, rfl⟩ ?_ fun k hk => ?_
        · simp only [go_sem, ↓reduceIte, Nat.reduceEqDiff, reduceCtorEq, Nat.reduceAdd, Nat.reduceLeDiff, Nat.reduceSub, Nat.reduceMul, Nat.reduceMod, Nat.reduceLT, asD, asD1, cellDs, cellD, V.scal, D.scal, ← List.map_take, ← List.map_drop, List.drop_zero, List.map_cons, List.map_nil, idxV, encLy, List.length_map, List.drop, Int.toNat_natCast]
          rfl
        · obtain ⟨hk1, hk2⟩ := hk
          simp only [go_sem, ↓reduceIte, Nat.reduceEqDiff, reduceCtorEq, Nat.reduceAdd, Nat.reduceLeDiff, Nat.reduceSub, Nat.reduceMul, Nat.reduceMod, Nat.reduceLT, asD, asD1, cellDs, cellD, V.scal, D.scal, ← List.map_take, ← List.map_drop, List.drop_zero, List.map_cons, List.map_nil, idxV, hgx,  encLy, List.length_map, List.drop, Int.toNat_natCast]
          refine ⟨⟨by omega, by omega⟩, fun a ha => ?_⟩
          obtain rfl := Option.some.inj (hx.symm.trans ha)
          refine ⟨fun hkl => ?_, fun hkg => ?_⟩
          · have hkl := of_decide_eq_true hkl
            have hkl : k < x.fields.length := by omega
            rw [firstErr_step hkl] at hk2
            refine ⟨⟨by omega, by omega, by omega, fun x' hx' => ?_⟩, fun h4 => ?_, fun h4 => ?_⟩
            · obtain rfl := Option.some.inj (hx.symm.trans hx')
              exact ⟨by omega, by omega, s1, fun f hf => s2 f (List.mem_of_getElem? hf)⟩
            · have h4 : fieldErr l i k ≠ 0 := by simpa using h4
              rw [if_neg h4] at hk2
              rw [hk2] at hi2
              rw [hi2]
              exact ⟨rfl, rfl, rfl⟩
            · have h4 : fieldErr l i k = 0 := by simpa using h4
              rw [if_pos h4] at hk2
              exact ⟨k + 1, ⟨hkl, hk2⟩, by omega, by rw [wrap_small _ (by omega) (by omega)]; rfl⟩
          · have hkg := of_decide_eq_false hkg
            obtain rfl : k = x.fields.length := by omega
            rw [Nat.sub_self] at hk2
            rw [hk2] at hi2
            exact ⟨i + 1, ⟨hlt, hi2⟩, by omega, by rw [wrap_small _ (by omega) (by omega)]; rfl⟩
    · obtain rfl : i = l.length := by omega
      have hd : decide ((l.length : Int) < (l.length : Int)) = false := decide_eq_false (by omega)
      simp only [go_sem, ↓reduceIte, Nat.reduceEqDiff, reduceCtorEq, Nat.reduceAdd, Nat.reduceLeDiff, Nat.reduceSub, Nat.reduceMul, Nat.reduceMod, Nat.reduceLT, asD, asD1, cellDs, cellD, V.scal, D.scal, ← List.map_take, ← List.map_drop, List.drop_zero, List.map_cons, List.map_nil, idxV, hd, encLy, List.length_map, List.drop, Int.toNat_natCast]
      rw [hi2, Nat.sub_self]
      exact ⟨fun h => h.elim, rfl, rfl, rfl⟩
noncomputable def E12 : Ent Tryz.prog := Ent.of 12 (fnOk Tryz.func12 rfl (by kernel_rfl)) (fun
    | [.d (.sl 3 l)] => (dec encLy l).bind fun l => some (Small l, .agg [.d (.int .i64 (checkT l).1), .d (.int .i64 (checkT l).2.1), .d (.int .i64 (checkT l).2.2)])
    | _ => none) fun args p r h => by
    split at h
    · obtain ⟨_, hd0, h0⟩ := Option.bind_eq_some_iff.1 h; clear h; have hd0 := dec_some hd0; subst hd0
      cases h0; exact t12 _
    · cases h
@[go_sem] theorem E12_f : E12.f = 12 := rfl
@[go_sem] theorem E12_c (l : List (List D)) : E12.c [.d (.sl 3 l)] = (dec encLy l).bind fun l => some (Small l, .agg [.d (.int .i64 (checkT l).1), .d (.int .i64 (checkT l).2.1), .d (.int .i64 (checkT l).2.2)]) := rfl
end Go.Proofs.YtgnnakibcjonbaaGreatDoor.VE

/- Chapter 16: fieldWidth of the reference. -/
namespace Go.Proofs.YtgnnakibcjonbaaGreatDoor.VE
open Go Go.RowKit
set_option maxRecDepth 100000
set_option linter.unusedSimpArgs false
set_option linter.unusedVariables false

theorem t68 (x : Ly) (f : Fd) (ws : List Int) : PureOk Tryz.prog 68 [.agg [.d (.str x.name), .d (.sl 9 (x.fields.map encFd)), .d (.bool x.lowBits)], .agg [.d (.str f.name), .d (.int .i64 f.kind), .d (.int .i64 f.width), .d (.bool f.signed), .d (.bool f.lowFirst), .d (.int .i64 f.purpose), .d (.str f.for_), .d (.int .i64 f.of), .d (.sl 3 (f.choices.map encCh))], .d (.sl 1 (ws.map encI))] (WOk ws ∧ (0 ≤ f.width ∧ f.width ≤ 200) ∧ (0 ≤ f.kind ∧ f.kind ≤ 7) ∧ (∀ n ∈ usedOf f, 0 ≤ n ∧ n < (ws.length : Int)) ∧ (f.kind = 7 → f.choices ≠ []) ∧ f.choices.length ≤ 1000) (.d (.int .i64 (fieldW f ws))) := by
  refine pure_fnW (C := fun gm => ⟨T, gam (P := Tryz.prog) [], dam (P := Tryz.prog) [], plT pl68, ⟨gm, fun _ _ => none⟩⟩) (fun _ => tok) Tryz.func68 rfl (Nat.le_of_ble_eq_true rfl) rfl (fun m => rfl) fun gm hp => ?_
  obtain ⟨hw, ⟨w0, w1⟩, ⟨q0, q1⟩, hu, hc, c1⟩ := hp
  have h56 : f.kind = 5 ∨ f.kind = 6 → 0 ≤ f.of ∧ f.of < (ws.length : Int) := fun h => hu f.of (by unfold usedOf; rw [if_pos h]; simp)
  have h7 : f.kind = 7 → ∀ c ∈ f.choices, 0 ≤ c.of ∧ c.of < (ws.length : Int) := fun h c hc => hu c.of (by unfold usedOf; rw [if_neg (by omega), if_pos h]; exact List.mem_map_of_mem hc)
  unfold Tryz.f68
  refine W_pre tok (cok T _ _ _ gm) mixed (by kernel_rfl) ?_
  simp only [go_sem, ↓reduceIte, Nat.reduceEqDiff, reduceCtorEq, Nat.reduceAdd, Nat.reduceLeDiff, Nat.reduceSub, Nat.reduceMul, Nat.reduceMod, Nat.reduceLT, asD, asD1, cellDs, cellD, V.scal, D.scal, ← List.map_take, ← List.map_drop, List.drop_zero, List.map_cons, List.map_nil, pl68, idxV, encLy, encFd, encCh, List.length_map, List.drop, Int.toNat_natCast, thenQ]
  refine W_st (l := [(2, .d (.sl 1 (ws.map encI))), (4, .ptr 4 0)]) (os' := osL [(3, .box [.d (.str x.name), .d (.sl 9 (x.fields.map encFd)), .d (.bool x.lowBits)] 37), (4, .box ((encFd f).map .d) 49)]) ⟨rfl, rfl, trivial⟩ (by funext o; by_cases h3 : o = 3 <;> by_cases h4 : o = 4 <;> simp [osL, upd, encFd, encCh, encLy, h3, h4]) ?_
  refine W_seq (K := fun s => f.kind ≠ 0 ∧ f.kind ≠ 4 ∧ f.kind ≠ 5 ∧ f.kind ≠ 7 ∧ AtL s.env [(2, .d (.sl 1 (ws.map encI))), (4, .ptr 4 0)] ∧ s.os = osL [(3, .box [.d (.str x.name), .d (.sl 9 (x.fields.map encFd)), .d (.bool x.lowBits)] 37), (4, .box ((encFd f).map .d) 49)]) ?_ fun s hs => ?_
  · by_cases hk7 : f.kind = 7
    · obtain ⟨c0, r, hch⟩ : ∃ c0 r, f.choices = c0 :: r := by
        cases e : f.choices with
        | nil => exact absurd e (hc hk7)
        | cons c0 r => exact ⟨c0, r, rfl⟩
      obtain ⟨z0, z1⟩ := h7 hk7 c0 (by rw [hch]; simp)
      obtain ⟨v, hv⟩ : ∃ v, ws[c0.of.toNat]? = some v := ⟨_, List.getElem?_eq_getElem (by omega)⟩
      have hv' : intAt ws c0.of = v := by unfold intAt; rw [hv]
      have hr : fieldW f ws = if (f.choices.any fun d => intAt ws d.of != v) = true then -1 else v := by
        unfold fieldW
        rw [hch, if_neg (by omega), if_neg (by omega), if_pos hk7]
        dsimp only
        rw [hv', List.any_cons, hv']
        simp
      have hcl : 0 < f.choices.length := by rw [hch]; simp
      have hg0 : f.choices[0]? = some c0 := by rw [hch]; rfl
      have hk0b : (f.kind == 0) = false := by rw [hk7]; rfl
      have hk4b : (f.kind == 4) = false := by rw [hk7]; rfl
      have hk5b : (f.kind == 5) = false := by rw [hk7]; rfl
      have hk7t : (f.kind == 7) = true := by rw [hk7]; rfl
      refine W_run tok (cok T _ _ _ gm) mixed (by kernel_rfl) ?_
      simp only [go_sem, ↓reduceIte, Nat.reduceEqDiff, reduceCtorEq, Nat.reduceAdd, Nat.reduceLeDiff, Nat.reduceSub, Nat.reduceMul, Nat.reduceMod, Nat.reduceLT, asD, asD1, cellDs, cellD, V.scal, D.scal, ← List.map_take, ← List.map_drop, List.drop_zero, List.map_cons, List.map_nil, pl68, idxV, hk0b, hk4b, hk5b, hk7t, false_implies, encLy, encFd, encCh, List.length_map, List.drop, Int.toNat_natCast, thenQ]
      refine ⟨⟨by omega, by omega⟩, fun a ha => ?_⟩
      obtain rfl := Option.some.inj (hg0.symm.trans ha)
      refine ⟨⟨z0, z1⟩, fun a hb => ?_⟩
      obtain rfl := Option.some.inj (hv.symm.trans hb)
      refine loop_objs [] (by simp) (fun _ : Nat => osL [(3, .box [.d (.str x.name), .d (.sl 9 (x.fields.map encFd)), .d (.bool x.lowBits)] 37), (4, .box ((encFd f).map .d) 49)]) (fun j => [(2, .d (.sl 1 (ws.map encI))), (4, .ptr 4 0), (7, .d (.int .i64 v)), (8, .d (.int .i64 (j : Int)))]) (fun j => 1 ≤ j ∧ j ≤ f.choices.length ∧ (f.choices.take j).any (fun d => intAt ws d.of != v) = false) (fun j => f.choices.length - j) 1 ⟨by omega, by omega, by rw [hch]; simp [hv']⟩ ?_ fun j hj => ?_
      · simp only [go_sem, ↓reduceIte, Nat.reduceEqDiff, reduceCtorEq, Nat.reduceAdd, Nat.reduceLeDiff, Nat.reduceSub, Nat.reduceMul, Nat.reduceMod, Nat.reduceLT, asD, asD1, cellDs, cellD, V.scal, D.scal, ← List.map_take, ← List.map_drop, List.drop_zero, List.map_cons, List.map_nil, pl68, idxV, encLy, encFd, encCh, List.length_map, List.drop, Int.toNat_natCast, thenQ]
        rfl
      · obtain ⟨j0, j1, j2⟩ := hj
        by_cases hlt : j < f.choices.length
        · obtain ⟨d, hd⟩ : ∃ d, f.choices[j]? = some d := ⟨_, List.getElem?_eq_getElem hlt⟩
          obtain ⟨d0, d1⟩ := h7 hk7 d (List.mem_of_getElem? hd)
          obtain ⟨u, hu2⟩ : ∃ u, ws[d.of.toNat]? = some u := ⟨_, List.getElem?_eq_getElem (by omega)⟩
          have hud : intAt ws d.of = u := by unfold intAt; rw [hu2]
          simp only [go_sem, ↓reduceIte, Nat.reduceEqDiff, reduceCtorEq, Nat.reduceAdd, Nat.reduceLeDiff, Nat.reduceSub, Nat.reduceMul, Nat.reduceMod, Nat.reduceLT, asD, asD1, cellDs, cellD, V.scal, D.scal, ← List.map_take, ← List.map_drop, List.drop_zero, List.map_cons, List.map_nil, pl68, idxV, encLy, encFd, encCh, List.length_map, List.drop, Int.toNat_natCast, thenQ]
          refine ⟨fun _ => ⟨⟨by omega, by omega⟩, fun a ha => ?_⟩, fun h => absurd (of_decide_eq_false h) (by omega)⟩
          obtain rfl := Option.some.inj (hd.symm.trans ha)
          refine ⟨⟨d0, d1⟩, fun a hb => ?_⟩
          obtain rfl := Option.some.inj (hu2.symm.trans hb)
          refine ⟨fun h => ?_, fun h => ⟨j + 1, ⟨by omega, hlt, any_step j2 hd (by rw [hud]; exact h)⟩, by omega, by rw [wrap_small _ (by omega) (by omega)]; rfl⟩⟩
          rw [hr, if_pos (any_hit (p := fun d : Ch => intAt ws d.of != v) hd (by rw [hud]; exact h))]
        · obtain rfl : j = f.choices.length := by omega
          have hd : decide ((f.choices.length : Int) < (f.choices.length : Int)) = false := decide_eq_false (by omega)
          rw [List.take_length] at j2
          simp only [go_sem, ↓reduceIte, Nat.reduceEqDiff, reduceCtorEq, Nat.reduceAdd, Nat.reduceLeDiff, Nat.reduceSub, Nat.reduceMul, Nat.reduceMod, Nat.reduceLT, asD, asD1, cellDs, cellD, V.scal, D.scal, ← List.map_take, ← List.map_drop, List.drop_zero, List.map_cons, List.map_nil, pl68, idxV, hd, encLy, encFd, encCh, List.length_map, List.drop, Int.toNat_natCast, thenQ]
          exact ⟨fun h => h.elim, by rw [hr, if_neg (by rw [j2]; simp)]⟩
    · have hk7b : (f.kind == 7) = false := by simpa using hk7
      refine W_run tok (cok T _ _ _ gm) mixed (by kernel_rfl) ?_
      simp only [go_sem, ↓reduceIte, Nat.reduceEqDiff, reduceCtorEq, Nat.reduceAdd, Nat.reduceLeDiff, Nat.reduceSub, Nat.reduceMul, Nat.reduceMod, Nat.reduceLT, asD, asD1, cellDs, cellD, V.scal, D.scal, ← List.map_take, ← List.map_drop, List.drop_zero, List.map_cons, List.map_nil, pl68, idxV, hk7b, encLy, encFd, encCh, List.length_map, List.drop, Int.toNat_natCast, thenQ]
      generalize osL _ = OSb
      repeat' (first | intro _ | apply And.intro)
      all_goals simp only [beq_iff_eq, beq_eq_false_iff_ne, ne_eq] at *
      all_goals first
        | assumption
        | omega
        | (unfold fieldW; rw [if_pos (by omega)])
        | (rename ws[f.of.toNat]? = some _ => e; unfold fieldW intAt; rw [if_neg (by omega), if_pos (by omega), e])
  · obtain ⟨g0, g4, g5, g7, he, ho⟩ := hs
    refine W_st he ho ?_
    refine W_run tok (cok T _ _ _ gm) mixed (by kernel_rfl) ?_
    have hm : mostW = 1099511627776 := rfl
    by_cases hk6 : f.kind = 6
    · obtain ⟨o0, o1⟩ := h56 (.inr hk6)
      obtain ⟨v, hv⟩ : ∃ v, ws[f.of.toNat]? = some v := ⟨_, List.getElem?_eq_getElem (by omega)⟩
      have hgw : (ws.map encI).getD f.of.toNat [] = encI v := by rw [List.getD_eq_getElem?_getD, List.getElem?_map, hv]; rfl
      have hiv : intAt ws f.of = v := by unfold intAt; rw [hv]
      have hk1b : (f.kind == 1) = false := by rw [hk6]; rfl
      have hk6b : (f.kind != 6) = false := by rw [hk6]; rfl
      have hF : fieldW f ws = if f.width = 0 then -1 else if v = -1 then -1 else min (v * f.width) mostW := by
        unfold fieldW
        rw [if_neg (by omega), if_neg (by omega), if_neg (by omega), hiv]
        split
        · rfl
        · rw [if_neg (by omega), if_neg (by omega)]
      simp only [go_sem, ↓reduceIte, Nat.reduceEqDiff, reduceCtorEq, Nat.reduceAdd, Nat.reduceLeDiff, Nat.reduceSub, Nat.reduceMul, Nat.reduceMod, Nat.reduceLT, asD, asD1, cellDs, cellD, V.scal, D.scal, ← List.map_take, ← List.map_drop, List.drop_zero, List.map_cons, List.map_nil, pl68, idxV, hgw, encI, hk1b, hk6b, false_implies, encLy, encFd, encCh, List.length_map, List.drop, Int.toNat_natCast, thenQ]
      refine ⟨fun h => by rw [hF, if_pos (by simpa using h)], fun h => ⟨⟨o0, o1⟩, fun a ha => ?_⟩⟩
      obtain rfl := Option.some.inj (hv.symm.trans ha)
      refine ⟨fun h2 => by rw [hF, if_neg (by simpa using h), if_pos (eq_of_beq h2)], fun h2 => ⟨⟨o0, o1⟩, ?_⟩⟩
      have hv1 : v ≠ -1 := by simpa using h2
      have hb := hw v (List.mem_of_getElem? hv)
      have hb1 := Int.mul_le_mul hb.2 w1 w0 (by decide)
      have hb0 := Int.mul_nonneg (show 0 ≤ v by omega) w0
      have hF2 : fieldW f ws = min (v * f.width) mostW := by rw [hF, if_neg (by simpa using h), if_neg hv1]
      rw [hF2]
      clear hF hF2 hiv hgw
      generalize v * f.width = q at *
      rw [wrap_small q (by omega) (by omega), hm]
      congr 1
      split <;> omega
    · have hk6b : (f.kind != 6) = true := by simpa using hk6
      simp only [go_sem, ↓reduceIte, Nat.reduceEqDiff, reduceCtorEq, Nat.reduceAdd, Nat.reduceLeDiff, Nat.reduceSub, Nat.reduceMul, Nat.reduceMod, Nat.reduceLT, asD, asD1, cellDs, cellD, V.scal, D.scal, ← List.map_take, ← List.map_drop, List.drop_zero, List.map_cons, List.map_nil, pl68, idxV, hk6b, false_implies, encLy, encFd, encCh, List.length_map, List.drop, Int.toNat_natCast, thenQ]
      have hF : fieldW f ws = if f.width = 0 then -1 else if f.kind = 1 then f.width else 8 * f.width := by
        unfold fieldW
        rw [if_neg (by omega), if_neg (by omega), if_neg (by omega)]
        split
        · rfl
        · split
          · rfl
          · first | rfl | rw [if_pos hk6]
      refine ⟨fun h => by rw [hF, if_pos (by simpa using h)], fun h => ⟨fun h2 => by rw [hF, if_neg (by simpa using h), if_pos (by simpa using h2)], fun h2 => by rw [hF, if_neg (by simpa using h), if_neg (by simpa using h2), wrap_small _ (by omega) (by omega)]⟩⟩
noncomputable def E68 : Ent Tryz.prog := Ent.of 68 (fnOk Tryz.func68 rfl (by kernel_rfl)) (fun
    | [.agg [.d (.str x_name), .d (.sl 9 x_fields), .d (.bool x_lowBits)], .agg [.d (.str f_name), .d (.int .i64 f_kind), .d (.int .i64 f_width), .d (.bool f_signed), .d (.bool f_lowFirst), .d (.int .i64 f_purpose), .d (.str f_for_), .d (.int .i64 f_of), .d (.sl 3 f_choices)], .d (.sl 1 ws)] => (dec encFd x_fields).bind fun x_fields => (dec encCh f_choices).bind fun f_choices => (dec encI ws).bind fun ws => some (WOk ws ∧ (0 ≤ (Fd.mk f_name f_kind f_width f_signed f_lowFirst f_purpose f_for_ f_of f_choices).width ∧ (Fd.mk f_name f_kind f_width f_signed f_lowFirst f_purpose f_for_ f_of f_choices).width ≤ 200) ∧ (0 ≤ (Fd.mk f_name f_kind f_width f_signed f_lowFirst f_purpose f_for_ f_of f_choices).kind ∧ (Fd.mk f_name f_kind f_width f_signed f_lowFirst f_purpose f_for_ f_of f_choices).kind ≤ 7) ∧ (∀ n ∈ usedOf (Fd.mk f_name f_kind f_width f_signed f_lowFirst f_purpose f_for_ f_of f_choices), 0 ≤ n ∧ n < (ws.length : Int)) ∧ ((Fd.mk f_name f_kind f_width f_signed f_lowFirst f_purpose f_for_ f_of f_choices).kind = 7 → (Fd.mk f_name f_kind f_width f_signed f_lowFirst f_purpose f_for_ f_of f_choices).choices ≠ []) ∧ (Fd.mk f_name f_kind f_width f_signed f_lowFirst f_purpose f_for_ f_of f_choices).choices.length ≤ 1000, .d (.int .i64 (fieldW (Fd.mk f_name f_kind f_width f_signed f_lowFirst f_purpose f_for_ f_of f_choices) ws)))
    | _ => none) fun args p r h => by
    split at h
    · obtain ⟨_, hd0, h0⟩ := Option.bind_eq_some_iff.1 h; clear h; have hd0 := dec_some hd0; subst hd0
      obtain ⟨_, hd1, h1⟩ := Option.bind_eq_some_iff.1 h0; clear h0; have hd1 := dec_some hd1; subst hd1
      obtain ⟨_, hd2, h2⟩ := Option.bind_eq_some_iff.1 h1; clear h1; have hd2 := dec_some hd2; subst hd2
      cases h2; exact t68 (Ly.mk _ _ _) (Fd.mk _ _ _ _ _ _ _ _ _) _
    · cases h
@[go_sem] theorem E68_f : E68.f = 68 := rfl
@[go_sem] theorem E68_c (x_name : ByteArray) (x_fields : List (List D)) (x_lowBits : Bool) (f_name : ByteArray) (f_kind : Int) (f_width : Int) (f_signed : Bool) (f_lowFirst : Bool) (f_purpose : Int) (f_for_ : ByteArray) (f_of : Int) (f_choices : List (List D)) (ws : List (List D)) : E68.c [.agg [.d (.str x_name), .d (.sl 9 x_fields), .d (.bool x_lowBits)], .agg [.d (.str f_name), .d (.int .i64 f_kind), .d (.int .i64 f_width), .d (.bool f_signed), .d (.bool f_lowFirst), .d (.int .i64 f_purpose), .d (.str f_for_), .d (.int .i64 f_of), .d (.sl 3 f_choices)], .d (.sl 1 ws)] = (dec encFd x_fields).bind fun x_fields => (dec encCh f_choices).bind fun f_choices => (dec encI ws).bind fun ws => some (WOk ws ∧ (0 ≤ (Fd.mk f_name f_kind f_width f_signed f_lowFirst f_purpose f_for_ f_of f_choices).width ∧ (Fd.mk f_name f_kind f_width f_signed f_lowFirst f_purpose f_for_ f_of f_choices).width ≤ 200) ∧ (0 ≤ (Fd.mk f_name f_kind f_width f_signed f_lowFirst f_purpose f_for_ f_of f_choices).kind ∧ (Fd.mk f_name f_kind f_width f_signed f_lowFirst f_purpose f_for_ f_of f_choices).kind ≤ 7) ∧ (∀ n ∈ usedOf (Fd.mk f_name f_kind f_width f_signed f_lowFirst f_purpose f_for_ f_of f_choices), 0 ≤ n ∧ n < (ws.length : Int)) ∧ ((Fd.mk f_name f_kind f_width f_signed f_lowFirst f_purpose f_for_ f_of f_choices).kind = 7 → (Fd.mk f_name f_kind f_width f_signed f_lowFirst f_purpose f_for_ f_of f_choices).choices ≠ []) ∧ (Fd.mk f_name f_kind f_width f_signed f_lowFirst f_purpose f_for_ f_of f_choices).choices.length ≤ 1000, .d (.int .i64 (fieldW (Fd.mk f_name f_kind f_width f_signed f_lowFirst f_purpose f_for_ f_of f_choices) ws))) := rfl
end Go.Proofs.YtgnnakibcjonbaaGreatDoor.VE

/- Chapter 16: Widths of the reference. -/
namespace Go.Proofs.YtgnnakibcjonbaaGreatDoor.VE
open Go Go.RowKit
set_option maxRecDepth 100000
set_option linter.unusedSimpArgs false
set_option linter.unusedVariables false
theorem PureOk.arg {P : Program} {f : FuncId} {xs ys : List V} {p : Prop} {r : V} (h : ∀ B w ρ L vs, Gs B w ρ L ys vs → Gs B w ρ L xs vs) (hx : PureOk P f xs p r) : PureOk P f ys p r :=
  fun w B ρ L vs hB hgw ho ha hp => hx w B ρ L vs hB hgw ho (h _ _ _ _ _ ha) hp
/-- A nil slice is a slice of no elements. -/
theorem Gs_nil {B : Nat → Prop} {w : World} {ρ : Nat → Value} {L : Nat → Prop} {m : Nat} {a b : V} {vs : List Value} (h : Gs B w ρ L [a, b, .nil] vs) : Gs B w ρ L [a, b, .d (.sl m [])] vs := by
  refine ⟨h.1, fun i h1 h2 => ?_⟩
  have := h.2 i h1 h2
  match i, h1 with
  | 0, _ => exact this
  | 1, _ => exact this
  | 2, _ =>
    show G B w ρ L (.d (.sl m [])) _
    have h3 : G B w ρ L .nil vs[2] := this
    rw [G] at h3
    rw [G, Rd, h3]
    exact ⟨none, 0, rfl, Nat.le_refl _, Nat.zero_le _, fun _ => rfl, fun i h => by simp at h, fun h => absurd rfl h⟩
theorem AnyOk.nil3 {P : Program} {f : FuncId} {m : Nat} {a b : V} {p : Prop} {r : V} (h : AnyOk P f [a, b, .d (.sl m [])] p r) : AnyOk P f [a, b, .nil] p r := by
  rcases h with ⟨h1, h2⟩ | h
  · exact .inl ⟨h1, h2.arg fun B w ρ L vs hg => Gs_nil hg⟩
  · exact .inr fun w B ρ L vs hB hgw ho ha hp => h w B ρ L vs hB hgw ho (Gs_nil ha) hp
noncomputable def E68x : Ent Tryz.prog := ⟨68, fun
    | [a, b, .nil] => E68.c [a, b, .d (.sl 1 [])]
    | args => E68.c args, fun args p r h => by
  split at h
  · exact (E68.ok _ _ _ h).nil3
  · exact E68.ok _ _ _ h⟩
@[go_sem ↓] theorem E68x_f : E68x.f = 68 := rfl
@[go_sem ↓] theorem E68x_n (a b : V) : E68x.c [a, b, .nil] = E68.c [a, b, .d (.sl 1 [])] := rfl
@[go_sem ↓] theorem E68x_d (a b : V) (x : D) : E68x.c [a, b, .d x] = E68.c [a, b, .d x] := rfl
theorem fieldW_ok {f : Fd} {ws : List Int} (hw : WOk ws) (w0 : 0 ≤ f.width) (w1 : f.width ≤ 200) : -1 ≤ fieldW f ws ∧ fieldW f ws ≤ mostW := by
  have hm : mostW = 1099511627776 := rfl
  unfold fieldW
  split
  · omega
  split
  · exact intAt_ok hw f.of
  split
  · split
    · omega
    · rename_i c r e
      have := intAt_ok hw c.of
      split <;> omega
  split
  · omega
  split
  · omega
  split
  · omega
  have hb := intAt_ok hw f.of
  split
  · omega
  · rename_i d
    have hm0 := Int.mul_nonneg (show 0 ≤ intAt ws f.of by omega) w0
    omega
theorem sumW_ok {ws : List Int} (hw : WOk ws) : ∀ (fs : List Fd), (∀ f ∈ fs, 0 ≤ f.width ∧ f.width ≤ 200) → ∀ n, -1 ≤ n → n ≤ mostW → -1 ≤ sumW ws fs n ∧ sumW ws fs n ≤ mostW
  | [], _, n, h0, h1 => ⟨h0, h1⟩
  | f :: r, hf, n, h0, h1 => by
    have hb := fieldW_ok hw (hf f (by simp)).1 (hf f (by simp)).2
    have hm : mostW = 1099511627776 := rfl
    unfold sumW
    refine sumW_ok hw r (fun g hg => hf g (by simp [hg])) _ ?_ ?_ <;> split <;> omega
theorem widthsT_app : ∀ (a : List Ly) (x : Ly) (ws : List Int), widthsT (a ++ [x]) ws = widthsT a ws ++ [sumW (widthsT a ws) x.fields 0]
  | [], x, ws => rfl
  | y :: a, x, ws => widthsT_app a x _
theorem widthsT_len : ∀ (a : List Ly) (ws : List Int), (widthsT a ws).length = ws.length + a.length
  | [], ws => rfl
  | y :: a, ws => by rw [widthsT, widthsT_len a, List.length_append, List.length_cons, List.length_cons, List.length_nil]; omega
/-- The widths of the first layouts. -/
def wAt (l : List Ly) (i : Nat) : List Int := widthsT (l.take i) []
theorem wAt_len {l : List Ly} {i : Nat} (h : i ≤ l.length) : (wAt l i).length = i := by
  unfold wAt
  rw [widthsT_len, List.length_take, List.length_nil]
  omega
theorem wAt_step {l : List Ly} {i : Nat} {x : Ly} (hx : l[i]? = some x) : wAt l (i + 1) = wAt l i ++ [sumW (wAt l i) x.fields 0] := by
  unfold wAt
  rw [List.take_add_one, hx]
  exact widthsT_app _ _ _
theorem wAt_ok {l : List Ly} (h : Right l) : ∀ i, i ≤ l.length → WOk (wAt l i)
  | 0, _ => fun n hn => by simp [wAt, widthsT] at hn
  | i + 1, hi => by
    obtain ⟨x, hx⟩ : ∃ x, l[i]? = some x := ⟨_, List.getElem?_eq_getElem (by omega)⟩
    have ih := wAt_ok h i (by omega)
    have hs := sumW_ok ih x.fields (right_width h hx) 0 (by decide) (by decide)
    rw [wAt_step hx]
    intro n hn
    rcases List.mem_append.1 hn with hn | hn
    · exact ih n hn
    · rw [List.mem_singleton.1 hn]; exact hs

theorem t28 (l : List Ly) : PureOk Tryz.prog 28 [.d (.sl 3 (l.map encLy))] (Right l ∧ Small l) (.d (.sl 1 ((wAt l l.length).map encI))) := by
  refine pure_fnW (C := fun gm => ⟨T, gam [E68x], dam (P := Tryz.prog) [], plT pl28, ⟨gm, fun _ _ => none⟩⟩) (fun _ => tok) Tryz.func28 rfl (Nat.le_of_ble_eq_true rfl) rfl (fun m => rfl) fun gm hp => ?_
  obtain ⟨hr, hs⟩ := hp
  have hl := hr.len
  unfold Tryz.f28
  refine W_pre tok (cok T _ _ _ gm) mixed (by kernel_rfl) ?_
  simp only [go_sem, ↓reduceIte, Nat.reduceEqDiff, reduceCtorEq, Nat.reduceAdd, Nat.reduceLeDiff, Nat.reduceSub, Nat.reduceMul, Nat.reduceMod, Nat.reduceLT, asD, asD1, cellDs, cellD, V.scal, D.scal, ← List.map_take, ← List.map_drop, List.drop_zero, List.map_cons, List.map_nil, pl28, idxV, encLy, encFd, encCh, List.length_map, List.drop, Int.toNat_natCast, thenQ]
  refine W_pre tok (cok T _ _ _ gm) mixed (by kernel_rfl) ?_
  simp only [go_sem, ↓reduceIte, Nat.reduceEqDiff, reduceCtorEq, Nat.reduceAdd, Nat.reduceLeDiff, Nat.reduceSub, Nat.reduceMul, Nat.reduceMod, Nat.reduceLT, asD, asD1, cellDs, cellD, V.scal, D.scal, ← List.map_take, ← List.map_drop, List.drop_zero, List.map_cons, List.map_nil, pl28, idxV, encLy, encFd, encCh, List.length_map, List.drop, Int.toNat_natCast, thenQ]
  refine W_seq (K := fun s => Le s ⟨envL [(3, .d (.sl 1 ((wAt l l.length).map encI)))], osL []⟩) ?_ fun s hs => W_le hs ?_
  · refine W_pre tok (cok T _ _ _ gm) mixed (by kernel_rfl) ?_
    simp only [go_sem, ↓reduceIte, Nat.reduceEqDiff, reduceCtorEq, Nat.reduceAdd, Nat.reduceLeDiff, Nat.reduceSub, Nat.reduceMul, Nat.reduceMod, Nat.reduceLT, asD, asD1, cellDs, cellD, V.scal, D.scal, ← List.map_take, ← List.map_drop, List.drop_zero, List.map_cons, List.map_nil, pl28, idxV, encLy, encFd, encCh, List.length_map, List.drop, Int.toNat_natCast, thenQ]
    refine W_block ?_
    refine W_loop [] (by simp) (fun i : Nat => grownO (osL []) 51 1 3 (fun i => (wAt l i).map encI) i) (fun i => [(0, .d (.sl 3 (l.map encLy))), (3, grownV 51 i), (4, .d (.int .i64 (i : Int)))]) (fun i => i ≤ l.length) (fun i => l.length - i) 0 (Nat.zero_le _) ?_ fun i hi => ?_
    · simp only [go_sem, ↓reduceIte, Nat.reduceEqDiff, reduceCtorEq, Nat.reduceAdd, Nat.reduceLeDiff, Nat.reduceSub, Nat.reduceMul, Nat.reduceMod, Nat.reduceLT, asD, asD1, cellDs, cellD, V.scal, D.scal, ← List.map_take, ← List.map_drop, List.drop_zero, List.map_cons, List.map_nil, pl28, idxV, encLy, encFd, encCh, List.length_map, List.drop, Int.toNat_natCast, thenQ]
      exact ⟨rfl, rfl⟩
    · by_cases hlt : i < l.length
      · obtain ⟨x, hx⟩ : ∃ x, l[i]? = some x := ⟨_, List.getElem?_eq_getElem hlt⟩
        have hgx : (l.map encLy).getD i [] = encLy x := by rw [List.getD_eq_getElem?_getD, List.getElem?_map, hx]; rfl
        have hxl := hr.fields i x hx
        have hw := wAt_ok hr i hi
        have hwl := wAt_len hi
        have hwd := right_width hr hx
        have hst := wAt_step hx
        have hle : decide ((i : Int) < (l.length : Int)) = true := decide_eq_true (by omega)
        have P68 : ∀ (k : Nat) f, x.fields[k]? = some f → WOk (wAt l i) ∧ (0 ≤ f.width ∧ f.width ≤ 200) ∧ (0 ≤ f.kind ∧ f.kind ≤ 7) ∧ (∀ n ∈ usedOf f, 0 ≤ n ∧ n < ((wAt l i).length : Int)) ∧ (f.kind = 7 → f.choices ≠ []) ∧ f.choices.length ≤ 1000 := fun k f hf => by
          obtain ⟨p1, _, _, p2, p3⟩ := right_field hx hf (hr.field i x hx k f hf)
          exact ⟨hw, hwd f (List.mem_of_getElem? hf), p1, fun n hn => by have := p2 n hn; omega, p3, (hs x (List.mem_of_getElem? hx)).2 f (List.mem_of_getElem? hf)⟩
        have bounds : ∀ n, -1 ≤ n → n ≤ mostW → ∀ f ∈ x.fields, -1 ≤ fieldW f (wAt l i) ∧ fieldW f (wAt l i) ≤ mostW := fun n _ _ f hf => fieldW_ok hw (hwd f hf).1 (hwd f hf).2
        refine W_pre tok (cok T _ _ _ gm) mixed (by kernel_rfl) ?_
        simp only [go_sem, ↓reduceIte, Nat.reduceEqDiff, reduceCtorEq, Nat.reduceAdd, Nat.reduceLeDiff, Nat.reduceSub, Nat.reduceMul, Nat.reduceMod, Nat.reduceLT, asD, asD1, cellDs, cellD, V.scal, D.scal, ← List.map_take, ← List.map_drop, List.drop_zero, List.map_cons, List.map_nil, pl28, idxV, hle, hgx, false_implies, encLy, encFd, encCh, List.length_map, List.drop, Int.toNat_natCast, thenQ]
        cases i with
        | zero =>
          refine W_seq (K := fun s => AtL s.env [(0, .d (.sl 3 (l.map encLy))), (3, .row 51), (4, .d (.int .i64 ((0 : Nat) : Int)))] ∧ s.os = grownO (osL []) 51 1 3 (fun i => (wAt l i).map encI) (0 + 1)) ?_ fun s hs => W_st hs.1 hs.2 ?_
          · refine W_block ?_
            refine W_pre tok (cok T _ _ _ gm) mixed (by kernel_rfl) ?_
            simp only [go_sem, ↓reduceIte, Nat.reduceEqDiff, reduceCtorEq, Nat.reduceAdd, Nat.reduceLeDiff, Nat.reduceSub, Nat.reduceMul, Nat.reduceMod, Nat.reduceLT, asD, asD1, cellDs, cellD, V.scal, D.scal, ← List.map_take, ← List.map_drop, List.drop_zero, List.map_cons, List.map_nil, pl28, idxV, encLy, encFd, encCh, List.length_map, List.drop, Int.toNat_natCast, thenQ]
            refine W_seq (K := fun s => AtL s.env [(0, .d (.sl 3 (l.map encLy))), (3, grownV 51 0), (4, .d (.int .i64 ((0 : Nat) : Int))), (5, .d (.int .i64 (sumW (wAt l 0) x.fields 0)))] ∧ s.os = grownO (osL []) 51 1 3 (fun i => (wAt l i).map encI) 0) ?_ fun s hs => W_st hs.1 hs.2 ?_
            · refine W_pre tok (cok T _ _ _ gm) mixed (by kernel_rfl) ?_
              simp only [go_sem, ↓reduceIte, Nat.reduceEqDiff, reduceCtorEq, Nat.reduceAdd, Nat.reduceLeDiff, Nat.reduceSub, Nat.reduceMul, Nat.reduceMod, Nat.reduceLT, asD, asD1, cellDs, cellD, V.scal, D.scal, ← List.map_take, ← List.map_drop, List.drop_zero, List.map_cons, List.map_nil, pl28, idxV, encLy, encFd, encCh, List.length_map, List.drop, Int.toNat_natCast, thenQ]
              refine W_block ?_
              refine W_run tok (cok T _ _ _ gm) mixed (by kernel_rfl) ?_
              refine loop_objs [] (by simp) (fun _ : Nat × Int => grownO (osL []) 51 1 3 (fun i => (wAt l i).map encI) 0) (fun p => [(0, .d (.sl 3 (l.map encLy))), (3, grownV 51 0), (4, .d (.int .i64 ((0 : Nat) : Int))), (5, .d (.int .i64 p.2)), (6, .d (.int .i64 (p.1 : Int)))]) (fun p => p.1 ≤ x.fields.length ∧ (-1 ≤ p.2 ∧ p.2 ≤ mostW) ∧ sumW (wAt l 0) x.fields 0 = sumW (wAt l 0) (x.fields.drop p.1) p.2) (fun p => x.fields.length - p.1) (0, 0) ⟨Nat.zero_le _, ⟨by decide, by decide⟩, rfl⟩ ?_ ?_
              · simp only [go_sem, ↓reduceIte, Nat.reduceEqDiff, reduceCtorEq, Nat.reduceAdd, Nat.reduceLeDiff, Nat.reduceSub, Nat.reduceMul, Nat.reduceMod, Nat.reduceLT, asD, asD1, cellDs, cellD, V.scal, D.scal, ← List.map_take, ← List.map_drop, List.drop_zero, List.map_cons, List.map_nil, pl28, idxV, encLy, encFd, encCh, List.length_map, List.drop, Int.toNat_natCast, thenQ]
                first | rfl | exact ⟨rfl, rfl⟩
              · rintro ⟨k, n⟩ ⟨k1, ⟨n1, n2⟩, k2⟩
                simp only at k1 n1 n2 k2
                by_cases hlk : k < x.fields.length
                · obtain ⟨f, hf⟩ : ∃ f, x.fields[k]? = some f := ⟨_, List.getElem?_eq_getElem hlk⟩
                  have hgf : (x.fields.map encFd).getD k [] = encFd f := by rw [List.getD_eq_getElem?_getD, List.getElem?_map, hf]; rfl
                  have hd : x.fields.drop k = f :: x.fields.drop (k + 1) := by
                    obtain ⟨_, e⟩ := List.getElem?_eq_some_iff.1 hf
                    rw [List.drop_eq_getElem_cons hlk, e]
                  rw [hd, sumW] at k2
                  have hb := bounds 0 (by decide) (by decide) f (List.mem_of_getElem? hf)
                  have hm : mostW = 1099511627776 := rfl
                  have hP := P68 k f hf
                  simp only [go_sem, ↓reduceIte, Nat.reduceEqDiff, reduceCtorEq, Nat.reduceAdd, Nat.reduceLeDiff, Nat.reduceSub, Nat.reduceMul, Nat.reduceMod, Nat.reduceLT, asD, asD1, cellDs, cellD, V.scal, D.scal, ← List.map_take, ← List.map_drop, List.drop_zero, List.map_cons, List.map_nil, pl28, idxV, hgx, hgf, false_implies, encLy, encFd, encCh, List.length_map, List.drop, Int.toNat_natCast, thenQ]
                  have hw0 : wAt l 0 = [] := rfl
                  rw [hw0] at k2 hb ⊢
                  refine ⟨⟨by omega, by omega⟩, fun a ha => ?_⟩
                  obtain rfl := Option.some.inj (hx.symm.trans ha)
                  have hq : ∀ w : Int, (bif w == -1 then true else n == -1) = decide (w = -1 ∨ n = -1) := fun w => by by_cases a : w = -1 <;> by_cases b : n = -1 <;> simp [a, b]
                  rw [hq]
                  refine ⟨fun _ => ⟨⟨by omega, by omega⟩, ⟨by omega, by omega⟩, ⟨by omega, by omega⟩, hP, fun h => by rw [h]; rfl, fun h => ⟨(k + 1, -1), ⟨hlk, ⟨Int.le_refl _, (by decide : (-1 : Int) ≤ mostW)⟩, by rw [if_pos (of_decide_eq_true h)] at k2; exact k2⟩, by simp only; omega, rfl, by rw [wrap_small _ (by omega) (by omega)]; rfl⟩, fun h => ?_⟩, fun h => absurd (of_decide_eq_false h) (by omega)⟩
                  have hn := of_decide_eq_false h
                  rw [if_neg hn] at k2
                  refine ⟨(k + 1, min (n + fieldW f []) mostW), ⟨hlk, ⟨by simp only; omega, by simp only; omega⟩, k2⟩, by simp only; omega, ?_, by rw [wrap_small _ (by omega) (by omega)]; rfl⟩
                  rw [wrap_small (n + fieldW f []) (by omega) (by omega)]
                  congr 2
                  rw [hm]
                  split <;> omega
                · obtain rfl : k = x.fields.length := by omega
                  have hd : decide ((x.fields.length : Int) < (x.fields.length : Int)) = false := decide_eq_false (by omega)
                  rw [List.drop_length, sumW] at k2
                  simp only [go_sem, ↓reduceIte, Nat.reduceEqDiff, reduceCtorEq, Nat.reduceAdd, Nat.reduceLeDiff, Nat.reduceSub, Nat.reduceMul, Nat.reduceMod, Nat.reduceLT, asD, asD1, cellDs, cellD, V.scal, D.scal, ← List.map_take, ← List.map_drop, List.drop_zero, List.map_cons, List.map_nil, pl28, idxV, hd, hgx, false_implies, encLy, encFd, encCh, List.length_map, List.drop, Int.toNat_natCast, thenQ]
                  refine ⟨⟨by omega, by omega⟩, fun a ha => ?_⟩
                  obtain rfl := Option.some.inj (hx.symm.trans ha)
                  exact ⟨fun h => absurd (of_decide_eq_true h) (by omega), fun _ => by rw [k2]⟩
            · refine W_run tok (cok T _ _ _ gm) mixed (by kernel_rfl) ?_
              simp only [go_sem, ↓reduceIte, Nat.reduceEqDiff, reduceCtorEq, Nat.reduceAdd, Nat.reduceLeDiff, Nat.reduceSub, Nat.reduceMul, Nat.reduceMod, Nat.reduceLT, asD, asD1, cellDs, cellD, V.scal, D.scal, ← List.map_take, ← List.map_drop, List.drop_zero, List.map_cons, List.map_nil, pl28, idxV, encLy, encFd, encCh, List.length_map, List.drop, Int.toNat_natCast, thenQ]
              rw [show wAt l 1 = wAt l 0 ++ [sumW (wAt l 0) x.fields 0] from hst]
              rfl
          · refine W_run tok (cok T _ _ _ gm) mixed (by kernel_rfl) ?_
            simp only [go_sem, ↓reduceIte, Nat.reduceEqDiff, reduceCtorEq, Nat.reduceAdd, Nat.reduceLeDiff, Nat.reduceSub, Nat.reduceMul, Nat.reduceMod, Nat.reduceLT, asD, asD1, cellDs, cellD, V.scal, D.scal, ← List.map_take, ← List.map_drop, List.drop_zero, List.map_cons, List.map_nil, pl28, idxV, encLy, encFd, encCh, List.length_map, List.drop, Int.toNat_natCast, thenQ]
            exact ⟨0 + 1, by omega, by omega, ⟨rfl, by rw [wrap_small _ (by omega) (by omega)]; rfl⟩, rfl⟩
        | succ j =>
          refine W_seq (K := fun s => AtL s.env [(0, .d (.sl 3 (l.map encLy))), (3, .row 51), (4, .d (.int .i64 ((j + 1 : Nat) : Int)))] ∧ s.os = grownO (osL []) 51 1 3 (fun i => (wAt l i).map encI) ((j + 1) + 1)) ?_ fun s hs => W_st hs.1 hs.2 ?_
          · refine W_block ?_
            refine W_pre tok (cok T _ _ _ gm) mixed (by kernel_rfl) ?_
            simp only [go_sem, ↓reduceIte, Nat.reduceEqDiff, reduceCtorEq, Nat.reduceAdd, Nat.reduceLeDiff, Nat.reduceSub, Nat.reduceMul, Nat.reduceMod, Nat.reduceLT, asD, asD1, cellDs, cellD, V.scal, D.scal, ← List.map_take, ← List.map_drop, List.drop_zero, List.map_cons, List.map_nil, pl28, idxV, encLy, encFd, encCh, List.length_map, List.drop, Int.toNat_natCast, thenQ]
            refine W_seq (K := fun s => AtL s.env [(0, .d (.sl 3 (l.map encLy))), (3, grownV 51 (j + 1)), (4, .d (.int .i64 ((j + 1 : Nat) : Int))), (5, .d (.int .i64 (sumW (wAt l (j + 1)) x.fields 0)))] ∧ s.os = grownO (osL []) 51 1 3 (fun i => (wAt l i).map encI) (j + 1)) ?_ fun s hs => W_st hs.1 hs.2 ?_
            · refine W_pre tok (cok T _ _ _ gm) mixed (by kernel_rfl) ?_
              simp only [go_sem, ↓reduceIte, Nat.reduceEqDiff, reduceCtorEq, Nat.reduceAdd, Nat.reduceLeDiff, Nat.reduceSub, Nat.reduceMul, Nat.reduceMod, Nat.reduceLT, asD, asD1, cellDs, cellD, V.scal, D.scal, ← List.map_take, ← List.map_drop, List.drop_zero, List.map_cons, List.map_nil, pl28, idxV, encLy, encFd, encCh, List.length_map, List.drop, Int.toNat_natCast, thenQ]
              refine W_block ?_
              refine W_run tok (cok T _ _ _ gm) mixed (by kernel_rfl) ?_
              refine loop_objs [] (by simp) (fun _ : Nat × Int => grownO (osL []) 51 1 3 (fun i => (wAt l i).map encI) (j + 1)) (fun p => [(0, .d (.sl 3 (l.map encLy))), (3, grownV 51 (j + 1)), (4, .d (.int .i64 ((j + 1 : Nat) : Int))), (5, .d (.int .i64 p.2)), (6, .d (.int .i64 (p.1 : Int)))]) (fun p => p.1 ≤ x.fields.length ∧ (-1 ≤ p.2 ∧ p.2 ≤ mostW) ∧ sumW (wAt l (j + 1)) x.fields 0 = sumW (wAt l (j + 1)) (x.fields.drop p.1) p.2) (fun p => x.fields.length - p.1) (0, 0) ⟨Nat.zero_le _, ⟨by decide, by decide⟩, rfl⟩ ?_ ?_
              · simp only [go_sem, ↓reduceIte, Nat.reduceEqDiff, reduceCtorEq, Nat.reduceAdd, Nat.reduceLeDiff, Nat.reduceSub, Nat.reduceMul, Nat.reduceMod, Nat.reduceLT, asD, asD1, cellDs, cellD, V.scal, D.scal, ← List.map_take, ← List.map_drop, List.drop_zero, List.map_cons, List.map_nil, pl28, idxV, encLy, encFd, encCh, List.length_map, List.drop, Int.toNat_natCast, thenQ]
                first | rfl | exact ⟨rfl, rfl⟩
              · rintro ⟨k, n⟩ ⟨k1, ⟨n1, n2⟩, k2⟩
                simp only at k1 n1 n2 k2
                by_cases hlk : k < x.fields.length
                · obtain ⟨f, hf⟩ : ∃ f, x.fields[k]? = some f := ⟨_, List.getElem?_eq_getElem hlk⟩
                  have hgf : (x.fields.map encFd).getD k [] = encFd f := by rw [List.getD_eq_getElem?_getD, List.getElem?_map, hf]; rfl
                  have hd : x.fields.drop k = f :: x.fields.drop (k + 1) := by
                    obtain ⟨_, e⟩ := List.getElem?_eq_some_iff.1 hf
                    rw [List.drop_eq_getElem_cons hlk, e]
                  rw [hd, sumW] at k2
                  have hb := bounds 0 (by decide) (by decide) f (List.mem_of_getElem? hf)
                  have hm : mostW = 1099511627776 := rfl
                  have hP := P68 k f hf
                  simp only [go_sem, ↓reduceIte, Nat.reduceEqDiff, reduceCtorEq, Nat.reduceAdd, Nat.reduceLeDiff, Nat.reduceSub, Nat.reduceMul, Nat.reduceMod, Nat.reduceLT, asD, asD1, cellDs, cellD, V.scal, D.scal, ← List.map_take, ← List.map_drop, List.drop_zero, List.map_cons, List.map_nil, pl28, idxV, hgx, hgf, false_implies, encLy, encFd, encCh, List.length_map, List.drop, Int.toNat_natCast, thenQ]
                  skip
                  refine ⟨⟨by omega, by omega⟩, fun a ha => ?_⟩
                  obtain rfl := Option.some.inj (hx.symm.trans ha)
                  have hq : ∀ w : Int, (bif w == -1 then true else n == -1) = decide (w = -1 ∨ n = -1) := fun w => by by_cases a : w = -1 <;> by_cases b : n = -1 <;> simp [a, b]
                  rw [hq]
                  refine ⟨fun _ => ⟨⟨by omega, by omega⟩, ⟨by omega, by omega⟩, ⟨by omega, by omega⟩, hP, fun h => by rw [h]; rfl, fun h => ⟨(k + 1, -1), ⟨hlk, ⟨Int.le_refl _, (by decide : (-1 : Int) ≤ mostW)⟩, by rw [if_pos (of_decide_eq_true h)] at k2; exact k2⟩, by simp only; omega, rfl, by rw [wrap_small _ (by omega) (by omega)]; rfl⟩, fun h => ?_⟩, fun h => absurd (of_decide_eq_false h) (by omega)⟩
                  have hn := of_decide_eq_false h
                  rw [if_neg hn] at k2
                  refine ⟨(k + 1, min (n + fieldW f (wAt l (j + 1))) mostW), ⟨hlk, ⟨by simp only; omega, by simp only; omega⟩, k2⟩, by simp only; omega, ?_, by rw [wrap_small _ (by omega) (by omega)]; rfl⟩
                  rw [wrap_small (n + fieldW f (wAt l (j + 1))) (by omega) (by omega)]
                  congr 2
                  rw [hm]
                  split <;> omega
                · obtain rfl : k = x.fields.length := by omega
                  have hd : decide ((x.fields.length : Int) < (x.fields.length : Int)) = false := decide_eq_false (by omega)
                  rw [List.drop_length, sumW] at k2
                  simp only [go_sem, ↓reduceIte, Nat.reduceEqDiff, reduceCtorEq, Nat.reduceAdd, Nat.reduceLeDiff, Nat.reduceSub, Nat.reduceMul, Nat.reduceMod, Nat.reduceLT, asD, asD1, cellDs, cellD, V.scal, D.scal, ← List.map_take, ← List.map_drop, List.drop_zero, List.map_cons, List.map_nil, pl28, idxV, hd, hgx, false_implies, encLy, encFd, encCh, List.length_map, List.drop, Int.toNat_natCast, thenQ]
                  refine ⟨⟨by omega, by omega⟩, fun a ha => ?_⟩
                  obtain rfl := Option.some.inj (hx.symm.trans ha)
                  exact ⟨fun h => absurd (of_decide_eq_true h) (by omega), fun _ => by rw [k2]⟩
            · refine W_run tok (cok T _ _ _ gm) mixed (by kernel_rfl) ?_
              simp only [go_sem, ↓reduceIte, Nat.reduceEqDiff, reduceCtorEq, Nat.reduceAdd, Nat.reduceLeDiff, Nat.reduceSub, Nat.reduceMul, Nat.reduceMod, Nat.reduceLT, asD, asD1, cellDs, cellD, V.scal, D.scal, ← List.map_take, ← List.map_drop, List.drop_zero, List.map_cons, List.map_nil, pl28, idxV, encLy, encFd, encCh, List.length_map, List.drop, Int.toNat_natCast, thenQ]
              refine ⟨⟨by omega, by omega⟩, ?_⟩
              rw [hst]
              funext o
              by_cases h51 : o = 51 <;> simp [osL, upd, encI, h51]
          · refine W_run tok (cok T _ _ _ gm) mixed (by kernel_rfl) ?_
            simp only [go_sem, ↓reduceIte, Nat.reduceEqDiff, reduceCtorEq, Nat.reduceAdd, Nat.reduceLeDiff, Nat.reduceSub, Nat.reduceMul, Nat.reduceMod, Nat.reduceLT, asD, asD1, cellDs, cellD, V.scal, D.scal, ← List.map_take, ← List.map_drop, List.drop_zero, List.map_cons, List.map_nil, pl28, idxV, encLy, encFd, encCh, List.length_map, List.drop, Int.toNat_natCast, thenQ]
            exact ⟨j + 1 + 1, by omega, by omega, ⟨rfl, by rw [wrap_small _ (by omega) (by omega)]; rfl⟩, rfl⟩
      · obtain rfl : i = l.length := by omega
        have hd : decide ((l.length : Int) < (l.length : Int)) = false := decide_eq_false (by omega)
        refine W_run tok (cok T _ _ _ gm) mixed (by kernel_rfl) ?_
        simp only [go_sem, ↓reduceIte, Nat.reduceEqDiff, reduceCtorEq, Nat.reduceAdd, Nat.reduceLeDiff, Nat.reduceSub, Nat.reduceMul, Nat.reduceMod, Nat.reduceLT, asD, asD1, cellDs, cellD, V.scal, D.scal, ← List.map_take, ← List.map_drop, List.drop_zero, List.map_cons, List.map_nil, pl28, idxV, hd, encLy, encFd, encCh, List.length_map, List.drop, Int.toNat_natCast, thenQ]
        refine ⟨fun h => h.elim, ?_⟩
        refine Le_grown (v := 3) (t := 51) (m := 1) (e := 3) (base := osL []) (rows := fun i => (wAt l i).map encI) (i := l.length) rfl rfl rfl (fun j hj => ⟨?_, trivial⟩) (fun h => ⟨?_, trivial⟩) rfl ?_
        · show V.frz 51 (.sl 1 ((wAt l l.length).map encI)) (grownV 51 l.length) = _
          generalize (wAt l l.length).map encI = q
          rw [hj, grownV_s]
          simp [V.frz]
        · show V.d (.sl 1 []) = .d (.sl 1 ((wAt l l.length).map encI))
          rw [h]
          rfl
        · funext o
          by_cases h51 : o = 51 <;> simp [osL, h51]
  · refine W_run tok (cok T _ _ _ gm) mixed (by kernel_rfl) ?_
    simp only [go_sem, ↓reduceIte, Nat.reduceEqDiff, reduceCtorEq, Nat.reduceAdd, Nat.reduceLeDiff, Nat.reduceSub, Nat.reduceMul, Nat.reduceMod, Nat.reduceLT, asD, asD1, cellDs, cellD, V.scal, D.scal, ← List.map_take, ← List.map_drop, List.drop_zero, List.map_cons, List.map_nil, pl28, idxV, encLy, encFd, encCh, List.length_map, List.drop, Int.toNat_natCast, thenQ]
noncomputable def E28 : Ent Tryz.prog := Ent.of 28 (fnOk Tryz.func28 rfl (by kernel_rfl)) (fun
    | [.d (.sl 3 l)] => (dec encLy l).bind fun l => some (Right l ∧ Small l, .d (.sl 1 ((wAt l l.length).map encI)))
    | _ => none) fun args p r h => by
    split at h
    · obtain ⟨_, hd0, h0⟩ := Option.bind_eq_some_iff.1 h; clear h; have hd0 := dec_some hd0; subst hd0
      cases h0; exact t28 _
    · cases h
@[go_sem] theorem E28_f : E28.f = 28 := rfl
@[go_sem] theorem E28_c (l : List (List D)) : E28.c [.d (.sl 3 l)] = (dec encLy l).bind fun l => some (Right l ∧ Small l, .d (.sl 1 ((wAt l l.length).map encI))) := rfl
end Go.Proofs.YtgnnakibcjonbaaGreatDoor.VE

/- Chapter 16: OwnTable. -/
namespace Go.Proofs.YtgnnakibcjonbaaGreatDoor.VE
open Go Go.RowKit
set_option maxRecDepth 100000
set_option maxHeartbeats 2000000
set_option linter.unusedSimpArgs false
set_option linter.unusedVariables false

theorem t15 (l : List Ly) : PureOk Tryz.prog 15 [.d (.sl 3 (l.map encLy))] (l.length ≤ 1000 ∧ Small l) (.d (.sl 3 (l.map encLy))) := by
  refine pure_fnW (C := fun gm => ⟨T, gam (P := Tryz.prog) [], dam (P := Tryz.prog) [], plT [(1000031, [(0, [])])], ⟨gm, fun _ _ => none⟩⟩) (fun _ => tok) Tryz.func15 rfl (Nat.le_of_ble_eq_true rfl) rfl (fun m => rfl) fun gm hp => ?_
  obtain ⟨hl, hs⟩ := hp
  unfold Tryz.f15
  refine W_pre tok (cok T _ _ _ gm) mixed (by kernel_rfl) ?_
  simp only [go_sem, ↓reduceIte, Nat.reduceEqDiff, reduceCtorEq, Nat.reduceAdd, Nat.reduceLeDiff, Nat.reduceSub, Nat.reduceMul, Nat.reduceMod, Nat.reduceLT, asD, asD1, cellDs, cellD, V.scal, D.scal, ← List.map_take, ← List.map_drop, List.drop_zero, List.map_cons, List.map_nil, idxV, encLy, encFd, encCh, List.length_map, List.drop, Int.toNat_natCast, thenQ]
  refine W_pre tok (cok T _ _ _ gm) mixed (by kernel_rfl) ?_
  simp only [go_sem, ↓reduceIte, Nat.reduceEqDiff, reduceCtorEq, Nat.reduceAdd, Nat.reduceLeDiff, Nat.reduceSub, Nat.reduceMul, Nat.reduceMod, Nat.reduceLT, asD, asD1, cellDs, cellD, V.scal, D.scal, ← List.map_take, ← List.map_drop, List.drop_zero, List.map_cons, List.map_nil, idxV, encLy, encFd, encCh, List.length_map, List.drop, Int.toNat_natCast, thenQ]
  refine W_seq (K := fun s => Le s ⟨envL [(3, .d (.sl 3 (l.map encLy)))], osL []⟩) ?_ fun s hs => W_le hs ?_
  · refine W_pre tok (cok T _ _ _ gm) mixed (by kernel_rfl) ?_
    simp only [go_sem, ↓reduceIte, Nat.reduceEqDiff, reduceCtorEq, Nat.reduceAdd, Nat.reduceLeDiff, Nat.reduceSub, Nat.reduceMul, Nat.reduceMod, Nat.reduceLT, asD, asD1, cellDs, cellD, V.scal, D.scal, ← List.map_take, ← List.map_drop, List.drop_zero, List.map_cons, List.map_nil, idxV, encLy, encFd, encCh, List.length_map, List.drop, Int.toNat_natCast, thenQ]
    refine W_block ?_
    refine W_loop [5] (by simp) (fun i : Nat => grownO (osL []) 45 3 37 (fun i => (l.take i).map encLy) i) (fun i => [(0, .d (.sl 3 (l.map encLy))), (3, grownV 45 i), (4, .d (.int .i64 ((i : Nat) : Int)))]) (fun i => i ≤ l.length) (fun i => l.length - i) 0 (Nat.zero_le _) ?_ fun i hi => ?_
    · simp only [go_sem, ↓reduceIte, Nat.reduceEqDiff, reduceCtorEq, Nat.reduceAdd, Nat.reduceLeDiff, Nat.reduceSub, Nat.reduceMul, Nat.reduceMod, Nat.reduceLT, asD, asD1, cellDs, cellD, V.scal, D.scal, ← List.map_take, ← List.map_drop, List.drop_zero, List.map_cons, List.map_nil, idxV, encLy, encFd, encCh, List.length_map, List.drop, Int.toNat_natCast, thenQ]
      refine ⟨rfl, ?_⟩
      funext o
      by_cases h5 : o = 5 <;> simp [osL, h5]
    · by_cases hlt : i < l.length
      · obtain ⟨x, hx⟩ : ∃ x, l[i]? = some x := ⟨_, List.getElem?_eq_getElem hlt⟩
        have hgx : (l.map encLy).getD i [] = encLy x := by rw [List.getD_eq_getElem?_getD, List.getElem?_map, hx]; rfl
        have hle : decide ((i : Int) < (l.length : Int)) = true := decide_eq_true (by omega)
        refine W_pre tok (cok T _ _ _ gm) mixed (by kernel_rfl) ?_
        simp only [go_sem, ↓reduceIte, Nat.reduceEqDiff, reduceCtorEq, Nat.reduceAdd, Nat.reduceLeDiff, Nat.reduceSub, Nat.reduceMul, Nat.reduceMod, Nat.reduceLT, asD, asD1, cellDs, cellD, V.scal, D.scal, ← List.map_take, ← List.map_drop, List.drop_zero, List.map_cons, List.map_nil, idxV, hle, false_implies, encLy, encFd, encCh, List.length_map, List.drop, Int.toNat_natCast, thenQ]
        obtain ⟨s1, s2⟩ := hs x (List.mem_of_getElem? hx)
        have hti : l.take (i + 1) = l.take i ++ [x] := by rw [List.take_add_one, hx]; rfl
        cases i with
        | zero =>
          refine W_seq (K := fun s => Le s ⟨envL [(0, .d (.sl 3 (l.map encLy))), (3, grownV 45 (0 + 1)), (4, .d (.int .i64 ((0 : Nat) : Int)))], grownO (osL []) 45 3 37 (fun i => (l.take i).map encLy) (0 + 1)⟩) ?_ fun s hs => W_le hs ?_
          · refine W_block ?_
            refine W_pre tok (cok T _ _ _ gm) mixed (by kernel_rfl) ?_
            simp only [go_sem, ↓reduceIte, Nat.reduceEqDiff, reduceCtorEq, Nat.reduceAdd, Nat.reduceLeDiff, Nat.reduceSub, Nat.reduceMul, Nat.reduceMod, Nat.reduceLT, asD, asD1, cellDs, cellD, V.scal, D.scal, ← List.map_take, ← List.map_drop, List.drop_zero, List.map_cons, List.map_nil, idxV, encLy, encFd, encCh, List.length_map, List.drop, Int.toNat_natCast, thenQ]
            refine ⟨⟨by omega, by omega⟩, fun a ha => ?_⟩
            obtain rfl := Option.some.inj (hx.symm.trans ha)
            refine W_st (l := [(0, .d (.sl 3 (l.map encLy))), (3, grownV 45 0), (4, .d (.int .i64 ((0 : Nat) : Int))), (5, .ptr 5 0)]) (os' := grownO (osL [(5, .box [.d (.str x.name), .d (.sl 9 (x.fields.map encFd)), .d (.bool x.lowBits)] 37)]) 45 3 37 (fun i => (l.take i).map encLy) 0) ⟨rfl, rfl, rfl, rfl, trivial⟩ (by funext o; by_cases h5 : o = 5 <;> by_cases h8 : o = 8 <;> by_cases h39 : o = 39 <;> by_cases h45 : o = 45 <;> by_cases h31 : o = 31 <;> by_cases h34 : o = 34 <;> simp [grownO_0, grownO_s, osL, upd, O.kill, V.kill, O.frz, V.frz, V.frzs_eq, encFd, encLy, encCh, -List.map_take, h5, h8, h39, h45, h31, h34]) ?_
            refine W_pre tok (cok T _ _ _ gm) mixed (by kernel_rfl) ?_
            simp only [go_sem, ↓reduceIte, Nat.reduceEqDiff, reduceCtorEq, Nat.reduceAdd, Nat.reduceLeDiff, Nat.reduceSub, Nat.reduceMul, Nat.reduceMod, Nat.reduceLT, asD, asD1, cellDs, cellD, V.scal, D.scal, ← List.map_take, ← List.map_drop, List.drop_zero, List.map_cons, List.map_nil, idxV, encLy, encFd, encCh, List.length_map, List.drop, Int.toNat_natCast, thenQ]
            refine W_seq (K := fun s => Le s ⟨envL [(0, .d (.sl 3 (l.map encLy))), (3, grownV 45 0), (4, .d (.int .i64 ((0 : Nat) : Int))), (5, .ptr 5 0), (6, .d (.sl 9 (x.fields.map encFd)))], grownO (osL [(5, .box [.d (.str x.name), .d (.sl 9 (x.fields.map encFd)), .d (.bool x.lowBits)] 37)]) 45 3 37 (fun i => (l.take i).map encLy) 0⟩) ?_ fun s hs => W_le hs ?_
            · refine W_pre tok (cok T _ _ _ gm) mixed (by kernel_rfl) ?_
              simp only [go_sem, ↓reduceIte, Nat.reduceEqDiff, reduceCtorEq, Nat.reduceAdd, Nat.reduceLeDiff, Nat.reduceSub, Nat.reduceMul, Nat.reduceMod, Nat.reduceLT, asD, asD1, cellDs, cellD, V.scal, D.scal, ← List.map_take, ← List.map_drop, List.drop_zero, List.map_cons, List.map_nil, idxV, encLy, encFd, encCh, List.length_map, List.drop, Int.toNat_natCast, thenQ]
              refine W_block ?_
              refine W_run tok (cok T _ _ _ gm) mixed (by kernel_rfl) ?_
              refine loop_objs [8] (by simp) (fun k : Nat => grownO (grownO (osL [(5, .box [.d (.str x.name), .d (.sl 9 (x.fields.map encFd)), .d (.bool x.lowBits)] 37)]) 45 3 37 (fun i => (l.take i).map encLy) 0) 39 9 49 (fun k => (x.fields.take k).map encFd) k) (fun k => [(0, .d (.sl 3 (l.map encLy))), (3, grownV 45 0), (4, .d (.int .i64 ((0 : Nat) : Int))), (5, .ptr 5 0), (6, grownV 39 k), (7, .d (.int .i64 (k : Int)))]) (fun k => k ≤ x.fields.length) (fun k => x.fields.length - k) 0 (Nat.zero_le _) ?_ fun k hk => ?_
              · simp only [go_sem, ↓reduceIte, Nat.reduceEqDiff, reduceCtorEq, Nat.reduceAdd, Nat.reduceLeDiff, Nat.reduceSub, Nat.reduceMul, Nat.reduceMod, Nat.reduceLT, asD, asD1, cellDs, cellD, V.scal, D.scal, ← List.map_take, ← List.map_drop, List.drop_zero, List.map_cons, List.map_nil, idxV, encLy, encFd, encCh, List.length_map, List.drop, Int.toNat_natCast, thenQ]
                exact ⟨rfl, (by funext o; by_cases h5 : o = 5 <;> by_cases h8 : o = 8 <;> by_cases h39 : o = 39 <;> by_cases h45 : o = 45 <;> by_cases h31 : o = 31 <;> by_cases h34 : o = 34 <;> simp [grownO_0, grownO_s, osL, upd, O.kill, V.kill, O.frz, V.frz, V.frzs_eq, encFd, encLy, encCh, -List.map_take, h5, h8, h39, h45, h31, h34])⟩
              · by_cases hlk : k < x.fields.length
                · obtain ⟨f, hf⟩ : ∃ f, x.fields[k]? = some f := ⟨_, List.getElem?_eq_getElem hlk⟩
                  have ht : x.fields.take (k + 1) = x.fields.take k ++ [f] := by rw [List.take_add_one, hf]; rfl
                  have hc1 := s2 f (List.mem_of_getElem? hf)
                  have hgf : (x.fields.map encFd).getD k [] = encFd f := by rw [List.getD_eq_getElem?_getD, List.getElem?_map, hf]; rfl
                  have hlt2 : decide ((k : Int) < (x.fields.length : Int)) = true := decide_eq_true (by omega)
                  cases k with
                  | zero =>
                    simp only [go_sem, ↓reduceIte, Nat.reduceEqDiff, reduceCtorEq, Nat.reduceAdd, Nat.reduceLeDiff, Nat.reduceSub, Nat.reduceMul, Nat.reduceMod, Nat.reduceLT, asD, asD1, cellDs, cellD, V.scal, D.scal, ← List.map_take, ← List.map_drop, List.drop_zero, List.map_cons, List.map_nil, idxV, hgf, hlt2, false_implies, encLy, encFd, encCh, List.length_map, List.drop, Int.toNat_natCast, thenQ]
                    refine ⟨⟨by omega, by omega⟩, fun a ha => ?_⟩
                    obtain rfl := Option.some.inj (hf.symm.trans ha)
                    refine ⟨⟨by omega, by omega⟩, 0 + 1, by omega, by omega, ⟨rfl, by rw [wrap_small _ (by omega) (by omega)]; rfl⟩, ?_⟩
                    refine Eq.trans ?_ (grownO_s _ _ _ _ _ 0).symm
                    simp only [ht]
                    exact (by funext o; by_cases h5 : o = 5 <;> by_cases h8 : o = 8 <;> by_cases h39 : o = 39 <;> by_cases h45 : o = 45 <;> by_cases h31 : o = 31 <;> by_cases h34 : o = 34 <;> simp [grownO_0, grownO_s, osL, upd, O.kill, V.kill, O.frz, V.frz, V.frzs_eq, encFd, encLy, encCh, -List.map_take, h5, h8, h39, h45, h31, h34])
                  | succ q =>
                    simp only [go_sem, ↓reduceIte, Nat.reduceEqDiff, reduceCtorEq, Nat.reduceAdd, Nat.reduceLeDiff, Nat.reduceSub, Nat.reduceMul, Nat.reduceMod, Nat.reduceLT, asD, asD1, cellDs, cellD, V.scal, D.scal, ← List.map_take, ← List.map_drop, List.drop_zero, List.map_cons, List.map_nil, idxV, hgf, hlt2, false_implies, encLy, encFd, encCh, List.length_map, List.drop, Int.toNat_natCast, thenQ]
                    refine ⟨⟨by omega, by omega⟩, fun a ha => ?_⟩
                    obtain rfl := Option.some.inj (hf.symm.trans ha)
                    refine ⟨⟨by omega, by omega⟩, ⟨by rw [List.length_take]; omega, by rw [List.length_take]; omega⟩, q + 1 + 1, by omega, by omega, ⟨rfl, by rw [wrap_small _ (by omega) (by omega)]; rfl⟩, ?_⟩
                    refine Eq.trans ?_ (grownO_s _ _ _ _ _ (q + 1)).symm
                    simp only [ht]
                    exact (by funext o; by_cases h5 : o = 5 <;> by_cases h8 : o = 8 <;> by_cases h39 : o = 39 <;> by_cases h45 : o = 45 <;> by_cases h31 : o = 31 <;> by_cases h34 : o = 34 <;> simp [grownO_0, grownO_s, osL, upd, O.kill, V.kill, O.frz, V.frz, V.frzs_eq, encFd, encLy, encCh, -List.map_take, h5, h8, h39, h45, h31, h34])
                · obtain rfl : k = x.fields.length := by omega
                  have hd : decide ((x.fields.length : Int) < (x.fields.length : Int)) = false := decide_eq_false (by omega)
                  have htk : x.fields.take x.fields.length = x.fields := List.take_length
                  cases hn : x.fields.length with
                  | zero =>
                    rw [hn] at hd
                    simp only [go_sem, ↓reduceIte, Nat.reduceEqDiff, reduceCtorEq, Nat.reduceAdd, Nat.reduceLeDiff, Nat.reduceSub, Nat.reduceMul, Nat.reduceMod, Nat.reduceLT, asD, asD1, cellDs, cellD, V.scal, D.scal, ← List.map_take, ← List.map_drop, List.drop_zero, List.map_cons, List.map_nil, idxV, hd, hn, encLy, encFd, encCh, List.length_map, List.drop, Int.toNat_natCast, thenQ]
                    refine ⟨fun h => h.elim, ?_⟩
                    rw [List.length_eq_zero_iff.1 hn]
                    exact Le_nilL 6 9 rfl ⟨rfl, rfl, rfl, rfl, rfl, trivial⟩ rfl
                  | succ q =>
                    rw [hn] at hd
                    simp only [go_sem, ↓reduceIte, Nat.reduceEqDiff, reduceCtorEq, Nat.reduceAdd, Nat.reduceLeDiff, Nat.reduceSub, Nat.reduceMul, Nat.reduceMod, Nat.reduceLT, asD, asD1, cellDs, cellD, V.scal, D.scal, ← List.map_take, ← List.map_drop, List.drop_zero, List.map_cons, List.map_nil, idxV, hd, hn, encLy, encFd, encCh, List.length_map, List.drop, Int.toNat_natCast, thenQ]
                    refine ⟨fun h => h.elim, ?_⟩
                    rw [hn] at htk
                    rw [htk]
                    exact Le_frz 39 rfl ⟨rfl, rfl, rfl, rfl, (by show V.frz 39 (.sl 9 (x.fields.map encFd)) (.row 39) = _; simp [V.frz]), trivial⟩ (by funext o; by_cases h5 : o = 5 <;> by_cases h8 : o = 8 <;> by_cases h39 : o = 39 <;> by_cases h45 : o = 45 <;> by_cases h31 : o = 31 <;> by_cases h34 : o = 34 <;> simp [grownO_0, grownO_s, osL, upd, O.kill, V.kill, O.frz, V.frz, V.frzs_eq, encFd, encLy, encCh, -List.map_take, h5, h8, h39, h45, h31, h34])
            · refine W_run tok (cok T _ _ _ gm) mixed (by kernel_rfl) ?_
              simp only [go_sem, ↓reduceIte, Nat.reduceEqDiff, reduceCtorEq, Nat.reduceAdd, Nat.reduceLeDiff, Nat.reduceSub, Nat.reduceMul, Nat.reduceMod, Nat.reduceLT, asD, asD1, cellDs, cellD, V.scal, D.scal, ← List.map_take, ← List.map_drop, List.drop_zero, List.map_cons, List.map_nil, idxV, encLy, encFd, encCh, List.length_map, List.drop, Int.toNat_natCast, thenQ]
              refine Le_drop (ds := [5]) (by simp) ?_
              simp only [go_sem, ↓reduceIte, Nat.reduceEqDiff, reduceCtorEq, Nat.reduceAdd, Nat.reduceLeDiff, Nat.reduceSub, Nat.reduceMul, Nat.reduceMod, Nat.reduceLT, asD, asD1, cellDs, cellD, V.scal, D.scal, ← List.map_take, ← List.map_drop, List.drop_zero, List.map_cons, List.map_nil, idxV, encLy, encFd, encCh, List.length_map, List.drop, Int.toNat_natCast, thenQ]
              have hti : l.take 1 = l.take 0 ++ [x] := hti
              simp only [hti]
              exact (by funext o; by_cases h5 : o = 5 <;> by_cases h8 : o = 8 <;> by_cases h39 : o = 39 <;> by_cases h45 : o = 45 <;> by_cases h31 : o = 31 <;> by_cases h34 : o = 34 <;> simp [grownO_0, grownO_s, osL, upd, O.kill, V.kill, O.frz, V.frz, V.frzs_eq, encFd, encLy, encCh, -List.map_take, h5, h8, h39, h45, h31, h34])
          · refine W_run tok (cok T _ _ _ gm) mixed (by kernel_rfl) ?_
            simp only [go_sem, ↓reduceIte, Nat.reduceEqDiff, reduceCtorEq, Nat.reduceAdd, Nat.reduceLeDiff, Nat.reduceSub, Nat.reduceMul, Nat.reduceMod, Nat.reduceLT, asD, asD1, cellDs, cellD, V.scal, D.scal, ← List.map_take, ← List.map_drop, List.drop_zero, List.map_cons, List.map_nil, idxV, encLy, encFd, encCh, List.length_map, List.drop, Int.toNat_natCast, thenQ]
            refine ⟨0 + 1, by omega, by omega, ⟨rfl, by rw [wrap_small _ (by omega) (by omega)]; rfl⟩, ?_⟩
            exact (by funext o; by_cases h5 : o = 5 <;> by_cases h8 : o = 8 <;> by_cases h39 : o = 39 <;> by_cases h45 : o = 45 <;> by_cases h31 : o = 31 <;> by_cases h34 : o = 34 <;> simp [grownO_0, grownO_s, osL, upd, O.kill, V.kill, O.frz, V.frz, V.frzs_eq, encFd, encLy, encCh, -List.map_take, h5, h8, h39, h45, h31, h34])
        | succ j =>
          refine W_seq (K := fun s => Le s ⟨envL [(0, .d (.sl 3 (l.map encLy))), (3, grownV 45 ((j + 1) + 1)), (4, .d (.int .i64 (((j + 1) : Nat) : Int)))], grownO (osL []) 45 3 37 (fun i => (l.take i).map encLy) ((j + 1) + 1)⟩) ?_ fun s hs => W_le hs ?_
          · refine W_block ?_
            refine W_pre tok (cok T _ _ _ gm) mixed (by kernel_rfl) ?_
            simp only [go_sem, ↓reduceIte, Nat.reduceEqDiff, reduceCtorEq, Nat.reduceAdd, Nat.reduceLeDiff, Nat.reduceSub, Nat.reduceMul, Nat.reduceMod, Nat.reduceLT, asD, asD1, cellDs, cellD, V.scal, D.scal, ← List.map_take, ← List.map_drop, List.drop_zero, List.map_cons, List.map_nil, idxV, encLy, encFd, encCh, List.length_map, List.drop, Int.toNat_natCast, thenQ]
            refine ⟨⟨by omega, by omega⟩, fun a ha => ?_⟩
            obtain rfl := Option.some.inj (hx.symm.trans ha)
            refine W_st (l := [(0, .d (.sl 3 (l.map encLy))), (3, grownV 45 (j + 1)), (4, .d (.int .i64 (((j + 1) : Nat) : Int))), (5, .ptr 5 0)]) (os' := grownO (osL [(5, .box [.d (.str x.name), .d (.sl 9 (x.fields.map encFd)), .d (.bool x.lowBits)] 37)]) 45 3 37 (fun i => (l.take i).map encLy) (j + 1)) ⟨rfl, rfl, rfl, rfl, trivial⟩ (by funext o; by_cases h5 : o = 5 <;> by_cases h8 : o = 8 <;> by_cases h39 : o = 39 <;> by_cases h45 : o = 45 <;> by_cases h31 : o = 31 <;> by_cases h34 : o = 34 <;> simp [grownO_0, grownO_s, osL, upd, O.kill, V.kill, O.frz, V.frz, V.frzs_eq, encFd, encLy, encCh, -List.map_take, h5, h8, h39, h45, h31, h34]) ?_
            refine W_pre tok (cok T _ _ _ gm) mixed (by kernel_rfl) ?_
            simp only [go_sem, ↓reduceIte, Nat.reduceEqDiff, reduceCtorEq, Nat.reduceAdd, Nat.reduceLeDiff, Nat.reduceSub, Nat.reduceMul, Nat.reduceMod, Nat.reduceLT, asD, asD1, cellDs, cellD, V.scal, D.scal, ← List.map_take, ← List.map_drop, List.drop_zero, List.map_cons, List.map_nil, idxV, encLy, encFd, encCh, List.length_map, List.drop, Int.toNat_natCast, thenQ]
            refine W_seq (K := fun s => Le s ⟨envL [(0, .d (.sl 3 (l.map encLy))), (3, grownV 45 (j + 1)), (4, .d (.int .i64 (((j + 1) : Nat) : Int))), (5, .ptr 5 0), (6, .d (.sl 9 (x.fields.map encFd)))], grownO (osL [(5, .box [.d (.str x.name), .d (.sl 9 (x.fields.map encFd)), .d (.bool x.lowBits)] 37)]) 45 3 37 (fun i => (l.take i).map encLy) (j + 1)⟩) ?_ fun s hs => W_le hs ?_
            · refine W_pre tok (cok T _ _ _ gm) mixed (by kernel_rfl) ?_
              simp only [go_sem, ↓reduceIte, Nat.reduceEqDiff, reduceCtorEq, Nat.reduceAdd, Nat.reduceLeDiff, Nat.reduceSub, Nat.reduceMul, Nat.reduceMod, Nat.reduceLT, asD, asD1, cellDs, cellD, V.scal, D.scal, ← List.map_take, ← List.map_drop, List.drop_zero, List.map_cons, List.map_nil, idxV, encLy, encFd, encCh, List.length_map, List.drop, Int.toNat_natCast, thenQ]
              refine W_block ?_
              refine W_run tok (cok T _ _ _ gm) mixed (by kernel_rfl) ?_
              refine loop_objs [8] (by simp) (fun k : Nat => grownO (grownO (osL [(5, .box [.d (.str x.name), .d (.sl 9 (x.fields.map encFd)), .d (.bool x.lowBits)] 37)]) 45 3 37 (fun i => (l.take i).map encLy) (j + 1)) 39 9 49 (fun k => (x.fields.take k).map encFd) k) (fun k => [(0, .d (.sl 3 (l.map encLy))), (3, grownV 45 (j + 1)), (4, .d (.int .i64 (((j + 1) : Nat) : Int))), (5, .ptr 5 0), (6, grownV 39 k), (7, .d (.int .i64 (k : Int)))]) (fun k => k ≤ x.fields.length) (fun k => x.fields.length - k) 0 (Nat.zero_le _) ?_ fun k hk => ?_
              · simp only [go_sem, ↓reduceIte, Nat.reduceEqDiff, reduceCtorEq, Nat.reduceAdd, Nat.reduceLeDiff, Nat.reduceSub, Nat.reduceMul, Nat.reduceMod, Nat.reduceLT, asD, asD1, cellDs, cellD, V.scal, D.scal, ← List.map_take, ← List.map_drop, List.drop_zero, List.map_cons, List.map_nil, idxV, encLy, encFd, encCh, List.length_map, List.drop, Int.toNat_natCast, thenQ]
                exact ⟨rfl, (by funext o; by_cases h5 : o = 5 <;> by_cases h8 : o = 8 <;> by_cases h39 : o = 39 <;> by_cases h45 : o = 45 <;> by_cases h31 : o = 31 <;> by_cases h34 : o = 34 <;> simp [grownO_0, grownO_s, osL, upd, O.kill, V.kill, O.frz, V.frz, V.frzs_eq, encFd, encLy, encCh, -List.map_take, h5, h8, h39, h45, h31, h34])⟩
              · by_cases hlk : k < x.fields.length
                · obtain ⟨f, hf⟩ : ∃ f, x.fields[k]? = some f := ⟨_, List.getElem?_eq_getElem hlk⟩
                  have ht : x.fields.take (k + 1) = x.fields.take k ++ [f] := by rw [List.take_add_one, hf]; rfl
                  have hc1 := s2 f (List.mem_of_getElem? hf)
                  have hgf : (x.fields.map encFd).getD k [] = encFd f := by rw [List.getD_eq_getElem?_getD, List.getElem?_map, hf]; rfl
                  have hlt2 : decide ((k : Int) < (x.fields.length : Int)) = true := decide_eq_true (by omega)
                  cases k with
                  | zero =>
                    simp only [go_sem, ↓reduceIte, Nat.reduceEqDiff, reduceCtorEq, Nat.reduceAdd, Nat.reduceLeDiff, Nat.reduceSub, Nat.reduceMul, Nat.reduceMod, Nat.reduceLT, asD, asD1, cellDs, cellD, V.scal, D.scal, ← List.map_take, ← List.map_drop, List.drop_zero, List.map_cons, List.map_nil, idxV, hgf, hlt2, false_implies, encLy, encFd, encCh, List.length_map, List.drop, Int.toNat_natCast, thenQ]
                    refine ⟨⟨by omega, by omega⟩, fun a ha => ?_⟩
                    obtain rfl := Option.some.inj (hf.symm.trans ha)
                    refine ⟨⟨by omega, by omega⟩, 0 + 1, by omega, by omega, ⟨rfl, by rw [wrap_small _ (by omega) (by omega)]; rfl⟩, ?_⟩
                    refine Eq.trans ?_ (grownO_s _ _ _ _ _ 0).symm
                    simp only [ht]
                    exact (by funext o; by_cases h5 : o = 5 <;> by_cases h8 : o = 8 <;> by_cases h39 : o = 39 <;> by_cases h45 : o = 45 <;> by_cases h31 : o = 31 <;> by_cases h34 : o = 34 <;> simp [grownO_0, grownO_s, osL, upd, O.kill, V.kill, O.frz, V.frz, V.frzs_eq, encFd, encLy, encCh, -List.map_take, h5, h8, h39, h45, h31, h34])
                  | succ q =>
                    simp only [go_sem, ↓reduceIte, Nat.reduceEqDiff, reduceCtorEq, Nat.reduceAdd, Nat.reduceLeDiff, Nat.reduceSub, Nat.reduceMul, Nat.reduceMod, Nat.reduceLT, asD, asD1, cellDs, cellD, V.scal, D.scal, ← List.map_take, ← List.map_drop, List.drop_zero, List.map_cons, List.map_nil, idxV, hgf, hlt2, false_implies, encLy, encFd, encCh, List.length_map, List.drop, Int.toNat_natCast, thenQ]
                    refine ⟨⟨by omega, by omega⟩, fun a ha => ?_⟩
                    obtain rfl := Option.some.inj (hf.symm.trans ha)
                    refine ⟨⟨by omega, by omega⟩, ⟨by rw [List.length_take]; omega, by rw [List.length_take]; omega⟩, q + 1 + 1, by omega, by omega, ⟨rfl, by rw [wrap_small _ (by omega) (by omega)]; rfl⟩, ?_⟩
                    refine Eq.trans ?_ (grownO_s _ _ _ _ _ (q + 1)).symm
                    simp only [ht]
                    exact (by funext o; by_cases h5 : o = 5 <;> by_cases h8 : o = 8 <;> by_cases h39 : o = 39 <;> by_cases h45 : o = 45 <;> by_cases h31 : o = 31 <;> by_cases h34 : o = 34 <;> simp [grownO_0, grownO_s, osL, upd, O.kill, V.kill, O.frz, V.frz, V.frzs_eq, encFd, encLy, encCh, -List.map_take, h5, h8, h39, h45, h31, h34])
                · obtain rfl : k = x.fields.length := by omega
                  have hd : decide ((x.fields.length : Int) < (x.fields.length : Int)) = false := decide_eq_false (by omega)
                  have htk : x.fields.take x.fields.length = x.fields := List.take_length
                  cases hn : x.fields.length with
                  | zero =>
                    rw [hn] at hd
                    simp only [go_sem, ↓reduceIte, Nat.reduceEqDiff, reduceCtorEq, Nat.reduceAdd, Nat.reduceLeDiff, Nat.reduceSub, Nat.reduceMul, Nat.reduceMod, Nat.reduceLT, asD, asD1, cellDs, cellD, V.scal, D.scal, ← List.map_take, ← List.map_drop, List.drop_zero, List.map_cons, List.map_nil, idxV, hd, hn, encLy, encFd, encCh, List.length_map, List.drop, Int.toNat_natCast, thenQ]
                    refine ⟨fun h => h.elim, ?_⟩
                    rw [List.length_eq_zero_iff.1 hn]
                    exact Le_nilL 6 9 rfl ⟨rfl, rfl, rfl, rfl, rfl, trivial⟩ rfl
                  | succ q =>
                    rw [hn] at hd
                    simp only [go_sem, ↓reduceIte, Nat.reduceEqDiff, reduceCtorEq, Nat.reduceAdd, Nat.reduceLeDiff, Nat.reduceSub, Nat.reduceMul, Nat.reduceMod, Nat.reduceLT, asD, asD1, cellDs, cellD, V.scal, D.scal, ← List.map_take, ← List.map_drop, List.drop_zero, List.map_cons, List.map_nil, idxV, hd, hn, encLy, encFd, encCh, List.length_map, List.drop, Int.toNat_natCast, thenQ]
                    refine ⟨fun h => h.elim, ?_⟩
                    rw [hn] at htk
                    rw [htk]
                    exact Le_frz 39 rfl ⟨rfl, rfl, rfl, rfl, (by show V.frz 39 (.sl 9 (x.fields.map encFd)) (.row 39) = _; simp [V.frz]), trivial⟩ (by funext o; by_cases h5 : o = 5 <;> by_cases h8 : o = 8 <;> by_cases h39 : o = 39 <;> by_cases h45 : o = 45 <;> by_cases h31 : o = 31 <;> by_cases h34 : o = 34 <;> simp [grownO_0, grownO_s, osL, upd, O.kill, V.kill, O.frz, V.frz, V.frzs_eq, encFd, encLy, encCh, -List.map_take, h5, h8, h39, h45, h31, h34])
            · refine W_run tok (cok T _ _ _ gm) mixed (by kernel_rfl) ?_
              simp only [go_sem, ↓reduceIte, Nat.reduceEqDiff, reduceCtorEq, Nat.reduceAdd, Nat.reduceLeDiff, Nat.reduceSub, Nat.reduceMul, Nat.reduceMod, Nat.reduceLT, asD, asD1, cellDs, cellD, V.scal, D.scal, ← List.map_take, ← List.map_drop, List.drop_zero, List.map_cons, List.map_nil, idxV, encLy, encFd, encCh, List.length_map, List.drop, Int.toNat_natCast, thenQ]
              refine ⟨⟨by rw [List.length_take]; omega, by rw [List.length_take]; omega⟩, ?_⟩
              refine Le_drop (ds := [5]) (by simp) ?_
              simp only [go_sem, ↓reduceIte, Nat.reduceEqDiff, reduceCtorEq, Nat.reduceAdd, Nat.reduceLeDiff, Nat.reduceSub, Nat.reduceMul, Nat.reduceMod, Nat.reduceLT, asD, asD1, cellDs, cellD, V.scal, D.scal, ← List.map_take, ← List.map_drop, List.drop_zero, List.map_cons, List.map_nil, idxV, encLy, encFd, encCh, List.length_map, List.drop, Int.toNat_natCast, thenQ]
              
              simp only [hti]
              exact (by funext o; by_cases h5 : o = 5 <;> by_cases h8 : o = 8 <;> by_cases h39 : o = 39 <;> by_cases h45 : o = 45 <;> by_cases h31 : o = 31 <;> by_cases h34 : o = 34 <;> simp [grownO_0, grownO_s, osL, upd, O.kill, V.kill, O.frz, V.frz, V.frzs_eq, encFd, encLy, encCh, -List.map_take, h5, h8, h39, h45, h31, h34])
          · refine W_run tok (cok T _ _ _ gm) mixed (by kernel_rfl) ?_
            simp only [go_sem, ↓reduceIte, Nat.reduceEqDiff, reduceCtorEq, Nat.reduceAdd, Nat.reduceLeDiff, Nat.reduceSub, Nat.reduceMul, Nat.reduceMod, Nat.reduceLT, asD, asD1, cellDs, cellD, V.scal, D.scal, ← List.map_take, ← List.map_drop, List.drop_zero, List.map_cons, List.map_nil, idxV, encLy, encFd, encCh, List.length_map, List.drop, Int.toNat_natCast, thenQ]
            refine ⟨(j + 1) + 1, by omega, by omega, ⟨rfl, by rw [wrap_small _ (by omega) (by omega)]; rfl⟩, ?_⟩
            exact (by funext o; by_cases h5 : o = 5 <;> by_cases h8 : o = 8 <;> by_cases h39 : o = 39 <;> by_cases h45 : o = 45 <;> by_cases h31 : o = 31 <;> by_cases h34 : o = 34 <;> simp [grownO_0, grownO_s, osL, upd, O.kill, V.kill, O.frz, V.frz, V.frzs_eq, encFd, encLy, encCh, -List.map_take, h5, h8, h39, h45, h31, h34])
      · obtain rfl : i = l.length := by omega
        have hd : decide ((l.length : Int) < (l.length : Int)) = false := decide_eq_false (by omega)
        refine W_run tok (cok T _ _ _ gm) mixed (by kernel_rfl) ?_
        simp only [go_sem, ↓reduceIte, Nat.reduceEqDiff, reduceCtorEq, Nat.reduceAdd, Nat.reduceLeDiff, Nat.reduceSub, Nat.reduceMul, Nat.reduceMod, Nat.reduceLT, asD, asD1, cellDs, cellD, V.scal, D.scal, ← List.map_take, ← List.map_drop, List.drop_zero, List.map_cons, List.map_nil, idxV, hd, encLy, encFd, encCh, List.length_map, List.drop, Int.toNat_natCast, thenQ]
        refine ⟨fun h => h.elim, ?_⟩
        refine Le_grown (v := 3) (t := 45) (m := 3) (e := 37) (base := osL []) (rows := fun i => (l.take i).map encLy) (i := l.length) rfl rfl rfl (fun j hj => ⟨?_, trivial⟩) (fun h => ⟨?_, trivial⟩) rfl ?_
        · show V.frz 45 (.sl 3 ((l.take l.length).map encLy)) (grownV 45 l.length) = _
          rw [List.take_length]
          generalize l.map encLy = q
          rw [hj, grownV_s]
          simp [V.frz]
        · show V.d (.sl 3 []) = .d (.sl 3 (l.map encLy))
          rw [List.length_eq_zero_iff.1 h]
          rfl
        · funext o
          by_cases h45 : o = 45 <;> simp [osL, h45]
  · refine W_run tok (cok T _ _ _ gm) mixed (by kernel_rfl) ?_
    simp only [go_sem, ↓reduceIte, Nat.reduceEqDiff, reduceCtorEq, Nat.reduceAdd, Nat.reduceLeDiff, Nat.reduceSub, Nat.reduceMul, Nat.reduceMod, Nat.reduceLT, asD, asD1, cellDs, cellD, V.scal, D.scal, ← List.map_take, ← List.map_drop, List.drop_zero, List.map_cons, List.map_nil, idxV, encLy, encFd, encCh, List.length_map, List.drop, Int.toNat_natCast, thenQ]
noncomputable def E15 : Ent Tryz.prog := Ent.of 15 (fnOk Tryz.func15 rfl (by kernel_rfl)) (fun
    | [.d (.sl 3 l)] => (dec encLy l).bind fun l => some (l.length ≤ 1000 ∧ Small l, .d (.sl 3 (l.map encLy)))
    | _ => none) fun args p r h => by
    split at h
    · obtain ⟨_, hd0, h0⟩ := Option.bind_eq_some_iff.1 h; clear h; have hd0 := dec_some hd0; subst hd0
      cases h0; exact t15 _
    · cases h
@[go_sem] theorem E15_f : E15.f = 15 := rfl
@[go_sem] theorem E15_c (l : List (List D)) : E15.c [.d (.sl 3 l)] = (dec encLy l).bind fun l => some (l.length ≤ 1000 ∧ Small l, .d (.sl 3 (l.map encLy))) := rfl
end Go.Proofs.YtgnnakibcjonbaaGreatDoor.VE

/- Chapter 16: few of the law. -/
namespace Go.Proofs.YtgnnakibcjonbaaGreatDoor.VE
open Go Go.RowKit
set_option maxRecDepth 100000
set_option maxHeartbeats 2000000
set_option linter.unusedSimpArgs false
set_option linter.unusedVariables false
def chFew (c : Ch) : Bool := decide (c.name.size ≤ 50)
def fdFew (f : Fd) : Bool := decide (f.name.size ≤ 50) && (decide (f.for_.size ≤ 50) && (decide (f.choices.length ≤ 18) && f.choices.all chFew))
def lyFew (x : Ly) : Bool := decide (x.name.size ≤ 50) && (decide (x.fields.length ≤ 18) && x.fields.all fdFew)
def fewB (l : List Ly) : Bool := decide (l.length ≤ 14) && l.all lyFew
theorem all_drop {α : Type} {p : α → Bool} {xs : List α} {i : Nat} {x : α} (hx : xs[i]? = some x) : (xs.drop i).all p = (p x && (xs.drop (i + 1)).all p) := by
  obtain ⟨h, e⟩ := List.getElem?_eq_some_iff.1 hx
  rw [List.drop_eq_getElem_cons h, e, List.all_cons]
theorem all_end {α : Type} {p : α → Bool} {xs : List α} : (xs.drop xs.length).all p = true := by rw [List.drop_length]; rfl
theorem few_small {l : List Ly} (h : fewB l = true) : l.length ≤ 14 ∧ Small l := by
  simp only [fewB, Bool.and_eq_true, decide_eq_true_eq, List.all_eq_true] at h
  refine ⟨h.1, fun x hx => ?_⟩
  have h2 := h.2 x hx
  simp only [lyFew, Bool.and_eq_true, decide_eq_true_eq, List.all_eq_true] at h2
  refine ⟨by omega, fun f hf => ?_⟩
  have h3 := h2.2.2 f hf
  simp only [fdFew, Bool.and_eq_true, decide_eq_true_eq] at h3
  omega

theorem t24 (l : List Ly) : PureOk Tryz.prog 24 [.d (.sl 3 (l.map encLy))] (True) (.d (.bool (fewB l))) := by
  refine pure_fn (C := fun gm => ⟨T, gam [], dam [], plT [], ⟨gm, fun _ _ => none⟩⟩) (fun _ => tok) (fun gm => cok T _ _ _ gm) mixed Tryz.func24 rfl (Nat.le_of_ble_eq_true rfl) rfl (fun _ => rfl) (fun _ => by kernel_rfl) fun gm hp => ?_
  unfold Tryz.f24
  simp only [go_sem, ↓reduceIte, Nat.reduceEqDiff, reduceCtorEq, Nat.reduceAdd, Nat.reduceLeDiff, Nat.reduceSub, Nat.reduceMul, Nat.reduceMod, Nat.reduceLT, asD, asD1, cellDs, cellD, V.scal, D.scal, ← List.map_take, ← List.map_drop, List.drop_zero, List.map_cons, List.map_nil]
  refine ⟨fun h => ?_, fun h => ?_⟩
  · have h := of_decide_eq_true h
    have e : fewB l = false := by unfold fewB; rw [decide_eq_false (by omega)]; rfl
    rw [e]
  have h := of_decide_eq_false h
  have e : fewB l = (l.drop 0).all lyFew := by unfold fewB; rw [decide_eq_true (by omega)]; rfl
  refine loop_objs [] (by simp) (fun _ : Nat => osL []) (fun i => [(0, .d (.sl 3 (l.map encLy))), (3, .d (.int .i64 (i : Int)))]) (fun i => i ≤ l.length ∧ fewB l = (l.drop i).all lyFew) (fun i => l.length - i) 0 ⟨Nat.zero_le _, e⟩ ?_ fun i hi => ?_
  · simp only [go_sem, ↓reduceIte, Nat.reduceEqDiff, reduceCtorEq, Nat.reduceAdd, Nat.reduceLeDiff, Nat.reduceSub, Nat.reduceMul, Nat.reduceMod, Nat.reduceLT, asD, asD1, cellDs, cellD, V.scal, D.scal, ← List.map_take, ← List.map_drop, List.drop_zero, List.map_cons, List.map_nil, idxV, encLy, encFd, encCh, List.length_map, Int.toNat_natCast]
    first | rfl | exact ⟨rfl, rfl⟩
  · obtain ⟨hi1, hi2⟩ := hi
    by_cases hlt : i < l.length
    · obtain ⟨x, hx⟩ : ∃ x, l[i]? = some x := ⟨_, List.getElem?_eq_getElem hlt⟩
      have hgx : (l.map encLy).getD i [] = encLy x := by rw [List.getD_eq_getElem?_getD, List.getElem?_map, hx]; rfl
      have hle : decide ((i : Int) < (l.length : Int)) = true := decide_eq_true (by omega)
      rw [all_drop hx] at hi2
      simp only [go_sem, ↓reduceIte, Nat.reduceEqDiff, reduceCtorEq, Nat.reduceAdd, Nat.reduceLeDiff, Nat.reduceSub, Nat.reduceMul, Nat.reduceMod, Nat.reduceLT, asD, asD1, cellDs, cellD, V.scal, D.scal, ← List.map_take, ← List.map_drop, List.drop_zero, List.map_cons, List.map_nil, idxV, hgx, hle, false_implies, encLy, encFd, encCh, List.length_map, Int.toNat_natCast]
      refine ⟨⟨by omega, by omega⟩, fun a ha => ?_⟩
      obtain rfl := Option.some.inj (hx.symm.trans ha)
      refine ⟨fun h1 => ⟨h1, by omega, by omega⟩, fun h1 => by rw [h1]; rfl, fun h1 => ?_, fun h1 => ?_⟩
      · have e : lyFew x = false := by
          unfold lyFew
          by_cases c : x.name.size ≤ 50
          · have c2 : ¬ (x.fields.length ≤ 18) := fun c3 => by
              rw [decide_eq_false (show ¬ (50 : Int) < (x.name.size : Int) by omega), cond_false] at h1
              exact absurd (of_decide_eq_true h1) (by omega)
            rw [decide_eq_false c2]; simp
          · rw [decide_eq_false c]; rfl
        rw [hi2, e]; rfl
      have hs : x.name.size ≤ 50 ∧ x.fields.length ≤ 18 := by
        by_cases c : (50 : Int) < (x.name.size : Int)
        · rw [decide_eq_true c] at h1; cases h1
        · rw [decide_eq_false c, cond_false] at h1
          have := of_decide_eq_false h1
          omega
      have e : lyFew x = (x.fields.drop 0).all fdFew := by unfold lyFew; rw [decide_eq_true hs.1, decide_eq_true hs.2]; rfl
      refine loop_objs [5] (by simp) (fun _ : Nat => osL []) (fun k => [(0, .d (.sl 3 (l.map encLy))), (3, .d (.int .i64 (i : Int))), (4, .d (.int .i64 (k : Int)))]) (fun k => k ≤ x.fields.length ∧ lyFew x = (x.fields.drop k).all fdFew) (fun k => x.fields.length - k) 0 ⟨Nat.zero_le _, e⟩ ?_ fun k hk => ?_
      · simp only [go_sem, ↓reduceIte, Nat.reduceEqDiff, reduceCtorEq, Nat.reduceAdd, Nat.reduceLeDiff, Nat.reduceSub, Nat.reduceMul, Nat.reduceMod, Nat.reduceLT, asD, asD1, cellDs, cellD, V.scal, D.scal, ← List.map_take, ← List.map_drop, List.drop_zero, List.map_cons, List.map_nil, idxV, encLy, encFd, encCh, List.length_map, Int.toNat_natCast]
        first | rfl | exact ⟨rfl, rfl⟩ | exact ⟨rfl, by funext o; by_cases h5 : o = 5 <;> simp [osL, upd, h5]⟩
      · obtain ⟨hk1, hk2⟩ := hk
        by_cases hlk : k < x.fields.length
        · obtain ⟨f, hf⟩ : ∃ f, x.fields[k]? = some f := ⟨_, List.getElem?_eq_getElem hlk⟩
          have hgf : (x.fields.map encFd).getD k [] = encFd f := by rw [List.getD_eq_getElem?_getD, List.getElem?_map, hf]; rfl
          have hlf : decide ((k : Int) < (x.fields.length : Int)) = true := decide_eq_true (by omega)
          rw [all_drop hf] at hk2
          simp only [go_sem, ↓reduceIte, Nat.reduceEqDiff, reduceCtorEq, Nat.reduceAdd, Nat.reduceLeDiff, Nat.reduceSub, Nat.reduceMul, Nat.reduceMod, Nat.reduceLT, asD, asD1, cellDs, cellD, V.scal, D.scal, ← List.map_take, ← List.map_drop, List.drop_zero, List.map_cons, List.map_nil, idxV, hgx, hgf, hlf, false_implies, encLy, encFd, encCh, List.length_map, Int.toNat_natCast]
          refine ⟨⟨by omega, by omega⟩, fun a ha => ?_⟩
          obtain rfl := Option.some.inj (hx.symm.trans ha)
          refine ⟨fun _ => ⟨⟨by omega, by omega⟩, fun a ha => ?_⟩, fun h => absurd (of_decide_eq_false h) (by omega)⟩
          obtain rfl := Option.some.inj (hx.symm.trans ha)
          refine ⟨⟨by omega, by omega⟩, fun a ha => ?_⟩
          obtain rfl := Option.some.inj (hf.symm.trans ha)
          refine ⟨fun h => by rw [h]; rfl, fun h => by rw [h]; rfl, fun h2 => ?_, fun h2 => ?_⟩
          · have e : fdFew f = false := by
              unfold fdFew
              by_cases c : f.name.size ≤ 50
              · by_cases c2 : f.for_.size ≤ 50
                · have c3 : ¬ (f.choices.length ≤ 18) := fun c3 => by
                    rw [decide_eq_false (show ¬ (50 : Int) < (f.name.size : Int) by omega), cond_false, decide_eq_false (show ¬ (50 : Int) < (f.for_.size : Int) by omega), cond_false] at h2
                    exact absurd (of_decide_eq_true h2) (by omega)
                  rw [decide_eq_false c3]; simp
                · rw [decide_eq_false c2]; simp
              · rw [decide_eq_false c]; rfl
            rw [hi2, hk2, e]; rfl
          have hs : f.name.size ≤ 50 ∧ f.for_.size ≤ 50 ∧ f.choices.length ≤ 18 := by
            by_cases c : (50 : Int) < (f.name.size : Int)
            · rw [decide_eq_true c] at h2; cases h2
            · rw [decide_eq_false c, cond_false] at h2
              by_cases c2 : (50 : Int) < (f.for_.size : Int)
              · rw [decide_eq_true c2] at h2; cases h2
              · rw [decide_eq_false c2, cond_false] at h2
                have := of_decide_eq_false h2
                omega
          have e : fdFew f = (f.choices.drop 0).all chFew := by unfold fdFew; rw [decide_eq_true hs.1, decide_eq_true hs.2.1, decide_eq_true hs.2.2]; rfl
          refine loop_objs [] (by simp) (fun _ : Nat => osL [(5, .box [.d (.str f.name), .d (.int .i64 f.kind), .d (.int .i64 f.width), .d (.bool f.signed), .d (.bool f.lowFirst), .d (.int .i64 f.purpose), .d (.str f.for_), .d (.int .i64 f.of), .d (.sl 3 (f.choices.map encCh))] 49)]) (fun j => [(0, .d (.sl 3 (l.map encLy))), (3, .d (.int .i64 (i : Int))), (4, .d (.int .i64 (k : Int))), (5, .ptr 5 0), (6, .d (.int .i64 (j : Int)))]) (fun j => j ≤ f.choices.length ∧ fdFew f = (f.choices.drop j).all chFew) (fun j => f.choices.length - j) 0 ⟨Nat.zero_le _, e⟩ ?_ fun j hj => ?_
          · simp only [go_sem, ↓reduceIte, Nat.reduceEqDiff, reduceCtorEq, Nat.reduceAdd, Nat.reduceLeDiff, Nat.reduceSub, Nat.reduceMul, Nat.reduceMod, Nat.reduceLT, asD, asD1, cellDs, cellD, V.scal, D.scal, ← List.map_take, ← List.map_drop, List.drop_zero, List.map_cons, List.map_nil, idxV, encLy, encFd, encCh, List.length_map, Int.toNat_natCast]
            first | rfl | exact ⟨rfl, rfl⟩ | exact ⟨rfl, by funext o; by_cases h5 : o = 5 <;> simp [osL, upd, h5]⟩ | (funext o; by_cases h5 : o = 5 <;> simp [osL, upd, h5])
          · obtain ⟨hj1, hj2⟩ := hj
            by_cases hlj : j < f.choices.length
            · obtain ⟨c, hc⟩ : ∃ c, f.choices[j]? = some c := ⟨_, List.getElem?_eq_getElem hlj⟩
              have hgc : (f.choices.map encCh).getD j [] = encCh c := by rw [List.getD_eq_getElem?_getD, List.getElem?_map, hc]; rfl
              have hlc : decide ((j : Int) < (f.choices.length : Int)) = true := decide_eq_true (by omega)
              rw [all_drop hc] at hj2
              simp only [go_sem, ↓reduceIte, Nat.reduceEqDiff, reduceCtorEq, Nat.reduceAdd, Nat.reduceLeDiff, Nat.reduceSub, Nat.reduceMul, Nat.reduceMod, Nat.reduceLT, asD, asD1, cellDs, cellD, V.scal, D.scal, ← List.map_take, ← List.map_drop, List.drop_zero, List.map_cons, List.map_nil, idxV, hgx, hgf, hgc, hlc, false_implies, encLy, encFd, encCh, List.length_map, Int.toNat_natCast]
              refine ⟨⟨by omega, by omega⟩, fun a ha => ?_⟩
              obtain rfl := Option.some.inj (hc.symm.trans ha)
              refine ⟨fun h3 => ?_, fun h3 => ?_⟩
              · have h3 := of_decide_eq_true h3
                have e : chFew c = false := decide_eq_false (by omega)
                rw [hi2, hk2, hj2, e]; rfl
              · have h3 := of_decide_eq_false h3
                have e : chFew c = true := decide_eq_true (by omega)
                rw [e, Bool.true_and] at hj2
                exact ⟨j + 1, ⟨by omega, hj2⟩, by omega, by rw [wrap_small _ (by omega) (by omega)]; rfl⟩
            · obtain rfl : j = f.choices.length := by omega
              have hd : decide ((f.choices.length : Int) < (f.choices.length : Int)) = false := decide_eq_false (by omega)
              simp only [go_sem, ↓reduceIte, Nat.reduceEqDiff, reduceCtorEq, Nat.reduceAdd, Nat.reduceLeDiff, Nat.reduceSub, Nat.reduceMul, Nat.reduceMod, Nat.reduceLT, asD, asD1, cellDs, cellD, V.scal, D.scal, ← List.map_take, ← List.map_drop, List.drop_zero, List.map_cons, List.map_nil, idxV, hd, encLy, encFd, encCh, List.length_map, Int.toNat_natCast]
              rw [all_end] at hj2
              rw [hj2, Bool.true_and] at hk2
              exact ⟨fun h => h.elim, k + 1, ⟨by omega, hk2⟩, by omega, by rw [wrap_small _ (by omega) (by omega)]; rfl, by funext o; by_cases h5 : o = 5 <;> simp [osL, h5]⟩
        · obtain rfl : k = x.fields.length := by omega
          have hd : decide ((x.fields.length : Int) < (x.fields.length : Int)) = false := decide_eq_false (by omega)
          simp only [go_sem, ↓reduceIte, Nat.reduceEqDiff, reduceCtorEq, Nat.reduceAdd, Nat.reduceLeDiff, Nat.reduceSub, Nat.reduceMul, Nat.reduceMod, Nat.reduceLT, asD, asD1, cellDs, cellD, V.scal, D.scal, ← List.map_take, ← List.map_drop, List.drop_zero, List.map_cons, List.map_nil, idxV, hgx, hd, encLy, encFd, encCh, List.length_map, Int.toNat_natCast]
          refine ⟨⟨by omega, by omega⟩, fun a ha => ?_⟩
          obtain rfl := Option.some.inj (hx.symm.trans ha)
          rw [all_end] at hk2
          rw [hk2] at hi2
          exact ⟨fun h => absurd (of_decide_eq_true h) (by omega), fun _ => ⟨i + 1, ⟨by omega, hi2⟩, by omega, by rw [wrap_small _ (by omega) (by omega)]; rfl⟩⟩
    · obtain rfl : i = l.length := by omega
      have hd : decide ((l.length : Int) < (l.length : Int)) = false := decide_eq_false (by omega)
      simp only [go_sem, ↓reduceIte, Nat.reduceEqDiff, reduceCtorEq, Nat.reduceAdd, Nat.reduceLeDiff, Nat.reduceSub, Nat.reduceMul, Nat.reduceMod, Nat.reduceLT, asD, asD1, cellDs, cellD, V.scal, D.scal, ← List.map_take, ← List.map_drop, List.drop_zero, List.map_cons, List.map_nil, idxV, hd, encLy, encFd, encCh, List.length_map, Int.toNat_natCast]
      rw [hi2, all_end]
      exact ⟨fun h => h.elim, rfl⟩
noncomputable def E24 : Ent Tryz.prog := Ent.of 24 (fnOk Tryz.func24 rfl (by kernel_rfl)) (fun
    | [.d (.sl 3 l)] => (dec encLy l).bind fun l => some (True, .d (.bool (fewB l)))
    | _ => none) fun args p r h => by
    split at h
    · obtain ⟨_, hd0, h0⟩ := Option.bind_eq_some_iff.1 h; clear h; have hd0 := dec_some hd0; subst hd0
      cases h0; exact t24 _
    · cases h
@[go_sem] theorem E24_f : E24.f = 24 := rfl
@[go_sem] theorem E24_c (l : List (List D)) : E24.c [.d (.sl 3 l)] = (dec encLy l).bind fun l => some (True, .d (.bool (fewB l))) := rfl
end Go.Proofs.YtgnnakibcjonbaaGreatDoor.VE

/- Chapter 16: whole of the law. -/
namespace Go.Proofs.YtgnnakibcjonbaaGreatDoor.VE
open Go Go.RowKit
set_option maxRecDepth 100000
set_option linter.unusedSimpArgs false
set_option linter.unusedVariables false
/-- The index of the layout that is asked, or the error. -/
def wholeT (l : List Ly) (name : ByteArray) : Int × Int := if (checkT l).2.2 ≠ 0 then (0, (checkT l).2.2) else if idxOf (fun y => sEq y.name name) l 0 = -1 then (0, 11) else (idxOf (fun y => sEq y.name name) l 0, 0)

theorem t27 (l : List Ly) (s : ByteArray) : PureOk Tryz.prog 27 [.d (.sl 3 (l.map encLy)), .d (.str s)] (Small l ∧ l.length ≤ 1000) (.tup [.d (.int .i64 (wholeT l s).1), .d (.int .i64 (wholeT l s).2)]) := by
  refine pure_fn (C := fun gm => ⟨T, gam [E12, E13], dam [], plT [], ⟨gm, fun _ _ => none⟩⟩) (fun _ => tok) (fun gm => cok T _ _ _ gm) mixed Tryz.func27 rfl (Nat.le_of_ble_eq_true rfl) rfl (fun _ => rfl) (fun _ => by kernel_rfl) fun gm hp => ?_
  unfold Tryz.f27
  simp only [go_sem, ↓reduceIte, Nat.reduceEqDiff, reduceCtorEq, Nat.reduceAdd, Nat.reduceLeDiff, Nat.reduceSub, Nat.reduceMul, Nat.reduceMod, Nat.reduceLT]
  obtain ⟨hs, hl⟩ := hp
  refine ⟨hs, fun h => ?_, fun h => ⟨hl, fun h2 => ?_, fun h2 => ?_⟩⟩
  · have h : (checkT l).2.2 ≠ 0 := by simpa using h
    unfold wholeT
    rw [if_pos h]
    exact ⟨rfl, rfl⟩
  · have h : ¬ (checkT l).2.2 ≠ 0 := by simpa using h
    unfold wholeT
    rw [if_neg h, if_pos (by simpa using h2)]
    exact ⟨rfl, rfl⟩
  · have h : ¬ (checkT l).2.2 ≠ 0 := by simpa using h
    unfold wholeT
    rw [if_neg h, if_neg (by simpa using h2)]
    exact ⟨rfl, rfl⟩
noncomputable def E27 : Ent Tryz.prog := Ent.of 27 (fnOk Tryz.func27 rfl (by kernel_rfl)) (fun
    | [.d (.sl 3 l), .d (.str s)] => (dec encLy l).bind fun l => some (Small l ∧ l.length ≤ 1000, .tup [.d (.int .i64 (wholeT l s).1), .d (.int .i64 (wholeT l s).2)])
    | _ => none) fun args p r h => by
    split at h
    · obtain ⟨_, hd0, h0⟩ := Option.bind_eq_some_iff.1 h; clear h; have hd0 := dec_some hd0; subst hd0
      cases h0; exact t27 _ _
    · cases h
@[go_sem] theorem E27_f : E27.f = 27 := rfl
@[go_sem] theorem E27_c (l : List (List D)) (s : ByteArray) : E27.c [.d (.sl 3 l), .d (.str s)] = (dec encLy l).bind fun l => some (Small l ∧ l.length ≤ 1000, .tup [.d (.int .i64 (wholeT l s).1), .d (.int .i64 (wholeT l s).2)]) := rfl
end Go.Proofs.YtgnnakibcjonbaaGreatDoor.VE

/- Chapter 16, plain: the program's widths are those of the reference. -/
namespace Go.Proofs.YtgnnakibcjonbaaGreatDoor.VE
open Go Go.RowKit
set_option linter.unusedVariables false
set_option linter.unusedSimpArgs false
theorem right_of_idx {l : List Ly} (h : Right l) {i : Nat} {x : Ly} (hx : l[i]? = some x) : ∀ f ∈ x.fields, (0 ≤ f.kind ∧ f.kind ≤ 7) ∧ (0 ≤ f.width ∧ f.width ≤ 200) ∧ (f.kind = 0 ∨ f.kind = 4 → f.width ≠ 0) ∧ (∀ n ∈ usedOf f, 0 ≤ n ∧ n < i) ∧ (f.kind = 7 → f.choices ≠ []) := fun f hf => by
  have hw := right_width h hx f hf
  obtain ⟨j, hj⟩ := List.getElem?_of_mem hf
  obtain ⟨h1, _, hr, h2, h3⟩ := right_field hx hj (h.field i x hx j f hj)
  refine ⟨h1, hw, fun hk hz => ?_, h2, h3⟩
  unfold fieldRange at hr
  simp only [Bool.or_eq_false_iff, Bool.not_eq_false'] at hr
  have := hr.1.1
  simp only [within, Bool.and_eq_true, decide_eq_true_eq] at this
  unfold widths at this
  rcases hk with hk | hk
  · rw [if_pos hk] at this; simp only at this; omega
  · rw [if_neg (by omega), if_pos hk] at this; simp only at this; omega
/-- What the program adds is what the reference adds. -/
theorem raw_step {f : Fd} {ws : List Int} (hw : WOk ws) (hk : 0 ≤ f.kind ∧ f.kind ≤ 7) (w : 0 ≤ f.width ∧ f.width ≤ 200) (hz : f.kind = 0 ∨ f.kind = 4 → f.width ≠ 0) (hc : f.kind = 7 → f.choices ≠ []) {s : Int} (s0 : 0 ≤ s) (s1 : s ≤ mostW) :
    (if rawW f ws < 0 ∨ (isSized f = true ∧ f.kind ≠ 7) then -1 else min (s + rawW f ws) mostW) = (if fieldW f ws = -1 ∨ s = -1 then -1 else min (s + fieldW f ws) mostW) := by
  have hb := intAt_ok hw f.of
  have hm : mostW = 1099511627776 := rfl
  have hs : ¬ s = -1 := by omega
  have hk' : f.kind = 0 ∨ f.kind = 1 ∨ f.kind = 2 ∨ f.kind = 3 ∨ f.kind = 4 ∨ f.kind = 5 ∨ f.kind = 6 ∨ f.kind = 7 := by omega
  have sz : isSized f = true ↔ ((f.kind = 1 ∨ f.kind = 2 ∨ f.kind = 3 ∨ f.kind = 6) ∧ f.width = 0) ∨ f.kind = 7 := by
    simp only [isSized, isText, Bool.or_eq_true, Bool.and_eq_true, beq_iff_eq, or_assoc]
  have same : rawW f ws = fieldW f ws → 0 ≤ fieldW f ws ∨ fieldW f ws = -1 → (isSized f = true ∧ f.kind ≠ 7 → fieldW f ws = -1) → (if rawW f ws < 0 ∨ (isSized f = true ∧ f.kind ≠ 7) then -1 else min (s + rawW f ws) mostW) = (if fieldW f ws = -1 ∨ s = -1 then -1 else min (s + fieldW f ws) mostW) := fun e h0 h1 => by
    rw [e]
    by_cases c : fieldW f ws = -1
    · rw [if_pos (.inl (by omega)), if_pos (.inl c)]
    · rw [if_neg (fun h => h.elim (fun h => by omega) (fun h => c (h1 h))), if_neg (fun h => h.elim c hs)]
  have sized : isSized f = true → f.kind ≠ 7 → fieldW f ws = -1 → (if rawW f ws < 0 ∨ (isSized f = true ∧ f.kind ≠ 7) then -1 else min (s + rawW f ws) mostW) = (if fieldW f ws = -1 ∨ s = -1 then -1 else min (s + fieldW f ws) mostW) := fun a b c => by
    rw [if_pos (.inr ⟨a, b⟩), if_pos (.inl c)]
  rcases hk' with k | k | k | k | k | k | k | k
  · have e1 : fieldW f ws = f.width := by unfold fieldW; rw [if_pos (.inl k)]
    have e2 : rawW f ws = f.width := by unfold rawW; rw [if_pos (.inl k)]
    exact same (by rw [e1, e2]) (by omega) (fun h => by rw [sz] at h; omega)
  · by_cases z : f.width = 0
    · refine sized (sz.2 (by omega)) (by omega) ?_
      unfold fieldW
      rw [if_neg (by omega), if_neg (by omega), if_neg (by omega), if_pos z]
    · have e1 : fieldW f ws = f.width := by unfold fieldW; rw [if_neg (by omega), if_neg (by omega), if_neg (by omega), if_neg z, if_pos k]
      have e2 : rawW f ws = f.width := by unfold rawW; rw [if_pos (by omega)]
      exact same (by rw [e1, e2]) (by omega) (fun h => by rw [sz] at h; omega)
  · by_cases z : f.width = 0
    · refine sized (sz.2 (by omega)) (by omega) ?_
      unfold fieldW
      rw [if_neg (by omega), if_neg (by omega), if_neg (by omega), if_pos z]
    · have e1 : fieldW f ws = 8 * f.width := by unfold fieldW; rw [if_neg (by omega), if_neg (by omega), if_neg (by omega), if_neg z, if_neg (by omega), if_pos (by omega)]
      have e2 : rawW f ws = 8 * f.width := by unfold rawW; rw [if_neg (by omega), if_pos (by omega)]
      exact same (by rw [e1, e2]) (by omega) (fun h => by rw [sz] at h; omega)
  · by_cases z : f.width = 0
    · refine sized (sz.2 (by omega)) (by omega) ?_
      unfold fieldW
      rw [if_neg (by omega), if_neg (by omega), if_neg (by omega), if_pos z]
    · have e1 : fieldW f ws = 8 * f.width := by unfold fieldW; rw [if_neg (by omega), if_neg (by omega), if_neg (by omega), if_neg z, if_neg (by omega), if_pos (by omega)]
      have e2 : rawW f ws = 8 * f.width := by unfold rawW; rw [if_neg (by omega), if_pos (by omega)]
      exact same (by rw [e1, e2]) (by omega) (fun h => by rw [sz] at h; omega)
  · have e1 : fieldW f ws = f.width := by unfold fieldW; rw [if_pos (.inr k)]
    have e2 : rawW f ws = f.width := by unfold rawW; rw [if_pos (by omega)]
    exact same (by rw [e1, e2]) (by omega) (fun h => by rw [sz] at h; omega)
  · have e1 : fieldW f ws = intAt ws f.of := by unfold fieldW; rw [if_neg (by omega), if_pos k]
    have e2 : rawW f ws = intAt ws f.of := by unfold rawW; rw [if_neg (by omega), if_neg (by omega), if_pos k]
    exact same (by rw [e1, e2]) (by omega) (fun h => by rw [sz] at h; omega)
  · by_cases z : f.width = 0
    · refine sized (sz.2 (by omega)) (by omega) ?_
      unfold fieldW
      rw [if_neg (by omega), if_neg (by omega), if_neg (by omega), if_pos z]
    · have e1 : fieldW f ws = if intAt ws f.of = -1 then -1 else min (intAt ws f.of * f.width) mostW := by unfold fieldW; rw [if_neg (by omega), if_neg (by omega), if_neg (by omega), if_neg z, if_neg (by omega), if_neg (by omega)]
      have e2 : rawW f ws = if 0 ≤ intAt ws f.of then intAt ws f.of * f.width else intAt ws f.of := by unfold rawW; rw [if_neg (by omega), if_neg (by omega), if_neg (by omega), if_pos k]
      by_cases c : intAt ws f.of = -1
      · rw [if_pos c] at e1
        rw [if_neg (by omega), c] at e2
        exact same (by rw [e1, e2]) (by omega) (fun h => by rw [sz] at h; omega)
      · have c0 : 0 ≤ intAt ws f.of := by omega
        rw [if_neg c] at e1
        rw [if_pos c0] at e2
        have hp := Int.mul_nonneg c0 w.1
        rw [e1, e2, if_neg (by rw [sz]; omega), if_neg (by omega)]
        generalize intAt ws f.of * f.width = q at hp ⊢
        omega
  · have e : rawW f ws = fieldW f ws := by
      unfold rawW fieldW
      rw [if_neg (by omega), if_neg (by omega), if_neg (by omega), if_neg (by omega), if_pos k, if_neg (by omega), if_neg (by omega), if_pos k]
      cases hcs : f.choices with
      | nil => rfl
      | cons c r => simp only [List.any_cons, bne_self_eq_false, Bool.false_or]
    refine same e ?_ (fun h => absurd k h.2)
    unfold fieldW
    rw [if_neg (by omega), if_neg (by omega), if_pos k]
    cases hcs : f.choices with
    | nil => simp only; omega
    | cons c r =>
      have := intAt_ok hw c.of
      simp only
      split <;> omega
theorem raw_sum {ws : List Int} (hw : WOk ws) : ∀ (fs : List Fd), (∀ f ∈ fs, (0 ≤ f.kind ∧ f.kind ≤ 7) ∧ (0 ≤ f.width ∧ f.width ≤ 200) ∧ (f.kind = 0 ∨ f.kind = 4 → f.width ≠ 0) ∧ (f.kind = 7 → f.choices ≠ [])) → ∀ s, 0 ≤ s → s ≤ mostW → rawSum ws fs s = sumW ws fs s
  | [], _, s, _, _ => rfl
  | f :: r, hf, s, h0, h1 => by
    obtain ⟨a, b, c, d⟩ := hf f (by simp)
    have e := raw_step hw a b c d h0 h1
    have hb := rawW_ok hw b.1 b.2
    have hm : mostW = 1099511627776 := rfl
    unfold rawSum sumW
    rw [← e]
    split
    · rw [sumW_none]
    · exact raw_sum hw r (fun g hg => hf g (by simp [hg])) _ (by omega) (by omega)
/-- Only the widths that are used are looked at. -/
theorem rawW_used {f : Fd} {ws ws' : List Int} (h : ∀ n ∈ usedOf f, intAt ws n = intAt ws' n) : rawW f ws = rawW f ws' := by
  unfold usedOf at h
  unfold rawW
  split
  · rfl
  split
  · rfl
  split
  · rename_i k
    rw [if_pos (.inl k)] at h
    exact h _ (by simp)
  split
  · rename_i k
    rw [if_pos (.inr k)] at h
    rw [h _ (List.mem_singleton.2 rfl)]
  split
  · rename_i a b k
    rw [if_neg (by omega), if_pos k] at h
    cases hc : f.choices with
    | nil => rfl
    | cons c r =>
      rw [hc] at h
      have h1 := h c.of (by simp)
      have h2 : ∀ (r : List Ch), (∀ d ∈ r, intAt ws d.of = intAt ws' d.of) → (r.any fun d => intAt ws d.of != intAt ws c.of) = (r.any fun d => intAt ws' d.of != intAt ws' c.of) := by
        intro r
        induction r with
        | nil => intro _; rfl
        | cons d r ih =>
          intro hr
          rw [List.any_cons, List.any_cons, ih fun d hd => hr d (by simp [hd]), hr d (by simp), h1]
      simp only
      rw [h2 (c :: r) (fun d hd => h d.of (List.mem_map.2 ⟨d, hd, rfl⟩)), h1]
  · rfl
theorem rawSum_used {ws ws' : List Int} : ∀ (fs : List Fd), (∀ f ∈ fs, ∀ n ∈ usedOf f, intAt ws n = intAt ws' n) → ∀ s, rawSum ws fs s = rawSum ws' fs s
  | [], _, s => rfl
  | f :: r, h, s => by
    unfold rawSum
    rw [rawW_used (h f (by simp)), rawSum_used r (fun g hg => h g (by simp [hg]))]
theorem rawKnown_eq {l : List Ly} (hr : Right l) (n : Nat) : ∀ k, k ≤ n → k ≤ l.length → rawKnown l n k = wAt l k ++ List.replicate (n - k) 0
  | 0, _, _ => rfl
  | k + 1, hk, hl => by
    obtain ⟨x, hx⟩ : ∃ x, l[k]? = some x := ⟨_, List.getElem?_eq_getElem (by omega)⟩
    have ih := rawKnown_eq hr n k (by omega) (by omega)
    have hwl := wAt_len (l := l) (i := k) (by omega)
    have hw := wAt_ok hr k (by omega)
    have hf := right_of_idx hr hx
    have e : rawSum (rawKnown l n k) x.fields 0 = sumW (wAt l k) x.fields 0 := by
      rw [← raw_sum hw x.fields (fun f h => ⟨(hf f h).1, (hf f h).2.1, (hf f h).2.2.1, (hf f h).2.2.2.2⟩) 0 (by decide) (by decide)]
      refine rawSum_used _ (fun f h m hm => ?_) 0
      have := (hf f h).2.2.2.1 m hm
      unfold intAt
      rw [ih, List.getElem?_append_left (by omega)]
    rw [rawKnown, hx]
    simp only
    rw [e, ih, wAt_step hx, show n - k = (n - (k + 1)) + 1 by omega, List.replicate_succ, List.set_append_right _ _ (by omega), hwl, Nat.sub_self, List.set_cons_zero, List.append_assoc]
    rfl
theorem wAt_pre {l : List Ly} {i : Nat} : ∀ d, i + 1 + d ≤ l.length → (wAt l (i + 1 + d))[i]? = (wAt l (i + 1))[i]?
  | 0, _ => rfl
  | d + 1, h => by
    obtain ⟨x, hx⟩ : ∃ x, l[i + 1 + d]? = some x := ⟨_, List.getElem?_eq_getElem (by omega)⟩
    rw [show i + 1 + (d + 1) = (i + 1 + d) + 1 by omega, wAt_step hx, List.getElem?_append_left (by rw [wAt_len (by omega)]; omega)]
    exact wAt_pre d (by omega)
/-- The program's width of a layout is the reference's. -/
theorem width_same {l : List Ly} (hr : Right l) {i : Nat} (hi : i < l.length) : intAt (rawKnown l (i + 1) (i + 1)) (i : Int) = intAt (wAt l l.length) (i : Int) := by
  unfold intAt
  rw [Int.toNat_natCast, rawKnown_eq hr (i + 1) (i + 1) (Nat.le_refl _) (by omega), Nat.sub_self]
  have := wAt_pre (l := l) (i := i) (l.length - (i + 1)) (by omega)
  rw [show i + 1 + (l.length - (i + 1)) = l.length by omega] at this
  rw [this]
  simp
theorem place_whole (l : List Ly) (name : ByteArray) : placeT l name = wholeT l name := by
  unfold placeT wholeT
  by_cases h : (checkT l).2.2 = 0
  · rw [if_pos h, if_neg (show ¬ (checkT l).2.2 ≠ 0 from fun c => c h)]
    rcases idxOf_ge (p := fun x : Ly => sEq x.name name) (xs := l) (k := 0) with g | ⟨g1, g2⟩
    · rw [g]; rfl
    · rw [if_neg (by omega), if_neg (by omega)]
  · rw [if_neg h, if_pos h]
/-- What WidthIn says, by the reference. -/
theorem widthIn_eq (l : List Ly) (name : ByteArray) : widthInT l name = if (wholeT l name).2 = 0 then (if intAt (wAt l l.length) (wholeT l name).1 = -1 then (0, 23) else (intAt (wAt l l.length) (wholeT l name).1, 0)) else (0, (wholeT l name).2) := by
  unfold widthInT
  rw [← place_whole]
  by_cases h : (placeT l name).2 = 0
  · obtain ⟨hr, p0, p1, _⟩ := placeT_ok h
    obtain ⟨i, hi⟩ := Int.eq_ofNat_of_zero_le p0
    rw [if_pos h, if_pos h, hi, Int.toNat_natCast, width_same hr (by omega)]
    have := intAt_ok (wAt_ok hr l.length (Nat.le_refl _)) (i : Int)
    by_cases c : intAt (wAt l l.length) (i : Int) = -1
    · rw [if_pos (by omega), if_pos c]
    · rw [if_neg (by omega), if_neg c]
  · rw [if_neg h, if_neg h]
end Go.Proofs.YtgnnakibcjonbaaGreatDoor.VE
