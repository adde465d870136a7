-- Laid by pp.py (a program of this session, over the kit's printer) out of the translation. Not trusted: Lean checks it.
import Derived.Test.YtgflelipamofoaaPAx0
import Derived.Test.YtgflelipamofoaaPAx2
import Derived.Test.YtgflelipamofoaaPAx3
namespace Go.Proofs.Ytgflelipamofoaa.PA
open Go.RowKit Go.Proofs.YtgflelipamofoaaW.PrintWords Go.Proofs.YtgflelipamofoaaW.PrintLast Go.Proofs.YtgflelipamofoaaW.PrintMore
attribute [local go_sem] max2_int min2_int max_two min_two max_three min_three max_four min_four   -- for this text's walks alone
set_option linter.unusedVariables false
set_option linter.unusedSimpArgs false

/-! ### examinerlaw43_writes: function 28 -/
def examinerlaw43_writes.f (l0 : List (S97)) : Option ((List (S97))) := (some (([] : List (S97)) : List (S97))).bind fun y326 => (if y326.length + l0.length < 5864062014805 then (some (y326 ++ l0)) else (none))
set_option maxHeartbeats 8000000 in
set_option maxRecDepth 100000 in
theorem examinerlaw43_writes.calls (A0 : Option Addr) (c0 : Nat) (l0 : List (S97)) (r : List (S97)) (w : World) (hr0 : Kd.C k97 w A0 l0.length l0) (hc0 : l0.length ≤ c0) (h : examinerlaw43_writes.f l0 = some r) :
    Calls Try.prog 28 #[.slice A0 l0.length c0] w fun e w' => ∃ v0_ : Value, e = .returned (v0_) ∧ Kd.R k97 97 w' w.heap.size (fun _ => True) v0_ r ∧ Below w.heap.size w w' := by
  have HR0 := Aside0.mk hr0
  have HC0 := Aside0.mk hc0
  clear hr0 hc0
  have HB := Aside0.mk (Below.refl w.heap.size w)
  have H : ((some (([] : List (S97)) : List (S97))).bind fun y326 => (if y326.length + l0.length < 5864062014805 then (some (y326 ++ l0)) else (none))) = some r := h
  clear h
  obtain ⟨y326, hy326⟩ : ∃ y_ : List (S97), y_ = (([] : List (S97))) := ⟨_, rfl⟩
  replace H : (if y326.length + l0.length < 5864062014805 then (some (y326 ++ l0)) else (none)) = some r := by first | (rw [hy326]; with_reducible exact H) | (have H2_ := (Option.bind_some _ _).symm.trans H; rw [hy326]; with_reducible exact H2_) | (have H2_ := (Option.bind_some _ _).symm.trans H; with_reducible exact H2_) | with_reducible exact H | (rw [hy326]; exact H) | exact H
  have Ny326 := Aside0.mk hy326
  clear hy326
  by_cases c2 : y326.length + l0.length < 5864062014805
  · rw [if_pos c2] at H
    have LMc2 := Aside0.mk c2
    clear c2
    obtain ⟨y329, hy329⟩ : ∃ y_ : List (S97), y_ = (y326 ++ l0) := ⟨_, rfl⟩
    replace H : (some y329) = some r := by first | (rw [hy329]; with_reducible exact H) | (have H2_ := (Option.bind_some _ _).symm.trans H; rw [hy329]; with_reducible exact H2_) | (have H2_ := (Option.bind_some _ _).symm.trans H; with_reducible exact H2_) | with_reducible exact H | (rw [hy329]; exact H) | exact H
    have Ny329 := Aside0.mk hy329
    clear hy329
    obtain rfl := Option.some.inj H
    go_enter Try.func28, Try.ntmps28
    go_wp2_with (first | ((with_reducible refine gate_dst (N := 3) rfl ?_); refine Kd.R_lit k97 _ 97 ?hg (N := 3) ?hd (xs := ([] : List (S97))) (inner := []) (ok := fun _ => True) (okp := fun _ => True) ?hr ?hp (fun _ hk => hk) trivial (Below.refl _ _) (Nat.le_refl _) (by simp) ?_; (case hd => rfl); (case hg => rfl); (case hr => first | (go_simp; done) | (go_simp; rfl)); (case hp => exact (Reps.none _ _)); intro v327 w3 ho4 hb hg_ hnew_; clear hg_ hnew_; (first | rw [← Ny326.out] at ho4 | (simp only [Int.reduceToNat] at ho4; rw [← Ny326.out] at ho4)); have n0_ := Aside0.mk (Kd.R_lower ho4 (below_size (by repeat (first | (with_reducible first | exact HB.out | apply below_alloc | apply pw_below_drewN | apply below_drew1) | exact HB.out)))); have n1_ := Aside0.mk (below_step (by repeat (first | (with_reducible first | exact HB.out | apply below_alloc | apply pw_below_drewN | apply below_drew1) | exact HB.out)) hb); clear HB; have HO328 := n0_; have HB := n1_; clear n0_ n1_; clear hb ho4) | ((with_reducible refine gate_builtin (b := .append) (xs := #[.tmp 3, .tmp 4]) rfl ?_); at_builtin; refine Kd.R_append_rows k97 (w0 := w) w.heap.size rfl (.tmp 3) (.tmp 4) 62 97 (.agg #[(.int .i64 0), (.string ⟨#[]⟩)]) 24 rfl Try.underlying62 info97 rfl (by decide) (by omega) v327 y326 l0 _ _ _ (fun _ => True) (fun _ => False) rfl rfl ?aO ?aR (fun _ _ h => h) (fun _ h => h.elim) ?aF ?aB ?aS ?aL ?_; (case aR => repeat (first | exact (Kd.C_below HR0.out HB.out) | (with_reducible refine Kd.C_alloc ?_ _) | (with_reducible refine Kd.C_drewN ?_ _) | (with_reducible refine Kd.C_drew ?_))); (case aB => exact (by repeat (first | (with_reducible first | exact HB.out | apply below_alloc | apply pw_below_drewN | apply below_drew1) | exact HB.out))); (case aF => exact (fun _ _ => trivial)); (case aO => exact (by (with_reducible repeat (first | apply Kd.R_alloc | apply Kd.R_drewN | apply Kd.R_drew)); exact HO328.out)); (case aS => exact (below_size (by repeat (first | (with_reducible first | exact HB.out | apply below_alloc | apply pw_below_drewN | apply below_drew1) | exact HB.out)))); (case aL => have := LMc2.out; omega); intro v330 w5 ho hb hg hat; rw [← Ny329.out] at ho; have n0_ := Aside0.mk (hb); have n1_ := Aside0.mk (ho); clear HB; clear HO328; have HB := n0_; have HO331 := n1_; clear n0_ n1_; clear ho hb hg hat))
    go_ret
    exact ⟨_, by first | rfl | (simp [errW_none, errW_some] <;> rfl) | (simp [*, errW_none, errW_some] <;> rfl), by (with_reducible repeat (first | apply Kd.R_alloc | apply Kd.R_drewN | apply Kd.R_drew)); exact HO331.out, by repeat (first | (with_reducible first | exact HB.out | apply below_alloc | apply pw_below_drewN | apply below_drew1) | exact HB.out)⟩
  · rw [if_neg c2] at H
    exact absurd H (by simp)

/-! ### examinerbase_OwnInts: function 29 -/
def examinerbase_OwnInts.f (l0 : List Int) : Option (List Int) := (some (([] : List Int) : List Int)).bind fun y332 => (if y332.length + l0.length < 17592186044416 then (some (y332 ++ l0)) else (none))
set_option maxHeartbeats 8000000 in
set_option maxRecDepth 100000 in
theorem examinerbase_OwnInts.calls (A0 : Option Addr) (c0 : Nat) (l0 : List Int) (r : List Int) (w : World) (hr0 : Kd.C (Kd.int .i64) w A0 l0.length l0) (hc0 : l0.length ≤ c0) (h : examinerbase_OwnInts.f l0 = some r) :
    Calls Try.prog 29 #[.slice A0 l0.length c0] w fun e w' => ∃ v0_ : Value, e = .returned (v0_) ∧ Kd.R (Kd.int .i64) 3 w' w.heap.size (fun _ => True) v0_ r ∧ Below w.heap.size w w' := by
  have HR0 := Aside0.mk hr0
  have HC0 := Aside0.mk hc0
  clear hr0 hc0
  have HB := Aside0.mk (Below.refl w.heap.size w)
  have H : ((some (([] : List Int) : List Int)).bind fun y332 => (if y332.length + l0.length < 17592186044416 then (some (y332 ++ l0)) else (none))) = some r := h
  clear h
  obtain ⟨y332, hy332⟩ : ∃ y_ : List Int, y_ = (([] : List Int)) := ⟨_, rfl⟩
  replace H : (if y332.length + l0.length < 17592186044416 then (some (y332 ++ l0)) else (none)) = some r := by first | (rw [hy332]; with_reducible exact H) | (have H2_ := (Option.bind_some _ _).symm.trans H; rw [hy332]; with_reducible exact H2_) | (have H2_ := (Option.bind_some _ _).symm.trans H; with_reducible exact H2_) | with_reducible exact H | (rw [hy332]; exact H) | exact H
  have Ny332 := Aside0.mk hy332
  clear hy332
  by_cases c2 : y332.length + l0.length < 17592186044416
  · rw [if_pos c2] at H
    have LMc2 := Aside0.mk c2
    clear c2
    obtain ⟨y335, hy335⟩ : ∃ y_ : List Int, y_ = (y332 ++ l0) := ⟨_, rfl⟩
    replace H : (some y335) = some r := by first | (rw [hy335]; with_reducible exact H) | (have H2_ := (Option.bind_some _ _).symm.trans H; rw [hy335]; with_reducible exact H2_) | (have H2_ := (Option.bind_some _ _).symm.trans H; with_reducible exact H2_) | with_reducible exact H | (rw [hy335]; exact H) | exact H
    have Ny335 := Aside0.mk hy335
    clear hy335
    obtain rfl := Option.some.inj H
    go_enter Try.func29, Try.ntmps29
    go_wp2_with (first | ((with_reducible refine gate_dst (N := 3) rfl ?_); refine Kd.R_lit (Kd.int .i64) _ 3 ?hg (N := 3) ?hd (xs := ([] : List Int)) (inner := []) (ok := fun _ => True) (okp := fun _ => True) ?hr ?hp (fun _ hk => hk) trivial (Below.refl _ _) (Nat.le_refl _) (by simp) ?_; (case hd => rfl); (case hg => rfl); (case hr => first | (go_simp; done) | (go_simp; rfl)); (case hp => exact (Reps.none _ _)); intro v333 w3 ho4 hb hg_ hnew_; clear hg_ hnew_; (first | rw [← Ny332.out] at ho4 | (simp only [Int.reduceToNat] at ho4; rw [← Ny332.out] at ho4)); have n0_ := Aside0.mk (Kd.R_lower ho4 (below_size (by repeat (first | (with_reducible first | exact HB.out | apply below_alloc | apply pw_below_drewN | apply below_drew1) | exact HB.out)))); have n1_ := Aside0.mk (below_step (by repeat (first | (with_reducible first | exact HB.out | apply below_alloc | apply pw_below_drewN | apply below_drew1) | exact HB.out)) hb); clear HB; have HO334 := n0_; have HB := n1_; clear n0_ n1_; clear hb ho4) | ((with_reducible refine gate_builtin (b := .append) (xs := #[.tmp 3, .tmp 4]) rfl ?_); at_builtin; refine Kd.R_append_rows (Kd.int .i64) (w0 := w) w.heap.size rfl (.tmp 3) (.tmp 4) 48 3 (.int .i64 0) 8 rfl Try.underlying48 info3 rfl (by decide) (by omega) v333 y332 l0 _ _ _ (fun _ => True) (fun _ => False) rfl rfl ?aO ?aR (fun _ _ h => h) (fun _ h => h.elim) ?aF ?aB ?aS ?aL ?_; (case aR => repeat (first | exact (Kd.C_below HR0.out HB.out) | (with_reducible refine Kd.C_alloc ?_ _) | (with_reducible refine Kd.C_drewN ?_ _) | (with_reducible refine Kd.C_drew ?_))); (case aB => exact (by repeat (first | (with_reducible first | exact HB.out | apply below_alloc | apply pw_below_drewN | apply below_drew1) | exact HB.out))); (case aF => exact (fun _ _ => trivial)); (case aO => exact (by (with_reducible repeat (first | apply Kd.R_alloc | apply Kd.R_drewN | apply Kd.R_drew)); exact HO334.out)); (case aS => exact (below_size (by repeat (first | (with_reducible first | exact HB.out | apply below_alloc | apply pw_below_drewN | apply below_drew1) | exact HB.out)))); (case aL => have := LMc2.out; omega); intro v336 w5 ho hb hg hat; rw [← Ny335.out] at ho; have n0_ := Aside0.mk (hb); have n1_ := Aside0.mk (ho); clear HB; clear HO334; have HB := n0_; have HO337 := n1_; clear n0_ n1_; clear ho hb hg hat))
    go_ret
    exact ⟨_, by first | rfl | (simp [errW_none, errW_some] <;> rfl) | (simp [*, errW_none, errW_some] <;> rfl), by (with_reducible repeat (first | apply Kd.R_alloc | apply Kd.R_drewN | apply Kd.R_drew)); exact HO337.out, by repeat (first | (with_reducible first | exact HB.out | apply below_alloc | apply pw_below_drewN | apply below_drew1) | exact HB.out)⟩
  · rw [if_neg c2] at H
    exact absurd H (by simp)

/-! ### examinerref43_JournalErr: function 51 -/
def examinerref43_JournalErr.f (a0 : ByteArray) : Option (Int) := if ((a0.size : Int) % 32) = 0 then (if (a0.size : Int) > 1536 then (some 2) else (some 0)) else (some 19)
set_option maxHeartbeats 8000000 in
set_option maxRecDepth 100000 in
theorem examinerref43_JournalErr.calls (a0 : ByteArray) (r : Int) (w : World) (h : examinerref43_JournalErr.f a0 = some r) :
    Calls Try.prog 51 #[.string a0] w fun e w' => e = .returned (.int .i64 r) ∧ Drawn0 w w' := by
  have H : (if ((a0.size : Int) % 32) = 0 then (if (a0.size : Int) > 1536 then (some 2) else (some 0)) else (some 19)) = some r := h
  clear h
  by_cases c2 : ((a0.size : Int) % 32) = 0
  · rw [if_pos c2] at H
    have c2b0 : (((a0.size : Int) % 32) == 0) = true := beq_iff_eq.mpr c2
    have c2b1 : (((a0.size : Int) % 32) != 0) = false := bne_eq_false_iff_eq.mpr c2
    clear c2
    by_cases c3 : (a0.size : Int) > 1536
    · rw [if_pos c3] at H
      have c3b0 : decide (1536 < (a0.size : Int)) = true := decide_eq_true c3
      have c3b1 : decide (1536 < a0.size) = true := decide_eq_true (by omega)
      clear c3
      obtain rfl := Option.some.inj H
      go_enter Try.func51, Try.ntmps51
      go_wp2
      go_ret
      exact ⟨by first | rfl | (simp; done) | (simp [*]; done), by repeat (first | exact Drawn0.refl _ | apply Drawn0.step)⟩
    · rw [if_neg c3] at H
      have c3b0 : decide (1536 < (a0.size : Int)) = false := decide_eq_false c3
      have c3b1 : decide (1536 < a0.size) = false := decide_eq_false (by omega)
      clear c3
      obtain rfl := Option.some.inj H
      go_enter Try.func51, Try.ntmps51
      go_wp2
      go_ret
      exact ⟨by first | rfl | (simp; done) | (simp [*]; done), by repeat (first | exact Drawn0.refl _ | apply Drawn0.step)⟩
  · rw [if_neg c2] at H
    have c2b0 : (((a0.size : Int) % 32) == 0) = false := beq_eq_false_iff_ne.mpr c2
    have c2b1 : (((a0.size : Int) % 32) != 0) = true := bne_iff_ne.mpr c2
    obtain rfl := Option.some.inj H
    go_enter Try.func51, Try.ntmps51
    go_wp2
    go_ret
    exact ⟨by first | rfl | (simp; done) | (simp [*]; done), by repeat (first | exact Drawn0.refl _ | apply Drawn0.step)⟩

/-! ### examinerref43_WritesErr: function 30 -/
mutual
def examinerref43_WritesErr.l0 : Nat → List (S97) → List Int → Int → Option (Int)
  | 0, _, _, _ => none
  | k + 1, x1, x2, x8 => if x8 < (x1.length : Int) then (if 0 ≤ x8 then ((examinerbase_Within.f ((rd_T97 x1 x8).f0) 0 47).bind fun t340 => (if t340 = true then (if (((rd_T97 x1 x8).f1).size : Int) = 32 then (examinerref43_WritesErr.l0 k x1 x2 (wrap64 (x8 + 1))) else (some 19)) else (some 3))) else (none)) else (if (x2.length : Int) = (x1.length : Int) then (examinerref43_WritesErr.l1 k x2 0) else (some 6))
def examinerref43_WritesErr.l1 : Nat → List Int → Int → Option (Int)
  | 0, _, _ => none
  | k + 1, x2, x9 => if x9 < (x2.length : Int) then (if 0 ≤ x9 then ((examinerbase_Within.f (rd x2 x9) 0 32).bind fun t343 => (if t343 = true then (examinerref43_WritesErr.l1 k x2 (wrap64 (x9 + 1))) else (some 3))) else (none)) else (some 0)
end
def examinerref43_WritesErr.f (k : Nat) (a0 : ByteArray) (l1 : List (S97)) (l2 : List Int) : Option (Int) := (examinerref43_JournalErr.f a0).bind fun t338 => (if t338 = 0 then (if (l1.length : Int) > 96 then (some 2) else (examinerref43_WritesErr.l0 k l1 l2 0)) else (some t338))
theorem examinerref43_WritesErr.mono_l : ∀ k, (∀ y0 y1 y2, LeO (examinerref43_WritesErr.l0 k y0 y1 y2) (examinerref43_WritesErr.l0 (k + 1) y0 y1 y2)) ∧ (∀ y0 y1, LeO (examinerref43_WritesErr.l1 k y0 y1) (examinerref43_WritesErr.l1 (k + 1) y0 y1))
  | 0 => ⟨fun _ _ _ r h => by simp [examinerref43_WritesErr.l0] at h, fun _ _ r h => by simp [examinerref43_WritesErr.l1] at h⟩
  | k + 1 => by
    obtain ⟨ih0, ih1⟩ := examinerref43_WritesErr.mono_l k
    refine ⟨?_, ?_⟩
    · intro y0 y1 y2
      unfold examinerref43_WritesErr.l0
      repeat' first
      | (with_reducible exact ih0 _ _ _)
      | (with_reducible exact ih1 _ _)
      | (with_reducible exact LeO.refl _)
      | (with_reducible exact LeO.none _)
      | (with_reducible refine LeO.ite ?_ ?_)
      | (with_reducible refine LeO.bind ?_ (fun _ => ?_))
      | exact ih0 _ _ _
      | exact ih1 _ _
      | exact LeO.none _
      | refine LeO.ite ?_ ?_
      | refine LeO.bind ?_ (fun _ => ?_)
    · intro y0 y1
      unfold examinerref43_WritesErr.l1
      repeat' first
      | (with_reducible exact ih0 _ _ _)
      | (with_reducible exact ih1 _ _)
      | (with_reducible exact LeO.refl _)
      | (with_reducible exact LeO.none _)
      | (with_reducible refine LeO.ite ?_ ?_)
      | (with_reducible refine LeO.bind ?_ (fun _ => ?_))
      | exact ih0 _ _ _
      | exact ih1 _ _
      | exact LeO.none _
      | refine LeO.ite ?_ ?_
      | refine LeO.bind ?_ (fun _ => ?_)
theorem examinerref43_WritesErr.mono : ∀ a0 a1 a2 k, LeO (examinerref43_WritesErr.f k a0 a1 a2) (examinerref43_WritesErr.f (k + 1) a0 a1 a2) := by
  intro a0 a1 a2 k
  obtain ⟨ih0, ih1⟩ := examinerref43_WritesErr.mono_l k
  unfold examinerref43_WritesErr.f
  repeat' first
      | (with_reducible exact ih0 _ _ _)
      | (with_reducible exact ih1 _ _)
      | (with_reducible exact LeO.refl _)
      | (with_reducible exact LeO.none _)
      | (with_reducible refine LeO.ite ?_ ?_)
      | (with_reducible refine LeO.bind ?_ (fun _ => ?_))
      | exact ih0 _ _ _
      | exact ih1 _ _
      | exact LeO.none _
      | refine LeO.ite ?_ ?_
      | refine LeO.bind ?_ (fun _ => ?_)
set_option maxHeartbeats 8000000 in
set_option maxRecDepth 100000 in
theorem examinerref43_WritesErr.calls (k : Nat) (a0 : ByteArray) (A1 : Option Addr) (c1 : Nat) (l1 : List (S97)) (A2 : Option Addr) (c2 : Nat) (l2 : List Int) (r : Int) (w : World) (hr1 : Kd.C k97 w A1 l1.length l1) (hc1 : l1.length ≤ c1) (hr2 : Kd.C (Kd.int .i64) w A2 l2.length l2) (hc2 : l2.length ≤ c2) (h : examinerref43_WritesErr.f k a0 l1 l2 = some r) :
    Calls Try.prog 30 #[.string a0, .slice A1 l1.length c1, .slice A2 l2.length c2] w fun e w' => e = .returned (.int .i64 r) ∧ Drawn0 w w' := by
  have HR1 := Aside0.mk hr1
  have HC1 := Aside0.mk hc1
  clear hr1 hc1
  have HR2 := Aside0.mk hr2
  have HC2 := Aside0.mk hc2
  clear hr2 hc2
  have H : ((examinerref43_JournalErr.f a0).bind fun t338 => (if t338 = 0 then (if (l1.length : Int) > 96 then (some 2) else (examinerref43_WritesErr.l0 k l1 l2 0)) else (some t338))) = some r := h
  clear h
  replace H := Option.bind_eq_some_iff.mp H
  obtain ⟨t338, A40, H⟩ := H
  replace H : (if t338 = 0 then (if (l1.length : Int) > 96 then (some 2) else (examinerref43_WritesErr.l0 k l1 l2 0)) else (some t338)) = some r := H
  have A4 := Aside0.mk A40
  clear A40
  by_cases c5 : t338 = 0
  · rw [if_pos c5] at H
    have c5b0 : (t338 == 0) = true := beq_iff_eq.mpr c5
    have c5b1 : (t338 != 0) = false := bne_eq_false_iff_eq.mpr c5
    clear c5
    by_cases c6 : (l1.length : Int) > 96
    · rw [if_pos c6] at H
      have c6b0 : decide (96 < (l1.length : Int)) = true := decide_eq_true c6
      have c6b1 : decide (96 < l1.length) = true := decide_eq_true (by omega)
      clear c6
      obtain rfl := Option.some.inj H
      go_enter Try.func30, Try.ntmps30
      go_wp2_with (first | ((with_reducible refine gate_callee (f := 51) rfl ?_); refine goesL_ (some 11) rfl rfl Try.func51 (by kernel_rfl) rfl #[.string a0] rfl (by (try simp only [List.map_toArray, List.map_cons, List.map_nil]); first | done | rfl | (simp only [List.length_drop, List.length_take]; rfl)) ?_; (with_reducible refine (examinerref43_JournalErr.calls a0 t338 _ A4.out).mono ?_); rintro e w' ⟨rfl, ⟨nd, rfl⟩⟩; refine ⟨_, rfl, ?_⟩))
      go_ret
      exact ⟨by first | rfl | (simp; done) | (simp [*]; done), by repeat (first | exact Drawn0.refl _ | apply Drawn0.step)⟩
    · rw [if_neg c6] at H
      have c6b0 : decide (96 < (l1.length : Int)) = false := decide_eq_false c6
      have c6b1 : decide (96 < l1.length) = false := decide_eq_false (by omega)
      clear c6
      have H' := Aside0.mk H
      clear H
      go_enter Try.func30, Try.ntmps30
      go_wp2_with (first | ((with_reducible refine gate_callee (f := 51) rfl ?_); refine goesL_ (some 11) rfl rfl Try.func51 (by kernel_rfl) rfl #[.string a0] rfl (by (try simp only [List.map_toArray, List.map_cons, List.map_nil]); first | done | rfl | (simp only [List.length_drop, List.length_take]; rfl)) ?_; (with_reducible refine (examinerref43_JournalErr.calls a0 t338 _ A4.out).mono ?_); rintro e w' ⟨rfl, ⟨nd, rfl⟩⟩; refine ⟨_, rfl, ?_⟩))
      go_loopg [8] k (fun kq v8 w' => ∃ (x8_1 : Int), v8 = .int .i64 x8_1 ∧ Aside0 (examinerref43_WritesErr.l0 kq l1 l2 x8_1 = some r) ∧ Aside0 (kq ≤ k) ∧ Drawn0 w w')
      case atStart => exact ⟨(0), (by first | rfl | (simp; done) | (simp [*]; done)), H', ⟨Nat.le_refl _⟩, by repeat (first | exact Drawn0.refl _ | apply Drawn0.step)⟩
      case round =>
        clear H'
        try clear c1
        try clear c2
        try clear p2
        try clear c3
        try clear c5
        try clear c5b0
        try clear c5b1
        try clear c6
        try clear c6b0
        try clear c6b1
        obtain ⟨x8_1, rfl, HA, HK1, ⟨m1, rfl⟩⟩ := hrel
        cases gk with
        | zero => exact absurd HA.out (by simp [examinerref43_WritesErr.l0])
        | succ k1 =>
          have H := HA.out
          clear HA
          simp only [examinerref43_WritesErr.l0] at H
          by_cases c7 : x8_1 < (l1.length : Int)
          · rw [if_pos c7] at H
            have c7b0 : decide (x8_1 < (l1.length : Int)) = true := decide_eq_true c7
            clear c7
            by_cases c8 : 0 ≤ x8_1
            · rw [if_pos c8] at H
              have c8b0 : decide (0 ≤ x8_1) = true := decide_eq_true c8
              clear c8
              replace H := Option.bind_eq_some_iff.mp H
              obtain ⟨t340, A90, H⟩ := H
              replace H : (if t340 = true then (if (((rd_T97 l1 x8_1).f1).size : Int) = 32 then (examinerref43_WritesErr.l0 k1 l1 l2 (wrap64 (x8_1 + 1))) else (some 19)) else (some 3)) = some r := H
              have A9 := Aside0.mk A90
              clear A90
              by_cases c10 : t340 = true
              · subst c10
                have H1 : (if (((rd_T97 l1 x8_1).f1).size : Int) = 32 then (examinerref43_WritesErr.l0 k1 l1 l2 (wrap64 (x8_1 + 1))) else (some 19)) = some r := by rw [if_pos rfl] at H; exact H
                clear H
                have H := H1
                clear H1
                by_cases c11 : (((rd_T97 l1 x8_1).f1).size : Int) = 32
                · rw [if_pos c11] at H
                  have c11b0 : ((((rd_T97 l1 x8_1).f1).size : Int) == 32) = true := beq_iff_eq.mpr c11
                  have c11b1 : ((((rd_T97 l1 x8_1).f1).size : Int) != 32) = false := bne_eq_false_iff_eq.mpr c11
                  clear c11
                  have H' := Aside0.mk H
                  clear H
                  have p339 : 0 ≤ (x8_1 : Int) := of_decide_eq_true (by first | (with_reducible assumption) | assumption)
                  have q339 : x8_1 < (l1.length : Int) := of_decide_eq_true (by first | (with_reducible assumption) | assumption)
                  obtain ⟨ad339, e339, hx339_0, hx339_1⟩ := at_T97 HR1.out x8_1 p339 q339
                  cases e339
                  replace p339 := eq_true p339
                  replace q339 := eq_true q339
                  go_wp2_with (first | ((with_reducible refine gate_callee (f := 40) rfl ?_); refine goesL_ (some 29) rfl rfl Try.func40 (by kernel_rfl) rfl #[.int .i64 ((rd_T97 l1 x8_1).f0), .int .i64 0, .int .i64 47] rfl (by (try simp only [List.map_toArray, List.map_cons, List.map_nil]); first | done | rfl | (simp only [List.length_drop, List.length_take]; rfl)) ?_; (with_reducible refine (examinerbase_Within.calls ((rd_T97 l1 x8_1).f0) 0 47 true _ A9.out).mono ?_); rintro e w' ⟨rfl, ⟨nd, rfl⟩⟩; refine ⟨_, rfl, ?_⟩; have p341 : 0 ≤ (x8_1 : Int) := of_decide_eq_true (by first | (with_reducible assumption) | assumption); have q341 : x8_1 < (l1.length : Int) := of_decide_eq_true (by first | (with_reducible assumption) | assumption); obtain ⟨ad341, e341, hx341_0, hx341_1⟩ := at_T97 HR1.out x8_1 p341 q341; obtain rfl : ad339 = ad341 := (by injection e341); replace p341 := eq_true p341; replace q341 := eq_true q341))
                  go_roundg k1
                  case measure => have := HK1.out; omega
                  case rel => exact ⟨(wrap64 (x8_1 + 1)), (by first | rfl | (simp; done) | (simp [*]; done)), H', ⟨by have := HK1.out; omega⟩, by repeat (first | exact Drawn0.refl _ | apply Drawn0.step)⟩
                · rw [if_neg c11] at H
                  have c11b0 : ((((rd_T97 l1 x8_1).f1).size : Int) == 32) = false := beq_eq_false_iff_ne.mpr c11
                  have c11b1 : ((((rd_T97 l1 x8_1).f1).size : Int) != 32) = true := bne_iff_ne.mpr c11
                  obtain rfl := Option.some.inj H
                  have p339 : 0 ≤ (x8_1 : Int) := of_decide_eq_true (by first | (with_reducible assumption) | assumption)
                  have q339 : x8_1 < (l1.length : Int) := of_decide_eq_true (by first | (with_reducible assumption) | assumption)
                  obtain ⟨ad339, e339, hx339_0, hx339_1⟩ := at_T97 HR1.out x8_1 p339 q339
                  cases e339
                  replace p339 := eq_true p339
                  replace q339 := eq_true q339
                  go_wp2_with (first | ((with_reducible refine gate_callee (f := 40) rfl ?_); refine goesL_ (some 29) rfl rfl Try.func40 (by kernel_rfl) rfl #[.int .i64 ((rd_T97 l1 x8_1).f0), .int .i64 0, .int .i64 47] rfl (by (try simp only [List.map_toArray, List.map_cons, List.map_nil]); first | done | rfl | (simp only [List.length_drop, List.length_take]; rfl)) ?_; (with_reducible refine (examinerbase_Within.calls ((rd_T97 l1 x8_1).f0) 0 47 true _ A9.out).mono ?_); rintro e w' ⟨rfl, ⟨nd, rfl⟩⟩; refine ⟨_, rfl, ?_⟩; have p341 : 0 ≤ (x8_1 : Int) := of_decide_eq_true (by first | (with_reducible assumption) | assumption); have q341 : x8_1 < (l1.length : Int) := of_decide_eq_true (by first | (with_reducible assumption) | assumption); obtain ⟨ad341, e341, hx341_0, hx341_1⟩ := at_T97 HR1.out x8_1 p341 q341; obtain rfl : ad339 = ad341 := (by injection e341); replace p341 := eq_true p341; replace q341 := eq_true q341))
                  go_ret
                  exact ⟨by first | rfl | (simp; done) | (simp [*]; done), by repeat (first | exact Drawn0.refl _ | apply Drawn0.step)⟩
              · replace c10 := Bool.eq_false_iff.mpr c10
                subst c10
                have H1 : (some 3) = some r := by rw [if_neg (show ¬ (false = true) by decide)] at H; exact H
                clear H
                have H := H1
                clear H1
                obtain rfl := Option.some.inj H
                have p339 : 0 ≤ (x8_1 : Int) := of_decide_eq_true (by first | (with_reducible assumption) | assumption)
                have q339 : x8_1 < (l1.length : Int) := of_decide_eq_true (by first | (with_reducible assumption) | assumption)
                obtain ⟨ad339, e339, hx339_0, hx339_1⟩ := at_T97 HR1.out x8_1 p339 q339
                cases e339
                replace p339 := eq_true p339
                replace q339 := eq_true q339
                go_wp2_with (first | ((with_reducible refine gate_callee (f := 40) rfl ?_); refine goesL_ (some 29) rfl rfl Try.func40 (by kernel_rfl) rfl #[.int .i64 ((rd_T97 l1 x8_1).f0), .int .i64 0, .int .i64 47] rfl (by (try simp only [List.map_toArray, List.map_cons, List.map_nil]); first | done | rfl | (simp only [List.length_drop, List.length_take]; rfl)) ?_; (with_reducible refine (examinerbase_Within.calls ((rd_T97 l1 x8_1).f0) 0 47 false _ A9.out).mono ?_); rintro e w' ⟨rfl, ⟨nd, rfl⟩⟩; refine ⟨_, rfl, ?_⟩))
                go_ret
                exact ⟨by first | rfl | (simp; done) | (simp [*]; done), by repeat (first | exact Drawn0.refl _ | apply Drawn0.step)⟩
            · rw [if_neg c8] at H
              exact absurd H (by simp)
          · rw [if_neg c7] at H
            have c7b0 : decide (x8_1 < (l1.length : Int)) = false := decide_eq_false c7
            clear c7
            by_cases c12 : (l2.length : Int) = (l1.length : Int)
            · rw [if_pos c12] at H
              have c12b0 : ((l2.length : Int) == (l1.length : Int)) = true := beq_iff_eq.mpr c12
              have c12b1 : ((l2.length : Int) != (l1.length : Int)) = false := bne_eq_false_iff_eq.mpr c12
              have c12b2 : (l2.length == l1.length) = true := by first | simpa using c12 | (simp at c12 ⊢; omega)
              clear c12
              have H' := Aside0.mk H
              clear H
              go_wp2
              go_loopg [9] k1 (fun kq v9 w' => ∃ (x9_2 : Int), v9 = .int .i64 x9_2 ∧ Aside0 (examinerref43_WritesErr.l1 kq l2 x9_2 = some r) ∧ Aside0 (kq ≤ k1) ∧ Drawn0 w w')
              case atStart => exact ⟨(0), (by first | rfl | (simp; done) | (simp [*]; done)), H', ⟨Nat.le_refl _⟩, by repeat (first | exact Drawn0.refl _ | apply Drawn0.step)⟩
              case round =>
                clear H'
                try clear c1
                try clear c2
                try clear p2
                try clear c3
                try clear p3
                try clear q3
                try clear hx3
                try clear c4
                try clear c5
                try clear c5b0
                try clear c5b1
                try clear c6
                try clear c6b0
                try clear c6b1
                try clear p6
                try clear c7
                try clear c7b0
                try clear c8
                try clear c8b0
                try clear c10
                try clear c11
                try clear c11b0
                try clear c11b1
                try clear c12
                try clear c12b0
                try clear c12b1
                try clear c12b2
                try clear hx339_0
                try clear hx339_1
                try clear hx341_0
                try clear hx341_1
                try clear p2
                try clear p339
                try clear p341
                try clear q339
                try clear q341
                obtain ⟨x9_2, rfl, HA, HK2, ⟨m2, rfl⟩⟩ := hrel
                cases gk with
                | zero => exact absurd HA.out (by simp [examinerref43_WritesErr.l1])
                | succ k2 =>
                  have H := HA.out
                  clear HA
                  simp only [examinerref43_WritesErr.l1] at H
                  by_cases c13 : x9_2 < (l2.length : Int)
                  · rw [if_pos c13] at H
                    have c13b0 : decide (x9_2 < (l2.length : Int)) = true := decide_eq_true c13
                    clear c13
                    by_cases c14 : 0 ≤ x9_2
                    · rw [if_pos c14] at H
                      have c14b0 : decide (0 ≤ x9_2) = true := decide_eq_true c14
                      clear c14
                      replace H := Option.bind_eq_some_iff.mp H
                      obtain ⟨t343, A150, H⟩ := H
                      replace H : (if t343 = true then (examinerref43_WritesErr.l1 k2 l2 (wrap64 (x9_2 + 1))) else (some 3)) = some r := H
                      have A15 := Aside0.mk A150
                      clear A150
                      by_cases c16 : t343 = true
                      · subst c16
                        have H1 : (examinerref43_WritesErr.l1 k2 l2 (wrap64 (x9_2 + 1))) = some r := by rw [if_pos rfl] at H; exact H
                        clear H
                        have H := H1
                        clear H1
                        have H' := Aside0.mk H
                        clear H
                        have p342 : 0 ≤ (x9_2 : Int) := of_decide_eq_true (by first | (with_reducible assumption) | assumption)
                        have q342 : x9_2 < (l2.length : Int) := of_decide_eq_true (by first | (with_reducible assumption) | assumption)
                        obtain ⟨ad342, e342, hx342_0⟩ := Kd.at_int HR2.out x9_2 p342 q342
                        cases e342
                        replace p342 := eq_true p342
                        replace q342 := eq_true q342
                        go_wp2_with (first | ((with_reducible refine gate_callee (f := 40) rfl ?_); refine goesL_ (some 53) rfl rfl Try.func40 (by kernel_rfl) rfl #[.int .i64 (rd l2 x9_2), .int .i64 0, .int .i64 32] rfl (by (try simp only [List.map_toArray, List.map_cons, List.map_nil]); first | done | rfl | (simp only [List.length_drop, List.length_take]; rfl)) ?_; (with_reducible refine (examinerbase_Within.calls (rd l2 x9_2) 0 32 true _ A15.out).mono ?_); rintro e w' ⟨rfl, ⟨nd, rfl⟩⟩; refine ⟨_, rfl, ?_⟩))
                        go_roundg k2
                        case measure => have := HK1.out; have := HK2.out; omega
                        case rel => exact ⟨(wrap64 (x9_2 + 1)), (by first | rfl | (simp; done) | (simp [*]; done)), H', ⟨by have := HK1.out; have := HK2.out; omega⟩, by repeat (first | exact Drawn0.refl _ | apply Drawn0.step)⟩
                      · replace c16 := Bool.eq_false_iff.mpr c16
                        subst c16
                        have H1 : (some 3) = some r := by rw [if_neg (show ¬ (false = true) by decide)] at H; exact H
                        clear H
                        have H := H1
                        clear H1
                        obtain rfl := Option.some.inj H
                        have p342 : 0 ≤ (x9_2 : Int) := of_decide_eq_true (by first | (with_reducible assumption) | assumption)
                        have q342 : x9_2 < (l2.length : Int) := of_decide_eq_true (by first | (with_reducible assumption) | assumption)
                        obtain ⟨ad342, e342, hx342_0⟩ := Kd.at_int HR2.out x9_2 p342 q342
                        cases e342
                        replace p342 := eq_true p342
                        replace q342 := eq_true q342
                        go_wp2_with (first | ((with_reducible refine gate_callee (f := 40) rfl ?_); refine goesL_ (some 53) rfl rfl Try.func40 (by kernel_rfl) rfl #[.int .i64 (rd l2 x9_2), .int .i64 0, .int .i64 32] rfl (by (try simp only [List.map_toArray, List.map_cons, List.map_nil]); first | done | rfl | (simp only [List.length_drop, List.length_take]; rfl)) ?_; (with_reducible refine (examinerbase_Within.calls (rd l2 x9_2) 0 32 false _ A15.out).mono ?_); rintro e w' ⟨rfl, ⟨nd, rfl⟩⟩; refine ⟨_, rfl, ?_⟩))
                        go_ret
                        exact ⟨by first | rfl | (simp; done) | (simp [*]; done), by repeat (first | exact Drawn0.refl _ | apply Drawn0.step)⟩
                    · rw [if_neg c14] at H
                      exact absurd H (by simp)
                  · rw [if_neg c13] at H
                    have c13b0 : decide (x9_2 < (l2.length : Int)) = false := decide_eq_false c13
                    clear c13
                    obtain rfl := Option.some.inj H
                    go_wp2
                    go_ret
                    exact ⟨by first | rfl | (simp; done) | (simp [*]; done), by repeat (first | exact Drawn0.refl _ | apply Drawn0.step)⟩
            · rw [if_neg c12] at H
              have c12b0 : ((l2.length : Int) == (l1.length : Int)) = false := beq_eq_false_iff_ne.mpr c12
              have c12b1 : ((l2.length : Int) != (l1.length : Int)) = true := bne_iff_ne.mpr c12
              have c12b2 : (l2.length == l1.length) = false := by first | simpa using c12 | (simp at c12 ⊢; omega)
              obtain rfl := Option.some.inj H
              go_wp2
              go_ret
              exact ⟨by first | rfl | (simp; done) | (simp [*]; done), by repeat (first | exact Drawn0.refl _ | apply Drawn0.step)⟩
  · rw [if_neg c5] at H
    have c5b0 : (t338 == 0) = false := beq_eq_false_iff_ne.mpr c5
    have c5b1 : (t338 != 0) = true := bne_iff_ne.mpr c5
    obtain rfl := Option.some.inj H
    go_enter Try.func30, Try.ntmps30
    go_wp2_with (first | ((with_reducible refine gate_callee (f := 51) rfl ?_); refine goesL_ (some 11) rfl rfl Try.func51 (by kernel_rfl) rfl #[.string a0] rfl (by (try simp only [List.map_toArray, List.map_cons, List.map_nil]); first | done | rfl | (simp only [List.length_drop, List.length_take]; rfl)) ?_; (with_reducible refine (examinerref43_JournalErr.calls a0 t338 _ A4.out).mono ?_); rintro e w' ⟨rfl, ⟨nd, rfl⟩⟩; refine ⟨_, rfl, ?_⟩))
    go_ret
    exact ⟨by first | rfl | (simp; done) | (simp [*]; done), by repeat (first | exact Drawn0.refl _ | apply Drawn0.step)⟩

/-! ### examinerref43_Written: function 31 -/
def examinerref43_Written.l0 : Nat → ByteArray → List (S97) → List Int → Int → Option (ByteArray)
  | 0, _, _, _, _ => none
  | k + 1, x0, x1, x2, x7 => if x7 < (x1.length : Int) then (if 0 ≤ x7 then (if x7 < (x2.length : Int) then (if (rd x2 x7) = 0 then (examinerref43_Written.l0 k x0 x1 x2 (wrap64 (x7 + 1))) else (if (wrap64 ((wrap64 (((rd_T97 x1 x7).f0) * 32)) + 32)) > (x0.size : Int) then ((examinerbase_Zeros.f (wrap64 ((wrap64 ((wrap64 (((rd_T97 x1 x7).f0) * 32)) + 32)) - (x0.size : Int)))).bind fun t346 => (if x0.size + t346.size ≤ 9223372036854775807 then (if 0 ≤ (wrap64 (((rd_T97 x1 x7).f0) * 32)) then (if (wrap64 (((rd_T97 x1 x7).f0) * 32)) ≤ ((x0 ++ t346).size : Int) then (if 0 ≤ (rd x2 x7) then (if (rd x2 x7) ≤ (((rd_T97 x1 x7).f1).size : Int) then (if ((x0 ++ t346).extract 0 ((wrap64 (((rd_T97 x1 x7).f0) * 32)) : Int).toNat).size + (((rd_T97 x1 x7).f1).extract 0 ((rd x2 x7) : Int).toNat).size ≤ 9223372036854775807 then (if 0 ≤ (wrap64 ((wrap64 (((rd_T97 x1 x7).f0) * 32)) + (rd x2 x7))) then (if (wrap64 ((wrap64 (((rd_T97 x1 x7).f0) * 32)) + (rd x2 x7))) ≤ ((x0 ++ t346).size : Int) then (if (((x0 ++ t346).extract 0 ((wrap64 (((rd_T97 x1 x7).f0) * 32)) : Int).toNat) ++ (((rd_T97 x1 x7).f1).extract 0 ((rd x2 x7) : Int).toNat)).size + ((x0 ++ t346).extract ((wrap64 ((wrap64 (((rd_T97 x1 x7).f0) * 32)) + (rd x2 x7))) : Int).toNat (x0 ++ t346).size).size ≤ 9223372036854775807 then (examinerref43_Written.l0 k ((((x0 ++ t346).extract 0 ((wrap64 (((rd_T97 x1 x7).f0) * 32)) : Int).toNat) ++ (((rd_T97 x1 x7).f1).extract 0 ((rd x2 x7) : Int).toNat)) ++ ((x0 ++ t346).extract ((wrap64 ((wrap64 (((rd_T97 x1 x7).f0) * 32)) + (rd x2 x7))) : Int).toNat (x0 ++ t346).size)) x1 x2 (wrap64 (x7 + 1))) else (none)) else (none)) else (none)) else (none)) else (none)) else (none)) else (none)) else (none)) else (none))) else (if 0 ≤ (wrap64 (((rd_T97 x1 x7).f0) * 32)) then (if (wrap64 (((rd_T97 x1 x7).f0) * 32)) ≤ (x0.size : Int) then (if 0 ≤ (rd x2 x7) then (if (rd x2 x7) ≤ (((rd_T97 x1 x7).f1).size : Int) then (if (x0.extract 0 ((wrap64 (((rd_T97 x1 x7).f0) * 32)) : Int).toNat).size + (((rd_T97 x1 x7).f1).extract 0 ((rd x2 x7) : Int).toNat).size ≤ 9223372036854775807 then (if 0 ≤ (wrap64 ((wrap64 (((rd_T97 x1 x7).f0) * 32)) + (rd x2 x7))) then (if (wrap64 ((wrap64 (((rd_T97 x1 x7).f0) * 32)) + (rd x2 x7))) ≤ (x0.size : Int) then (if ((x0.extract 0 ((wrap64 (((rd_T97 x1 x7).f0) * 32)) : Int).toNat) ++ (((rd_T97 x1 x7).f1).extract 0 ((rd x2 x7) : Int).toNat)).size + (x0.extract ((wrap64 ((wrap64 (((rd_T97 x1 x7).f0) * 32)) + (rd x2 x7))) : Int).toNat x0.size).size ≤ 9223372036854775807 then (examinerref43_Written.l0 k (((x0.extract 0 ((wrap64 (((rd_T97 x1 x7).f0) * 32)) : Int).toNat) ++ (((rd_T97 x1 x7).f1).extract 0 ((rd x2 x7) : Int).toNat)) ++ (x0.extract ((wrap64 ((wrap64 (((rd_T97 x1 x7).f0) * 32)) + (rd x2 x7))) : Int).toNat x0.size)) x1 x2 (wrap64 (x7 + 1))) else (none)) else (none)) else (none)) else (none)) else (none)) else (none)) else (none)) else (none)))) else (none)) else (none)) else (some x0)
def examinerref43_Written.f (k : Nat) (a0 : ByteArray) (l1 : List (S97)) (l2 : List Int) : Option (ByteArray) := examinerref43_Written.l0 k a0 l1 l2 0
theorem examinerref43_Written.mono_l : ∀ k, (∀ y0 y1 y2 y3, LeO (examinerref43_Written.l0 k y0 y1 y2 y3) (examinerref43_Written.l0 (k + 1) y0 y1 y2 y3))
  | 0 => fun _ _ _ _ r h => by simp [examinerref43_Written.l0] at h
  | k + 1 => by
    have ih0 := examinerref43_Written.mono_l k
    · intro y0 y1 y2 y3
      unfold examinerref43_Written.l0
      repeat' first
      | (with_reducible exact ih0 _ _ _ _)
      | (with_reducible exact LeO.refl _)
      | (with_reducible exact LeO.none _)
      | (with_reducible refine LeO.ite ?_ ?_)
      | (with_reducible refine LeO.bind ?_ (fun _ => ?_))
      | exact ih0 _ _ _ _
      | exact LeO.none _
      | refine LeO.ite ?_ ?_
      | refine LeO.bind ?_ (fun _ => ?_)
theorem examinerref43_Written.mono : ∀ a0 a1 a2 k, LeO (examinerref43_Written.f k a0 a1 a2) (examinerref43_Written.f (k + 1) a0 a1 a2) := by
  intro a0 a1 a2 k
  have ih0 := examinerref43_Written.mono_l k
  unfold examinerref43_Written.f
  repeat' first
      | (with_reducible exact ih0 _ _ _ _)
      | (with_reducible exact LeO.refl _)
      | (with_reducible exact LeO.none _)
      | (with_reducible refine LeO.ite ?_ ?_)
      | (with_reducible refine LeO.bind ?_ (fun _ => ?_))
      | exact ih0 _ _ _ _
      | exact LeO.none _
      | refine LeO.ite ?_ ?_
      | refine LeO.bind ?_ (fun _ => ?_)
set_option maxHeartbeats 8000000 in
set_option maxRecDepth 100000 in
theorem examinerref43_Written.calls (k : Nat) (a0 : ByteArray) (A1 : Option Addr) (c1 : Nat) (l1 : List (S97)) (A2 : Option Addr) (c2 : Nat) (l2 : List Int) (r : ByteArray) (w : World) (hr1 : Kd.C k97 w A1 l1.length l1) (hc1 : l1.length ≤ c1) (hr2 : Kd.C (Kd.int .i64) w A2 l2.length l2) (hc2 : l2.length ≤ c2) (h : examinerref43_Written.f k a0 l1 l2 = some r) :
    Calls Try.prog 31 #[.string a0, .slice A1 l1.length c1, .slice A2 l2.length c2] w fun e w' => e = .returned (.string r) ∧ Below w.heap.size w w' := by
  have HR1 := Aside0.mk hr1
  have HC1 := Aside0.mk hc1
  clear hr1 hc1
  have HR2 := Aside0.mk hr2
  have HC2 := Aside0.mk hc2
  clear hr2 hc2
  have HB := Aside0.mk (Below.refl w.heap.size w)
  have H : (examinerref43_Written.l0 k a0 l1 l2 0) = some r := h
  clear h
  have H' := Aside0.mk H
  clear H
  go_enter Try.func31, Try.ntmps31
  go_wp2
  repeat (go_quiet (fail); try go_wp2)
  go_loopg [0, 7] k (fun kq v0 v7 w' => ∃ (x0_1 : ByteArray) (x7_1 : Int), v0 = .string x0_1 ∧ v7 = .int .i64 x7_1 ∧ Aside0 (examinerref43_Written.l0 kq x0_1 l1 l2 x7_1 = some r) ∧ Aside0 (kq ≤ k) ∧ Aside0 (Below w.heap.size w w'))
  case atStart => exact ⟨(a0), (0), (by first | rfl | (simp; done) | (simp [*]; done)), (by first | rfl | (simp; done) | (simp [*]; done)), H', ⟨Nat.le_refl _⟩, ⟨by repeat (first | (with_reducible first | exact HB.out | apply below_alloc | apply pw_below_drewN | apply below_drew1) | exact HB.out)⟩⟩
  case round =>
    clear H'
    try clear c1
    try clear c2
    try clear p2
    try clear c3
    obtain ⟨x0_1, x7_1, rfl, rfl, HA, HK1, HB⟩ := hrel
    cases gk with
    | zero => exact absurd HA.out (by simp [examinerref43_Written.l0])
    | succ k1 =>
      have H := HA.out
      clear HA
      simp only [examinerref43_Written.l0] at H
      by_cases c4 : x7_1 < (l1.length : Int)
      · rw [if_pos c4] at H
        have c4b0 : decide (x7_1 < (l1.length : Int)) = true := decide_eq_true c4
        clear c4
        by_cases c5 : 0 ≤ x7_1
        · rw [if_pos c5] at H
          have c5b0 : decide (0 ≤ x7_1) = true := decide_eq_true c5
          clear c5
          by_cases c6 : x7_1 < (l2.length : Int)
          · rw [if_pos c6] at H
            have c6b0 : decide (x7_1 < (l2.length : Int)) = true := decide_eq_true c6
            clear c6
            by_cases c7 : (rd l2 x7_1) = 0
            · rw [if_pos c7] at H
              have c7b0 : ((rd l2 x7_1) == 0) = true := beq_iff_eq.mpr c7
              have c7b1 : ((rd l2 x7_1) != 0) = false := bne_eq_false_iff_eq.mpr c7
              clear c7
              have H' := Aside0.mk H
              clear H
              have p344 : 0 ≤ (x7_1 : Int) := of_decide_eq_true (by first | (with_reducible assumption) | assumption)
              have q344 : x7_1 < (l2.length : Int) := of_decide_eq_true (by first | (with_reducible assumption) | assumption)
              obtain ⟨ad344, e344, hx344_0⟩ := Kd.at_int HR2.out x7_1 p344 q344
              cases e344
              replace hx344_0 := (HB.out.cell (World.block_lt_of_cell? w _ hx344_0)).trans hx344_0
              replace p344 := eq_true p344
              replace q344 := eq_true q344
              go_wp2
              repeat (go_quiet (fail); try go_wp2)
              go_roundg k1
              case measure => have := HK1.out; omega
              case rel => exact ⟨(x0_1), (wrap64 (x7_1 + 1)), (by first | rfl | (simp; done) | (simp [*]; done)), (by first | rfl | (simp; done) | (simp [*]; done)), H', ⟨by have := HK1.out; omega⟩, ⟨by repeat (first | (with_reducible first | exact HB.out | apply below_alloc | apply pw_below_drewN | apply below_drew1) | exact HB.out)⟩⟩
            · rw [if_neg c7] at H
              have c7b0 : ((rd l2 x7_1) == 0) = false := beq_eq_false_iff_ne.mpr c7
              have c7b1 : ((rd l2 x7_1) != 0) = true := bne_iff_ne.mpr c7
              by_cases c8 : (wrap64 ((wrap64 (((rd_T97 l1 x7_1).f0) * 32)) + 32)) > (x0_1.size : Int)
              · rw [if_pos c8] at H
                have c8b0 : decide ((x0_1.size : Int) < (wrap64 ((wrap64 (((rd_T97 l1 x7_1).f0) * 32)) + 32))) = true := decide_eq_true c8
                clear c8
                replace H := Option.bind_eq_some_iff.mp H
                obtain ⟨t346, A90, H⟩ := H
                replace H : (if x0_1.size + t346.size ≤ 9223372036854775807 then (if 0 ≤ (wrap64 (((rd_T97 l1 x7_1).f0) * 32)) then (if (wrap64 (((rd_T97 l1 x7_1).f0) * 32)) ≤ ((x0_1 ++ t346).size : Int) then (if 0 ≤ (rd l2 x7_1) then (if (rd l2 x7_1) ≤ (((rd_T97 l1 x7_1).f1).size : Int) then (if ((x0_1 ++ t346).extract 0 ((wrap64 (((rd_T97 l1 x7_1).f0) * 32)) : Int).toNat).size + (((rd_T97 l1 x7_1).f1).extract 0 ((rd l2 x7_1) : Int).toNat).size ≤ 9223372036854775807 then (if 0 ≤ (wrap64 ((wrap64 (((rd_T97 l1 x7_1).f0) * 32)) + (rd l2 x7_1))) then (if (wrap64 ((wrap64 (((rd_T97 l1 x7_1).f0) * 32)) + (rd l2 x7_1))) ≤ ((x0_1 ++ t346).size : Int) then (if (((x0_1 ++ t346).extract 0 ((wrap64 (((rd_T97 l1 x7_1).f0) * 32)) : Int).toNat) ++ (((rd_T97 l1 x7_1).f1).extract 0 ((rd l2 x7_1) : Int).toNat)).size + ((x0_1 ++ t346).extract ((wrap64 ((wrap64 (((rd_T97 l1 x7_1).f0) * 32)) + (rd l2 x7_1))) : Int).toNat (x0_1 ++ t346).size).size ≤ 9223372036854775807 then (examinerref43_Written.l0 k1 ((((x0_1 ++ t346).extract 0 ((wrap64 (((rd_T97 l1 x7_1).f0) * 32)) : Int).toNat) ++ (((rd_T97 l1 x7_1).f1).extract 0 ((rd l2 x7_1) : Int).toNat)) ++ ((x0_1 ++ t346).extract ((wrap64 ((wrap64 (((rd_T97 l1 x7_1).f0) * 32)) + (rd l2 x7_1))) : Int).toNat (x0_1 ++ t346).size)) l1 l2 (wrap64 (x7_1 + 1))) else (none)) else (none)) else (none)) else (none)) else (none)) else (none)) else (none)) else (none)) else (none)) = some r := H
                have A9 := Aside0.mk A90
                clear A90
                by_cases c10 : x0_1.size + t346.size ≤ 9223372036854775807
                · rw [if_pos c10] at H
                  have c10b0 := eq_true c10
                  have c10b3 := c10; try simp only [ByteArray.size_append, Int.natCast_add] at c10b3
                  replace c10b3 := eq_true c10b3
                  have c10b1 : decide (x0_1.size + t346.size ≤ 9223372036854775807) = true := decide_eq_true c10
                  try have c10b2 : (9223372036854775807 < x0_1.size + t346.size) = False := eq_false (Nat.not_lt.2 c10)
                  try simp only [ByteArray.size_append] at c10b0 c10b1 c10b2
                  obtain ⟨ji11, hji11⟩ : ∃ j_ : Int, (wrap64 (((rd_T97 l1 x7_1).f0) * 32)) = j_ := ⟨_, rfl⟩
                  replace H : (if 0 ≤ (ji11) then (if (ji11) ≤ ((x0_1 ++ t346).size : Int) then (if 0 ≤ (rd l2 x7_1) then (if (rd l2 x7_1) ≤ (((rd_T97 l1 x7_1).f1).size : Int) then (if ((x0_1 ++ t346).extract 0 ((ji11) : Int).toNat).size + (((rd_T97 l1 x7_1).f1).extract 0 ((rd l2 x7_1) : Int).toNat).size ≤ 9223372036854775807 then (if 0 ≤ (wrap64 ((ji11) + (rd l2 x7_1))) then (if (wrap64 ((ji11) + (rd l2 x7_1))) ≤ ((x0_1 ++ t346).size : Int) then (if (((x0_1 ++ t346).extract 0 ((ji11) : Int).toNat) ++ (((rd_T97 l1 x7_1).f1).extract 0 ((rd l2 x7_1) : Int).toNat)).size + ((x0_1 ++ t346).extract ((wrap64 ((ji11) + (rd l2 x7_1))) : Int).toNat (x0_1 ++ t346).size).size ≤ 9223372036854775807 then (examinerref43_Written.l0 k1 ((((x0_1 ++ t346).extract 0 ((ji11) : Int).toNat) ++ (((rd_T97 l1 x7_1).f1).extract 0 ((rd l2 x7_1) : Int).toNat)) ++ ((x0_1 ++ t346).extract ((wrap64 ((ji11) + (rd l2 x7_1))) : Int).toNat (x0_1 ++ t346).size)) l1 l2 (wrap64 (x7_1 + 1))) else (none)) else (none)) else (none)) else (none)) else (none)) else (none)) else (none)) else (none)) = some r := by first | (rw [hji11] at H; exact H) | (simp only [hji11] at H ⊢; exact H)
                  (try rw [hji11] at c8b0)
                  (try rw [hji11] at A9)
                  have hji11w : (IntKind.i64.wrap (((rd_T97 l1 x7_1).f0) * 32)) = ji11 := (i64_w _).trans hji11
                  by_cases c12 : 0 ≤ (ji11)
                  · rw [if_pos c12] at H
                    have c12b0 := eq_true c12
                    have c12b3 := c12; try simp only [ByteArray.size_append, Int.natCast_add] at c12b3
                    replace c12b3 := eq_true c12b3
                    have c12b1 : decide (0 ≤ (ji11)) = true := decide_eq_true c12
                    clear c12
                    by_cases c13 : (ji11) ≤ ((x0_1 ++ t346).size : Int)
                    · rw [if_pos c13] at H
                      have c13b0 := eq_true c13
                      have c13b3 := c13; try simp only [ByteArray.size_append, Int.natCast_add] at c13b3
                      replace c13b3 := eq_true c13b3
                      have c13b1 : decide ((ji11) ≤ ((x0_1 ++ t346).size : Int)) = true := decide_eq_true c13
                      by_cases c14 : 0 ≤ (rd l2 x7_1)
                      · rw [if_pos c14] at H
                        have c14b0 := eq_true c14
                        have c14b3 := c14; try simp only [ByteArray.size_append, Int.natCast_add] at c14b3
                        replace c14b3 := eq_true c14b3
                        have c14b1 : decide (0 ≤ (rd l2 x7_1)) = true := decide_eq_true c14
                        clear c14
                        by_cases c15 : (rd l2 x7_1) ≤ (((rd_T97 l1 x7_1).f1).size : Int)
                        · rw [if_pos c15] at H
                          have c15b0 := eq_true c15
                          have c15b3 := c15; try simp only [ByteArray.size_append, Int.natCast_add] at c15b3
                          replace c15b3 := eq_true c15b3
                          have c15b1 : decide ((rd l2 x7_1) ≤ (((rd_T97 l1 x7_1).f1).size : Int)) = true := decide_eq_true c15
                          clear c15
                          by_cases c16 : ((x0_1 ++ t346).extract 0 ((ji11) : Int).toNat).size + (((rd_T97 l1 x7_1).f1).extract 0 ((rd l2 x7_1) : Int).toNat).size ≤ 9223372036854775807
                          · rw [if_pos c16] at H
                            have c16b0 := eq_true c16
                            have c16b3 := c16; try simp only [ByteArray.size_append, Int.natCast_add] at c16b3
                            replace c16b3 := eq_true c16b3
                            have c16b1 : decide (((x0_1 ++ t346).extract 0 ((ji11) : Int).toNat).size + (((rd_T97 l1 x7_1).f1).extract 0 ((rd l2 x7_1) : Int).toNat).size ≤ 9223372036854775807) = true := decide_eq_true c16
                            try have c16b2 : (9223372036854775807 < ((x0_1 ++ t346).extract 0 ((ji11) : Int).toNat).size + (((rd_T97 l1 x7_1).f1).extract 0 ((rd l2 x7_1) : Int).toNat).size) = False := eq_false (Nat.not_lt.2 c16)
                            have c16b6 : (9223372036854775807 < ji11.toNat + (rd l2 x7_1).toNat) = False := eq_false (by have h1 := c16; have h2 := of_eq_true c13b0; have h3 := of_eq_true c15b0; simp only [ByteArray.size_append, ByteArray.size_extract, Int.natCast_add] at h1 h2 h3; omega)
                            try simp only [ByteArray.size_append] at c16b0 c16b1 c16b2
                            obtain ⟨ji17, hji17⟩ : ∃ j_ : Int, (wrap64 ((ji11) + (rd l2 x7_1))) = j_ := ⟨_, rfl⟩
                            replace H : (if 0 ≤ (ji17) then (if (ji17) ≤ ((x0_1 ++ t346).size : Int) then (if (((x0_1 ++ t346).extract 0 ((ji11) : Int).toNat) ++ (((rd_T97 l1 x7_1).f1).extract 0 ((rd l2 x7_1) : Int).toNat)).size + ((x0_1 ++ t346).extract ((ji17) : Int).toNat (x0_1 ++ t346).size).size ≤ 9223372036854775807 then (examinerref43_Written.l0 k1 ((((x0_1 ++ t346).extract 0 ((ji11) : Int).toNat) ++ (((rd_T97 l1 x7_1).f1).extract 0 ((rd l2 x7_1) : Int).toNat)) ++ ((x0_1 ++ t346).extract ((ji17) : Int).toNat (x0_1 ++ t346).size)) l1 l2 (wrap64 (x7_1 + 1))) else (none)) else (none)) else (none)) = some r := by first | (rw [hji17] at H; exact H) | (simp only [hji17] at H ⊢; exact H)
                            (try rw [hji17] at A9)
                            have hji17w : (IntKind.i64.wrap ((ji11) + (rd l2 x7_1))) = ji17 := (i64_w _).trans hji17
                            by_cases c18 : 0 ≤ (ji17)
                            · rw [if_pos c18] at H
                              have c18b0 := eq_true c18
                              have c18b3 := c18; try simp only [ByteArray.size_append, Int.natCast_add] at c18b3
                              replace c18b3 := eq_true c18b3
                              have c18b1 : decide (0 ≤ (ji17)) = true := decide_eq_true c18
                              clear c18
                              by_cases c19 : (ji17) ≤ ((x0_1 ++ t346).size : Int)
                              · rw [if_pos c19] at H
                                have c19b0 := eq_true c19
                                have c19b3 := c19; try simp only [ByteArray.size_append, Int.natCast_add] at c19b3
                                replace c19b3 := eq_true c19b3
                                have c19b1 : decide ((ji17) ≤ ((x0_1 ++ t346).size : Int)) = true := decide_eq_true c19
                                by_cases c20 : (((x0_1 ++ t346).extract 0 ((ji11) : Int).toNat) ++ (((rd_T97 l1 x7_1).f1).extract 0 ((rd l2 x7_1) : Int).toNat)).size + ((x0_1 ++ t346).extract ((ji17) : Int).toNat (x0_1 ++ t346).size).size ≤ 9223372036854775807
                                · rw [if_pos c20] at H
                                  have c20b0 := eq_true c20
                                  have c20b3 := c20; try simp only [ByteArray.size_append, Int.natCast_add] at c20b3
                                  replace c20b3 := eq_true c20b3
                                  have c20b1 : decide ((((x0_1 ++ t346).extract 0 ((ji11) : Int).toNat) ++ (((rd_T97 l1 x7_1).f1).extract 0 ((rd l2 x7_1) : Int).toNat)).size + ((x0_1 ++ t346).extract ((ji17) : Int).toNat (x0_1 ++ t346).size).size ≤ 9223372036854775807) = true := decide_eq_true c20
                                  try have c20b2 : (9223372036854775807 < (((x0_1 ++ t346).extract 0 ((ji11) : Int).toNat) ++ (((rd_T97 l1 x7_1).f1).extract 0 ((rd l2 x7_1) : Int).toNat)).size + ((x0_1 ++ t346).extract ((ji17) : Int).toNat (x0_1 ++ t346).size).size) = False := eq_false (Nat.not_lt.2 c20)
                                  have c20b6 : (9223372036854775807 < ji11.toNat + (rd l2 x7_1).toNat + (x0_1.size + t346.size - ji17.toNat)) = False := eq_false (by have h1 := c20; have h2 := of_eq_true c13b0; have h3 := of_eq_true c15b0; have h4 := of_eq_true c19b0; simp only [ByteArray.size_append, ByteArray.size_extract, Int.natCast_add] at h1 h2 h3 h4; omega)
                                  try simp only [ByteArray.size_append] at c20b0 c20b1 c20b2
                                  have H' := Aside0.mk H
                                  clear H
                                  have p344 : 0 ≤ (x7_1 : Int) := of_decide_eq_true (by first | (with_reducible assumption) | assumption)
                                  have q344 : x7_1 < (l2.length : Int) := of_decide_eq_true (by first | (with_reducible assumption) | assumption)
                                  obtain ⟨ad344, e344, hx344_0⟩ := Kd.at_int HR2.out x7_1 p344 q344
                                  cases e344
                                  replace hx344_0 := (HB.out.cell (World.block_lt_of_cell? w _ hx344_0)).trans hx344_0
                                  replace p344 := eq_true p344
                                  replace q344 := eq_true q344
                                  have p345 : 0 ≤ (x7_1 : Int) := of_decide_eq_true (by first | (with_reducible assumption) | assumption)
                                  have q345 : x7_1 < (l1.length : Int) := of_decide_eq_true (by first | (with_reducible assumption) | assumption)
                                  obtain ⟨ad345, e345, hx345_0, hx345_1⟩ := at_T97 HR1.out x7_1 p345 q345
                                  cases e345
                                  replace hx345_0 := (HB.out.cell (World.block_lt_of_cell? w _ hx345_0)).trans hx345_0
                                  replace hx345_1 := (HB.out.cell (World.block_lt_of_cell? w _ hx345_1)).trans hx345_1
                                  replace p345 := eq_true p345
                                  replace q345 := eq_true q345
                                  go_wp2_with (first | (go_at_call 33; (with_reducible refine (examinerbase_Zeros.calls (wrap64 ((wrap64 ((ji11) + 32)) - (x0_1.size : Int))) t346 _ A9.out).mono ?_); rintro e w21 ⟨rfl, hb⟩; have n0_ := Aside0.mk (below_step (by repeat (first | (with_reducible first | exact HB.out | apply below_alloc | apply pw_below_drewN | apply below_drew1) | exact HB.out)) hb); clear HB; have HB := n0_; clear n0_; (try clear hb); (try clear hb2); (try clear hk); (try clear hi); have p347 : 0 ≤ (x7_1 : Int) := of_decide_eq_true (by first | (with_reducible assumption) | assumption); have q347 : x7_1 < (l1.length : Int) := of_decide_eq_true (by first | (with_reducible assumption) | assumption); obtain ⟨ad347, e347, hx347_0, hx347_1⟩ := at_T97 HR1.out x7_1 p347 q347; obtain rfl : ad345 = ad347 := (by injection e347); replace hx347_0 := (HB.out.cell (World.block_lt_of_cell? w _ hx347_0)).trans hx347_0; replace hx347_1 := (HB.out.cell (World.block_lt_of_cell? w _ hx347_1)).trans hx347_1; replace p347 := eq_true p347; replace q347 := eq_true q347; have p348 : 0 ≤ (x7_1 : Int) := of_decide_eq_true (by first | (with_reducible assumption) | assumption); have q348 : x7_1 < (l2.length : Int) := of_decide_eq_true (by first | (with_reducible assumption) | assumption); obtain ⟨ad348, e348, hx348_0⟩ := Kd.at_int HR2.out x7_1 p348 q348; obtain rfl : ad344 = ad348 := (by injection e348); replace hx348_0 := (HB.out.cell (World.block_lt_of_cell? w _ hx348_0)).trans hx348_0; replace p348 := eq_true p348; replace q348 := eq_true q348; have p349 : 0 ≤ (x7_1 : Int) := of_decide_eq_true (by first | (with_reducible assumption) | assumption); have q349 : x7_1 < (l2.length : Int) := of_decide_eq_true (by first | (with_reducible assumption) | assumption); obtain ⟨ad349, e349, hx349_0⟩ := Kd.at_int HR2.out x7_1 p349 q349; obtain rfl : ad344 = ad349 := (by injection e349); replace hx349_0 := (HB.out.cell (World.block_lt_of_cell? w _ hx349_0)).trans hx349_0; replace p349 := eq_true p349; replace q349 := eq_true q349))
                                  repeat (go_quiet (first | (go_at_call 33; (with_reducible refine (examinerbase_Zeros.calls (wrap64 ((wrap64 ((ji11) + 32)) - (x0_1.size : Int))) t346 _ A9.out).mono ?_); rintro e w21 ⟨rfl, hb⟩; have n0_ := Aside0.mk (below_step (by repeat (first | (with_reducible first | exact HB.out | apply below_alloc | apply pw_below_drewN | apply below_drew1) | exact HB.out)) hb); clear HB; have HB := n0_; clear n0_; (try clear hb); (try clear hb2); (try clear hk); (try clear hi); have p347 : 0 ≤ (x7_1 : Int) := of_decide_eq_true (by first | (with_reducible assumption) | assumption); have q347 : x7_1 < (l1.length : Int) := of_decide_eq_true (by first | (with_reducible assumption) | assumption); obtain ⟨ad347, e347, hx347_0, hx347_1⟩ := at_T97 HR1.out x7_1 p347 q347; obtain rfl : ad345 = ad347 := (by injection e347); replace hx347_0 := (HB.out.cell (World.block_lt_of_cell? w _ hx347_0)).trans hx347_0; replace hx347_1 := (HB.out.cell (World.block_lt_of_cell? w _ hx347_1)).trans hx347_1; replace p347 := eq_true p347; replace q347 := eq_true q347; have p348 : 0 ≤ (x7_1 : Int) := of_decide_eq_true (by first | (with_reducible assumption) | assumption); have q348 : x7_1 < (l2.length : Int) := of_decide_eq_true (by first | (with_reducible assumption) | assumption); obtain ⟨ad348, e348, hx348_0⟩ := Kd.at_int HR2.out x7_1 p348 q348; obtain rfl : ad344 = ad348 := (by injection e348); replace hx348_0 := (HB.out.cell (World.block_lt_of_cell? w _ hx348_0)).trans hx348_0; replace p348 := eq_true p348; replace q348 := eq_true q348; have p349 : 0 ≤ (x7_1 : Int) := of_decide_eq_true (by first | (with_reducible assumption) | assumption); have q349 : x7_1 < (l2.length : Int) := of_decide_eq_true (by first | (with_reducible assumption) | assumption); obtain ⟨ad349, e349, hx349_0⟩ := Kd.at_int HR2.out x7_1 p349 q349; obtain rfl : ad344 = ad349 := (by injection e349); replace hx349_0 := (HB.out.cell (World.block_lt_of_cell? w _ hx349_0)).trans hx349_0; replace p349 := eq_true p349; replace q349 := eq_true q349)); try go_wp2_with (first | (go_at_call 33; (with_reducible refine (examinerbase_Zeros.calls (wrap64 ((wrap64 ((ji11) + 32)) - (x0_1.size : Int))) t346 _ A9.out).mono ?_); rintro e w21 ⟨rfl, hb⟩; have n0_ := Aside0.mk (below_step (by repeat (first | (with_reducible first | exact HB.out | apply below_alloc | apply pw_below_drewN | apply below_drew1) | exact HB.out)) hb); clear HB; have HB := n0_; clear n0_; (try clear hb); (try clear hb2); (try clear hk); (try clear hi); have p347 : 0 ≤ (x7_1 : Int) := of_decide_eq_true (by first | (with_reducible assumption) | assumption); have q347 : x7_1 < (l1.length : Int) := of_decide_eq_true (by first | (with_reducible assumption) | assumption); obtain ⟨ad347, e347, hx347_0, hx347_1⟩ := at_T97 HR1.out x7_1 p347 q347; obtain rfl : ad345 = ad347 := (by injection e347); replace hx347_0 := (HB.out.cell (World.block_lt_of_cell? w _ hx347_0)).trans hx347_0; replace hx347_1 := (HB.out.cell (World.block_lt_of_cell? w _ hx347_1)).trans hx347_1; replace p347 := eq_true p347; replace q347 := eq_true q347; have p348 : 0 ≤ (x7_1 : Int) := of_decide_eq_true (by first | (with_reducible assumption) | assumption); have q348 : x7_1 < (l2.length : Int) := of_decide_eq_true (by first | (with_reducible assumption) | assumption); obtain ⟨ad348, e348, hx348_0⟩ := Kd.at_int HR2.out x7_1 p348 q348; obtain rfl : ad344 = ad348 := (by injection e348); replace hx348_0 := (HB.out.cell (World.block_lt_of_cell? w _ hx348_0)).trans hx348_0; replace p348 := eq_true p348; replace q348 := eq_true q348; have p349 : 0 ≤ (x7_1 : Int) := of_decide_eq_true (by first | (with_reducible assumption) | assumption); have q349 : x7_1 < (l2.length : Int) := of_decide_eq_true (by first | (with_reducible assumption) | assumption); obtain ⟨ad349, e349, hx349_0⟩ := Kd.at_int HR2.out x7_1 p349 q349; obtain rfl : ad344 = ad349 := (by injection e349); replace hx349_0 := (HB.out.cell (World.block_lt_of_cell? w _ hx349_0)).trans hx349_0; replace p349 := eq_true p349; replace q349 := eq_true q349)))
                                  go_roundg k1
                                  case measure => have := HK1.out; omega
                                  case rel => exact ⟨((((x0_1 ++ t346).extract 0 ((ji11) : Int).toNat) ++ (((rd_T97 l1 x7_1).f1).extract 0 ((rd l2 x7_1) : Int).toNat)) ++ ((x0_1 ++ t346).extract ((ji17) : Int).toNat (x0_1 ++ t346).size)), (wrap64 (x7_1 + 1)), (by first | rfl | (simp; done) | (simp only [← hji11, ← hji17] <;> (first | rfl | simp)) | (simp [*]; done)), (by first | rfl | (simp; done) | (simp [*]; done)), H', ⟨by have := HK1.out; omega⟩, ⟨by repeat (first | (with_reducible first | exact HB.out | apply below_alloc | apply pw_below_drewN | apply below_drew1) | exact HB.out)⟩⟩
                                · rw [if_neg c20] at H
                                  exact absurd H (by simp)
                              · rw [if_neg c19] at H
                                exact absurd H (by simp)
                            · rw [if_neg c18] at H
                              exact absurd H (by simp)
                          · rw [if_neg c16] at H
                            exact absurd H (by simp)
                        · rw [if_neg c15] at H
                          exact absurd H (by simp)
                      · rw [if_neg c14] at H
                        exact absurd H (by simp)
                    · rw [if_neg c13] at H
                      exact absurd H (by simp)
                  · rw [if_neg c12] at H
                    exact absurd H (by simp)
                · rw [if_neg c10] at H
                  exact absurd H (by simp)
              · rw [if_neg c8] at H
                have c8b0 : decide ((x0_1.size : Int) < (wrap64 ((wrap64 (((rd_T97 l1 x7_1).f0) * 32)) + 32))) = false := decide_eq_false c8
                clear c8
                obtain ⟨ji22, hji22⟩ : ∃ j_ : Int, (wrap64 (((rd_T97 l1 x7_1).f0) * 32)) = j_ := ⟨_, rfl⟩
                replace H : (if 0 ≤ (ji22) then (if (ji22) ≤ (x0_1.size : Int) then (if 0 ≤ (rd l2 x7_1) then (if (rd l2 x7_1) ≤ (((rd_T97 l1 x7_1).f1).size : Int) then (if (x0_1.extract 0 ((ji22) : Int).toNat).size + (((rd_T97 l1 x7_1).f1).extract 0 ((rd l2 x7_1) : Int).toNat).size ≤ 9223372036854775807 then (if 0 ≤ (wrap64 ((ji22) + (rd l2 x7_1))) then (if (wrap64 ((ji22) + (rd l2 x7_1))) ≤ (x0_1.size : Int) then (if ((x0_1.extract 0 ((ji22) : Int).toNat) ++ (((rd_T97 l1 x7_1).f1).extract 0 ((rd l2 x7_1) : Int).toNat)).size + (x0_1.extract ((wrap64 ((ji22) + (rd l2 x7_1))) : Int).toNat x0_1.size).size ≤ 9223372036854775807 then (examinerref43_Written.l0 k1 (((x0_1.extract 0 ((ji22) : Int).toNat) ++ (((rd_T97 l1 x7_1).f1).extract 0 ((rd l2 x7_1) : Int).toNat)) ++ (x0_1.extract ((wrap64 ((ji22) + (rd l2 x7_1))) : Int).toNat x0_1.size)) l1 l2 (wrap64 (x7_1 + 1))) else (none)) else (none)) else (none)) else (none)) else (none)) else (none)) else (none)) else (none)) = some r := by first | (rw [hji22] at H; exact H) | (simp only [hji22] at H ⊢; exact H)
                (try rw [hji22] at c8b0)
                have hji22w : (IntKind.i64.wrap (((rd_T97 l1 x7_1).f0) * 32)) = ji22 := (i64_w _).trans hji22
                by_cases c23 : 0 ≤ (ji22)
                · rw [if_pos c23] at H
                  have c23b0 := eq_true c23
                  have c23b3 := c23; try simp only [ByteArray.size_append, Int.natCast_add] at c23b3
                  replace c23b3 := eq_true c23b3
                  have c23b1 : decide (0 ≤ (ji22)) = true := decide_eq_true c23
                  clear c23
                  by_cases c24 : (ji22) ≤ (x0_1.size : Int)
                  · rw [if_pos c24] at H
                    have c24b0 := eq_true c24
                    have c24b3 := c24; try simp only [ByteArray.size_append, Int.natCast_add] at c24b3
                    replace c24b3 := eq_true c24b3
                    have c24b1 : decide ((ji22) ≤ (x0_1.size : Int)) = true := decide_eq_true c24
                    clear c24
                    by_cases c25 : 0 ≤ (rd l2 x7_1)
                    · rw [if_pos c25] at H
                      have c25b0 := eq_true c25
                      have c25b3 := c25; try simp only [ByteArray.size_append, Int.natCast_add] at c25b3
                      replace c25b3 := eq_true c25b3
                      have c25b1 : decide (0 ≤ (rd l2 x7_1)) = true := decide_eq_true c25
                      clear c25
                      by_cases c26 : (rd l2 x7_1) ≤ (((rd_T97 l1 x7_1).f1).size : Int)
                      · rw [if_pos c26] at H
                        have c26b0 := eq_true c26
                        have c26b3 := c26; try simp only [ByteArray.size_append, Int.natCast_add] at c26b3
                        replace c26b3 := eq_true c26b3
                        have c26b1 : decide ((rd l2 x7_1) ≤ (((rd_T97 l1 x7_1).f1).size : Int)) = true := decide_eq_true c26
                        clear c26
                        by_cases c27 : (x0_1.extract 0 ((ji22) : Int).toNat).size + (((rd_T97 l1 x7_1).f1).extract 0 ((rd l2 x7_1) : Int).toNat).size ≤ 9223372036854775807
                        · rw [if_pos c27] at H
                          have c27b0 := eq_true c27
                          have c27b3 := c27; try simp only [ByteArray.size_append, Int.natCast_add] at c27b3
                          replace c27b3 := eq_true c27b3
                          have c27b1 : decide ((x0_1.extract 0 ((ji22) : Int).toNat).size + (((rd_T97 l1 x7_1).f1).extract 0 ((rd l2 x7_1) : Int).toNat).size ≤ 9223372036854775807) = true := decide_eq_true c27
                          try have c27b2 : (9223372036854775807 < (x0_1.extract 0 ((ji22) : Int).toNat).size + (((rd_T97 l1 x7_1).f1).extract 0 ((rd l2 x7_1) : Int).toNat).size) = False := eq_false (Nat.not_lt.2 c27)
                          try simp only [ByteArray.size_append] at c27b0 c27b1 c27b2
                          obtain ⟨ji28, hji28⟩ : ∃ j_ : Int, (wrap64 ((ji22) + (rd l2 x7_1))) = j_ := ⟨_, rfl⟩
                          replace H : (if 0 ≤ (ji28) then (if (ji28) ≤ (x0_1.size : Int) then (if ((x0_1.extract 0 ((ji22) : Int).toNat) ++ (((rd_T97 l1 x7_1).f1).extract 0 ((rd l2 x7_1) : Int).toNat)).size + (x0_1.extract ((ji28) : Int).toNat x0_1.size).size ≤ 9223372036854775807 then (examinerref43_Written.l0 k1 (((x0_1.extract 0 ((ji22) : Int).toNat) ++ (((rd_T97 l1 x7_1).f1).extract 0 ((rd l2 x7_1) : Int).toNat)) ++ (x0_1.extract ((ji28) : Int).toNat x0_1.size)) l1 l2 (wrap64 (x7_1 + 1))) else (none)) else (none)) else (none)) = some r := by first | (rw [hji28] at H; exact H) | (simp only [hji28] at H ⊢; exact H)
                          have hji28w : (IntKind.i64.wrap ((ji22) + (rd l2 x7_1))) = ji28 := (i64_w _).trans hji28
                          by_cases c29 : 0 ≤ (ji28)
                          · rw [if_pos c29] at H
                            have c29b0 := eq_true c29
                            have c29b3 := c29; try simp only [ByteArray.size_append, Int.natCast_add] at c29b3
                            replace c29b3 := eq_true c29b3
                            have c29b1 : decide (0 ≤ (ji28)) = true := decide_eq_true c29
                            clear c29
                            by_cases c30 : (ji28) ≤ (x0_1.size : Int)
                            · rw [if_pos c30] at H
                              have c30b0 := eq_true c30
                              have c30b3 := c30; try simp only [ByteArray.size_append, Int.natCast_add] at c30b3
                              replace c30b3 := eq_true c30b3
                              have c30b1 : decide ((ji28) ≤ (x0_1.size : Int)) = true := decide_eq_true c30
                              clear c30
                              by_cases c31 : ((x0_1.extract 0 ((ji22) : Int).toNat) ++ (((rd_T97 l1 x7_1).f1).extract 0 ((rd l2 x7_1) : Int).toNat)).size + (x0_1.extract ((ji28) : Int).toNat x0_1.size).size ≤ 9223372036854775807
                              · rw [if_pos c31] at H
                                have c31b0 := eq_true c31
                                have c31b3 := c31; try simp only [ByteArray.size_append, Int.natCast_add] at c31b3
                                replace c31b3 := eq_true c31b3
                                have c31b1 : decide (((x0_1.extract 0 ((ji22) : Int).toNat) ++ (((rd_T97 l1 x7_1).f1).extract 0 ((rd l2 x7_1) : Int).toNat)).size + (x0_1.extract ((ji28) : Int).toNat x0_1.size).size ≤ 9223372036854775807) = true := decide_eq_true c31
                                try have c31b2 : (9223372036854775807 < ((x0_1.extract 0 ((ji22) : Int).toNat) ++ (((rd_T97 l1 x7_1).f1).extract 0 ((rd l2 x7_1) : Int).toNat)).size + (x0_1.extract ((ji28) : Int).toNat x0_1.size).size) = False := eq_false (Nat.not_lt.2 c31)
                                try simp only [ByteArray.size_append] at c31b0 c31b1 c31b2
                                have H' := Aside0.mk H
                                clear H
                                have p344 : 0 ≤ (x7_1 : Int) := of_decide_eq_true (by first | (with_reducible assumption) | assumption)
                                have q344 : x7_1 < (l2.length : Int) := of_decide_eq_true (by first | (with_reducible assumption) | assumption)
                                obtain ⟨ad344, e344, hx344_0⟩ := Kd.at_int HR2.out x7_1 p344 q344
                                cases e344
                                replace hx344_0 := (HB.out.cell (World.block_lt_of_cell? w _ hx344_0)).trans hx344_0
                                replace p344 := eq_true p344
                                replace q344 := eq_true q344
                                have p345 : 0 ≤ (x7_1 : Int) := of_decide_eq_true (by first | (with_reducible assumption) | assumption)
                                have q345 : x7_1 < (l1.length : Int) := of_decide_eq_true (by first | (with_reducible assumption) | assumption)
                                obtain ⟨ad345, e345, hx345_0, hx345_1⟩ := at_T97 HR1.out x7_1 p345 q345
                                cases e345
                                replace hx345_0 := (HB.out.cell (World.block_lt_of_cell? w _ hx345_0)).trans hx345_0
                                replace hx345_1 := (HB.out.cell (World.block_lt_of_cell? w _ hx345_1)).trans hx345_1
                                replace p345 := eq_true p345
                                replace q345 := eq_true q345
                                have p350 : 0 ≤ (x7_1 : Int) := of_decide_eq_true (by first | (with_reducible assumption) | assumption)
                                have q350 : x7_1 < (l1.length : Int) := of_decide_eq_true (by first | (with_reducible assumption) | assumption)
                                obtain ⟨ad350, e350, hx350_0, hx350_1⟩ := at_T97 HR1.out x7_1 p350 q350
                                obtain rfl : ad345 = ad350 := (by injection e350)
                                replace hx350_0 := (HB.out.cell (World.block_lt_of_cell? w _ hx350_0)).trans hx350_0
                                replace hx350_1 := (HB.out.cell (World.block_lt_of_cell? w _ hx350_1)).trans hx350_1
                                replace p350 := eq_true p350
                                replace q350 := eq_true q350
                                have p351 : 0 ≤ (x7_1 : Int) := of_decide_eq_true (by first | (with_reducible assumption) | assumption)
                                have q351 : x7_1 < (l2.length : Int) := of_decide_eq_true (by first | (with_reducible assumption) | assumption)
                                obtain ⟨ad351, e351, hx351_0⟩ := Kd.at_int HR2.out x7_1 p351 q351
                                obtain rfl : ad344 = ad351 := (by injection e351)
                                replace hx351_0 := (HB.out.cell (World.block_lt_of_cell? w _ hx351_0)).trans hx351_0
                                replace p351 := eq_true p351
                                replace q351 := eq_true q351
                                have p352 : 0 ≤ (x7_1 : Int) := of_decide_eq_true (by first | (with_reducible assumption) | assumption)
                                have q352 : x7_1 < (l2.length : Int) := of_decide_eq_true (by first | (with_reducible assumption) | assumption)
                                obtain ⟨ad352, e352, hx352_0⟩ := Kd.at_int HR2.out x7_1 p352 q352
                                obtain rfl : ad344 = ad352 := (by injection e352)
                                replace hx352_0 := (HB.out.cell (World.block_lt_of_cell? w _ hx352_0)).trans hx352_0
                                replace p352 := eq_true p352
                                replace q352 := eq_true q352
                                go_wp2
                                repeat (go_quiet (fail); try go_wp2)
                                go_roundg k1
                                case measure => have := HK1.out; omega
                                case rel => exact ⟨(((x0_1.extract 0 ((ji22) : Int).toNat) ++ (((rd_T97 l1 x7_1).f1).extract 0 ((rd l2 x7_1) : Int).toNat)) ++ (x0_1.extract ((ji28) : Int).toNat x0_1.size)), (wrap64 (x7_1 + 1)), (by first | rfl | (simp; done) | (simp only [← hji22, ← hji28] <;> (first | rfl | simp)) | (simp [*]; done)), (by first | rfl | (simp; done) | (simp [*]; done)), H', ⟨by have := HK1.out; omega⟩, ⟨by repeat (first | (with_reducible first | exact HB.out | apply below_alloc | apply pw_below_drewN | apply below_drew1) | exact HB.out)⟩⟩
                              · rw [if_neg c31] at H
                                exact absurd H (by simp)
                            · rw [if_neg c30] at H
                              exact absurd H (by simp)
                          · rw [if_neg c29] at H
                            exact absurd H (by simp)
                        · rw [if_neg c27] at H
                          exact absurd H (by simp)
                      · rw [if_neg c26] at H
                        exact absurd H (by simp)
                    · rw [if_neg c25] at H
                      exact absurd H (by simp)
                  · rw [if_neg c24] at H
                    exact absurd H (by simp)
                · rw [if_neg c23] at H
                  exact absurd H (by simp)
          · rw [if_neg c6] at H
            exact absurd H (by simp)
        · rw [if_neg c5] at H
          exact absurd H (by simp)
      · rw [if_neg c4] at H
        have c4b0 : decide (x7_1 < (l1.length : Int)) = false := decide_eq_false c4
        clear c4
        obtain rfl := Option.some.inj H
        go_wp2
        repeat (go_quiet (fail); try go_wp2)
        go_ret
        exact ⟨by first | rfl | (simp [errW_none, errW_some] <;> rfl) | (simp [*, errW_none, errW_some] <;> rfl), by repeat (first | (with_reducible first | exact HB.out | apply below_alloc | apply pw_below_drewN | apply below_drew1) | exact HB.out)⟩

end Go.Proofs.Ytgflelipamofoaa.PA
