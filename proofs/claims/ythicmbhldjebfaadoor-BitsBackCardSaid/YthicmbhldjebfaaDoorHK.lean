/- bits.FragmentOf: by hand, in the printer's form: the digits behind a row that []byte of a constant made (it bears the conversion's mark). -/
import Derived.Test.YthicmbhldjebfaaDoorPAx4
import Derived.Test.YthicmbhldjebfaaDoorHP1
import Derived.ArgAppend
import Derived.Maps.AppendAt
namespace Go.Proofs.YthicmbhldjebfaaDoor.PA
open Go Go.RowKit Go.Proofs.YthicmbhldjebfaaDoorW.PrintWords Go.Proofs.YthicmbhldjebfaaDoorW.PrintLast Go.Proofs.YthicmbhldjebfaaDoorW.PrintMore
set_option linter.unusedVariables false
set_option linter.unusedSimpArgs false
theorem wsum (a b : Nat) (h : a + b ≤ 9223372036854775807) : wrap64 ((a : Int) + (b : Int)) = (a : Int) + (b : Int) := by unfold wrap64; omega
theorem run_conv_row {P : Program} {w : World} {t e T : TypeId} {g n c : Nat} {cs : Array Value} {fr : Nat × Nat} (ht : P.underlying t = some (.slice e)) (he : P.underlying e = some (.int .u8)) (hg : w.heap[g]? = some (.cells cs T fr)) :
    (convert t t (.slice (some ⟨g, 0, none⟩) n c)).run P w = .ok (.slice (some ⟨g, 0, none⟩) n c) (w.freeze ⟨g, cs.size, none⟩ 1) := by
  simp [convert, run_underlying ht, run_underlying he, markStringish, World.shape?, hg, Result.andThen]
/-- A new row that bears the mark. -/
def markW (w : World) (xs : Array Value) (e : TypeId) : World := (w.alloc (.cells xs e)).freeze ⟨w.heap.size, xs.size, none⟩ 1
theorem markW_at (w : World) (xs : Array Value) (e : TypeId) : (markW w xs e).heap[w.heap.size]? = some (.cells xs e (xs.size, xs.size + 1)) := by
  simp [markW, World.freeze, World.alloc, -World.alloc_eq]
  rw [Array.getElem_modify_self]
  simp
theorem markW_grown (w : World) (xs : Array Value) (e : TypeId) : w.grownBy (markW w xs e) none := by
  refine ⟨rfl, rfl, rfl, by simp [markW, World.freeze, World.alloc, -World.alloc_eq], fun j hj _ => ?_⟩
  have h1 : j ≠ w.heap.size := by omega
  simp [markW, World.freeze, World.alloc, -World.alloc_eq, Array.getElem?_modify, Array.getElem?_push, h1, Ne.symm h1]
theorem run_conv_new {P : Program} (w : World) (t e : TypeId) (xs : Array Value) (n c : Nat) (ht : P.underlying t = some (.slice e)) (he : P.underlying e = some (.int .u8)) :
    (convert t t (.slice (some ⟨w.heap.size, 0, none⟩) n c)).run P (w.alloc (.cells xs e)) = .ok (.slice (some ⟨w.heap.size, 0, none⟩) n c) (markW w xs e) := by
  have hg : (w.alloc (.cells xs e)).heap[w.heap.size]? = some (.cells xs e (0, 0)) := by simp [World.alloc, -World.alloc_eq]
  exact run_conv_row ht he hg
theorem R_grown_one {w : World} {base b2 e : Nat} {v : Value} {xs : List Int} {x : Int} (ho : w.ownsRow b2 e 1 v (xs.length + 1) (nums .u8 xs ++ [.int .u8 x])) (hle : base ≤ b2) : Kd.R (Kd.int .u8) e w base (fun _ => True) v (xs ++ [x]) :=
  Kd.R_lower (Kd.R_of_own (by rw [List.length_append]; simpa [nums, encs] using ho) (fun _ _ => trivial)) hle
set_option maxHeartbeats 4000000 in
set_option maxRecDepth 100000 in
theorem digits_full_calls (k g : Nat) (l0 : List Int) (a1 a2 : Int) (r : List Int) (w : World) (fr : Nat × Nat) (hpos : 0 ≤ wrap64 (a2 - 1)) (hl : l0.length ≤ 1000) (hg : w.heap[g]? = some (.cells (nums .u8 l0).toArray 5 fr)) (h : bits_digits.f k l0 a1 a2 = some r) :
    Calls Tryd.prog 56 #[.slice (some ⟨g, 0, none⟩) l0.length l0.length, .int .i64 a1, .int .i64 a2] w fun e w' => ∃ v0_ : Value, e = .returned (v0_) ∧ Kd.R (Kd.int .u8) 5 w' w.heap.size (fun _ => True) v0_ r ∧ Below w.heap.size w w' := by
  have HB := Aside0.mk (Below.refl w.heap.size w)
  have H : (bits_digits.l0 k l0 a1 (wrap64 (a2 - 1))) = some r := h
  clear h
  have H' := Aside0.mk H
  clear H
  have hgl : g < w.heap.size := by
    rcases Nat.lt_or_ge g w.heap.size with h' | h'
    · exact h'
    · rw [Array.getElem?_eq_none h'] at hg; cases hg
  have HG := Aside0.mk hg
  have HP := Aside0.mk hpos
  clear hg hpos
  obtain ⟨i0, hi, hz0, hz1, hz2⟩ := info_parts info5
  go_enter Tryd.func56, Tryd.ntmps56
  go_wp2
  go_loopg [0, 7] k (fun kq v0 v7 w' => ∃ (x0_1 : List Int) (x7_1 : Int), v7 = .int .i64 x7_1 ∧ Aside0 (bits_digits.l0 kq x0_1 a1 x7_1 = some r) ∧ Aside0 (kq ≤ k) ∧ ((v0 = .slice (some ⟨g, 0, none⟩) l0.length l0.length ∧ x0_1 = l0 ∧ Aside0 (0 ≤ x7_1)) ∨ Aside0 (Kd.R (Kd.int .u8) 5 w' w.heap.size (fun _ => True) v0 x0_1)) ∧ Aside0 (Below w.heap.size w w'))
  case atStart => exact ⟨(l0), (wrap64 (a2 - 1)), (by first | rfl | (simp; done) | (simp [*]; done)), H', ⟨Nat.le_refl _⟩, .inl ⟨rfl, rfl, HP⟩, ⟨by repeat (first | (with_reducible first | exact HB.out | apply below_alloc | apply pw_below_drewN | apply below_drew1) | exact HB.out)⟩⟩
  case round =>
    clear H'
    obtain ⟨x0_1, x7_1, rfl, HA, HK1, HO_0, HB⟩ := hrel
    cases gk with
    | zero => exact absurd HA.out (by simp [bits_digits.l0])
    | succ k1 =>
      have H := HA.out
      clear HA
      simp only [bits_digits.l0] at H
      by_cases c4 : x7_1 ≥ 0
      · rw [if_pos c4] at H
        have c4b0 : decide (0 ≤ x7_1) = true := decide_eq_true c4
        clear c4
        by_cases c5 : 0 ≤ x7_1
        · rw [if_pos c5] at H
          have c5b0 := eq_true c5
          have c5b1 : decide (0 ≤ x7_1) = true := decide_eq_true c5
          clear c5
          obtain ⟨ji6, hji6⟩ : ∃ j_ : Int, (shr .i64 a1 x7_1) = j_ := ⟨_, rfl⟩
          rw [hji6] at H
          have hji6_ : (a1 / 2 ^ min x7_1.toNat 64) = ji6 := hji6
          have hji6z : x7_1 ≤ 64 → (a1 / 2 ^ x7_1.toNat) = ji6 := shr_small hji6
          by_cases c7 : x0_1.length < 140737488355328
          · rw [if_pos c7] at H
            have LMc7 := Aside0.mk c7
            clear c7
            obtain ⟨y111, hy111⟩ : ∃ y_ : List Int, y_ = (x0_1 ++ [(wrap64 (48 + (Go.bits .and .i64 (ji6) 1))) % 256]) := ⟨_, rfl⟩
            rw [← hy111] at H
            have Ny111 := Aside0.mk hy111
            clear hy111
            have H' := Aside0.mk H
            clear H
            rcases HO_0 with ⟨rfl, rfl, HX⟩ | HO_0
            · have hgr : wr.heap[g]? = some (.cells (nums .u8 x0_1).toArray 5 fr) := (HB.out.block g hgl).trans HG.out
              have HGR := Aside0.mk hgr
              clear hgr
              go_wp2_with (first | ((with_reducible refine gate_builtin (b := .append) (xs := #[.tmp 14, .tmp 21]) rfl ?_); at_builtin; refine wpList_append_grows _ rfl (.tmp 14) (.tmp 21) 69 rfl 5 i0 (.int .u8 0) 1 1 Tryd.underlying69 hi hz0 hz1 hz2 rfl (by decide) (some ⟨g, 0, none⟩) x0_1.length x0_1.length (nums .u8 x0_1) rfl (fun h => by cases h) (by simp [nums]) ?holds ⟨wr.heap.size, 0, none⟩ 1 1 [.int .u8 ((wrap64 (48 + (Go.bits .and .i64 (ji6) 1))) % 256)] rfl rfl (cell_one_new wr _ 5) (by simp; rfl) (by omega) (by unfold maxLen; omega) (by omega) ?_; (case holds => (intro b hb j u hu; cases hb; rw [Addr.add_lit]; have hh := blk_alloc HGR.out (.cells #[.int .u8 ((wrap64 (48 + (Go.bits .and .i64 (ji6) 1))) % 256)] 5); simp only [World.cell?, hh, Nat.zero_add]; simpa using hu)); intro v112 w8 ho hgw; rw [show ((x0_1.length : Nat) + 1) = x0_1.length + 1 from rfl] at ho; have n1_ : Aside0 (Kd.R (Kd.int .u8) 5 w8 w.heap.size (fun _ => True) v112 y111) := ⟨by rw [Ny111.out]; exact R_grown_one ho (by have := below_size HB.out; simp; omega)⟩; have n0_ : Aside0 (Below w.heap.size w w8) := ⟨(below_alloc HB.out _).grown hgw (by have := below_size HB.out; simp; omega) (fun _ h => by cases h)⟩; clear hgw ho; clear HB; have HB := n0_; have HO113 := n1_; clear n0_ n1_))
              go_roundg k1
              case measure => have := HK1.out; omega
              case rel => exact ⟨(y111), (wrap64 (x7_1 - 1)), (by first | rfl | (simp; done) | (simp [*]; done)), H', ⟨by have := HK1.out; omega⟩, .inr ⟨HO113.out⟩, ⟨HB.out⟩⟩
            · go_wp2_with (first | ((with_reducible refine gate_builtin (b := .append) (xs := #[.tmp 14, .tmp 21]) rfl ?_); at_builtin; refine Kd.R_append (Kd.int .u8) (w0 := w) w.heap.size rfl (.tmp 14) (.tmp 21) 69 5 (.int .u8 0) 1 rfl Tryd.underlying69 info5 rfl (by decide) (by omega) u0 x0_1 ((wrap64 (48 + (Go.bits .and .i64 (ji6) 1))) % 256) [.int .u8 ((wrap64 (48 + (Go.bits .and .i64 (ji6) 1))) % 256)] (fun _ => True) (fun _ => False) rfl rfl ?aP (fun _ hk => hk.elim) ?aF ?aO ?aB ?aS ?aL ?_; (case aP => exact rfl); (case aB => exact (by repeat (first | (with_reducible first | exact HB.out | apply below_alloc | apply pw_below_drewN | apply below_drew1) | exact HB.out))); (case aF => exact (fun _ _ => trivial)); (case aO => exact (by (with_reducible repeat (first | apply Kd.R_alloc | apply Kd.R_drewN | apply Kd.R_drew)); exact HO_0.out)); (case aS => exact (below_size (by repeat (first | (with_reducible first | exact HB.out | apply below_alloc | apply pw_below_drewN | apply below_drew1) | exact HB.out)))); (case aL => have := LMc7.out; omega); intro v112 w8 ho hb hg hat; rw [← Ny111.out] at ho; have n0_ := Aside0.mk (hb); have n1_ := Aside0.mk (ho); clear HB; clear HO_0; have HB := n0_; have HO113 := n1_; clear n0_ n1_; clear ho hb hg hat))
              go_roundg k1
              case measure => have := HK1.out; omega
              case rel => exact ⟨(y111), (wrap64 (x7_1 - 1)), (by first | rfl | (simp; done) | (simp [*]; done)), H', ⟨by have := HK1.out; omega⟩, .inr ⟨HO113.out⟩, ⟨HB.out⟩⟩
          · rw [if_neg c7] at H
            exact absurd H (by simp)
        · rw [if_neg c5] at H
          exact absurd H (by simp)
      · rw [if_neg c4] at H
        have c4b0 : decide (0 ≤ x7_1) = false := decide_eq_false c4
        obtain rfl := Option.some.inj H
        rcases HO_0 with ⟨_, _, HX⟩ | HO_0
        · exact absurd HX.out c4
        · clear c4
          go_wp2
          go_ret
          exact ⟨_, by first | rfl | (simp [*]; done), HO_0.out, HB.out⟩
set_option maxHeartbeats 2000000 in
set_option maxRecDepth 100000 in
theorem fragOf_short (k : Nat) (a0 : Int) (r : List Int) (w : World) (h1 : decide (a0 < 128) = true) (hd : bits_digits.f k [48] a0 7 = some r) (hw : ∀ w, Calls Tryd.prog 66 #[.int .i64 a0, .int .i64 0, .int .i64 16383] w fun e w' => e = .returned (.bool true) ∧ Drawn0 w w') :
    Calls Tryd.prog 39 #[.int .i64 a0] w fun e w' => e = .returned (.tuple #[.string (strOfNums r), .int .i64 0]) ∧ Below w.heap.size w w' := by
  have HD := Aside0.mk hd
  clear hd
  go_enter Tryd.func39, Tryd.ntmps39
  go_wp2_with (first | (go_at_call 66; refine (hw _).mono ?_; rintro e w3 ⟨rfl, ⟨nd, rfl⟩⟩; have HB0 := Aside0.mk (pw_below_drewN (Below.refl w.heap.size w) nd); obtain ⟨W, hW⟩ : ∃ W, w.drewN nd = W := ⟨_, rfl⟩; have hWs : w.heap.size = W.heap.size := (by rw [← hW]; rfl); rw [hW] at HB0; (try rw [hW]); have hcv := run_conv_new (P := Tryd.prog) W 69 5 #[.int .u8 48] 1 1 Tryd.underlying69 Tryd.underlying5) | (go_at_call 56; refine (digits_full_calls k W.heap.size [48] a0 7 r (markW W #[.int .u8 48] 5) _ (by simp [wrap64]) (by simp) (markW_at W #[.int .u8 48] 5) HD.out).mono ?_; rintro e w4 ⟨v4, rfl, hv4, hb4⟩; have HB4 := Aside0.mk (below_step (HB0.out.grown (markW_grown W #[.int .u8 48] 5) (Nat.le_of_eq hWs) (fun _ h => by cases h)) hb4); have hstr := own_string (P := Tryd.prog) Tryd.underlying69 Tryd.underlying5 Tryd.underlying9 (Kd.own_of_R hv4)))
  go_ret2
  exact ⟨rfl, HB4.out⟩
set_option maxHeartbeats 2000000 in
set_option maxRecDepth 100000 in
theorem fragOf_long (k : Nat) (a0 : Int) (r : List Int) (w : World) (h1 : decide (a0 < 128) = false) (hd : bits_digits.f k [49, 48] a0 14 = some r) (hw : ∀ w, Calls Tryd.prog 66 #[.int .i64 a0, .int .i64 0, .int .i64 16383] w fun e w' => e = .returned (.bool true) ∧ Drawn0 w w') :
    Calls Tryd.prog 39 #[.int .i64 a0] w fun e w' => e = .returned (.tuple #[.string (strOfNums r), .int .i64 0]) ∧ Below w.heap.size w w' := by
  have HD := Aside0.mk hd
  clear hd
  go_enter Tryd.func39, Tryd.ntmps39
  go_wp2_with (first | (go_at_call 66; refine (hw _).mono ?_; rintro e w3 ⟨rfl, ⟨nd, rfl⟩⟩; have HB0 := Aside0.mk (pw_below_drewN (Below.refl w.heap.size w) nd); obtain ⟨W, hW⟩ : ∃ W, w.drewN nd = W := ⟨_, rfl⟩; have hWs : w.heap.size = W.heap.size := (by rw [← hW]; rfl); rw [hW] at HB0; (try rw [hW]); have hcv := run_conv_new (P := Tryd.prog) W 69 5 #[.int .u8 49, .int .u8 48] 2 2 Tryd.underlying69 Tryd.underlying5) | (go_at_call 56; refine (digits_full_calls k W.heap.size [49, 48] a0 14 r (markW W #[.int .u8 49, .int .u8 48] 5) _ (by simp [wrap64]) (by simp) (markW_at W #[.int .u8 49, .int .u8 48] 5) HD.out).mono ?_; rintro e w4 ⟨v4, rfl, hv4, hb4⟩; have HB4 := Aside0.mk (below_step (HB0.out.grown (markW_grown W #[.int .u8 49, .int .u8 48] 5) (Nat.le_of_eq hWs) (fun _ h => by cases h)) hb4); have hstr := own_string (P := Tryd.prog) Tryd.underlying69 Tryd.underlying5 Tryd.underlying9 (Kd.own_of_R hv4)))
  go_ret2
  exact ⟨rfl, HB4.out⟩
set_option maxHeartbeats 1000000 in
theorem fragOf_range (a0 : Int) (w : World) (hw : ∀ w, Calls Tryd.prog 66 #[.int .i64 a0, .int .i64 0, .int .i64 16383] w fun e w' => e = .returned (.bool false) ∧ Drawn0 w w') :
    Calls Tryd.prog 39 #[.int .i64 a0] w fun e w' => e = .returned (.tuple #[.string ⟨#[]⟩, .int .i64 3]) ∧ Below w.heap.size w w' := by
  go_enter Tryd.func39, Tryd.ntmps39
  go_wp2_with (first | (go_at_call 66; refine (hw _).mono ?_; rintro e w3 ⟨rfl, ⟨nd, rfl⟩⟩))
  go_ret2
  exact ⟨rfl, by apply pw_below_drewN; exact Below.refl _ _⟩
def bits_FragmentOf.f (a0 : Int) : Option (ByteArray × Int) :=
  if 0 ≤ a0 ∧ a0 ≤ 16383 then (if a0 < 128 then (bits_digits.f 40 [48] a0 7).bind fun t => some (strOfNums t, 0) else (bits_digits.f 40 [49, 48] a0 14).bind fun t => some (strOfNums t, 0)) else some (⟨#[]⟩, 3)
theorem bits_FragmentOf.calls (a0 : Int) (r1 : ByteArray) (r2 : Int) (w : World) (h : bits_FragmentOf.f a0 = some (r1, r2)) :
    Calls Tryd.prog 39 #[.int .i64 a0] w fun e w' => e = .returned (.tuple #[.string r1, .int .i64 r2]) ∧ Below w.heap.size w w' := by
  unfold bits_FragmentOf.f at h
  by_cases ha : 0 ≤ a0 ∧ a0 ≤ 16383
  · rw [if_pos ha] at h
    have hw := fun w => bits_within.calls a0 0 16383 true w (by rw [bits_within_eq, decide_eq_true ha])
    by_cases h1 : a0 < 128
    · rw [if_pos h1] at h
      obtain ⟨t, ht, h⟩ := Option.bind_eq_some_iff.1 h
      obtain ⟨rfl, rfl⟩ := Prod.mk.inj (Option.some.inj h)
      exact fragOf_short 40 a0 t w (decide_eq_true h1) ht hw
    · rw [if_neg h1] at h
      obtain ⟨t, ht, h⟩ := Option.bind_eq_some_iff.1 h
      obtain ⟨rfl, rfl⟩ := Prod.mk.inj (Option.some.inj h)
      exact fragOf_long 40 a0 t w (decide_eq_false h1) ht hw
  · rw [if_neg ha] at h
    obtain ⟨rfl, rfl⟩ := Prod.mk.inj (Option.some.inj h)
    exact fragOf_range a0 w (fun w => bits_within.calls a0 0 16383 false w (by rw [bits_within_eq, decide_eq_false ha]))
end Go.Proofs.YthicmbhldjebfaaDoor.PA
