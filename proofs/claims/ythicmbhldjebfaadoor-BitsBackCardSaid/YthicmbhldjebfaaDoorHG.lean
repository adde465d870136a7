/- bits.FragmentIn: by hand, in the printer's form. -/
import Derived.Test.YthicmbhldjebfaaDoorPAx14
import Derived.Test.YthicmbhldjebfaaDoorHP1
import Derived.Lib.Hide
namespace Go.Proofs.YthicmbhldjebfaaDoor.PA
open Go Go.RowKit Go.Proofs.YthicmbhldjebfaaDoorW.PrintWords Go.Proofs.YthicmbhldjebfaaDoorW.PrintLast Go.Proofs.YthicmbhldjebfaaDoorW.PrintMore
set_option linter.unusedVariables false
set_option linter.unusedSimpArgs false
/-- The answer, plainly. -/
def fragB (s : ByteArray) (at_ : Int) : Int × Int × Int :=
  if bitsE s = 0 then (if 0 ≤ at_ ∧ at_ ≤ (s.size : Int) then
    (let r := s.extract at_.toNat s.size
     if (r.size : Int) < 8 then (0, 0, 9) else if bt r 0 = 49 then (if (r.size : Int) < 16 then (0, 0, 9) else if bt r 1 = 49 then (0, 0, 31) else if numB (r.extract 2 16) < 128 then (0, 0, 20) else (numB (r.extract 2 16), wrap64 (at_ + 16), 0))
      else (numB (r.extract 1 8), wrap64 (at_ + 8), 0))
    else (0, 0, 3)) else (0, 0, bitsE s)
theorem bt48 (s : ByteArray) (h : all01 s = true) (i : Nat) (hi : i < s.size) : bt s (i : Int) = 48 ∨ bt s (i : Int) = 49 := by
  have hl : i < s.data.toList.length := by simpa using hi
  rw [bt_nat s i hl]
  exact (is01_num _).1 ((all01_iff s).1 h i hl)
theorem all01_extract (s : ByteArray) (h : all01 s = true) (a b : Nat) : all01 (s.extract a b) = true := by
  unfold all01 at *
  rw [List.all_eq_true] at *
  intro x hx
  apply h
  simp [ByteArray.data_extract] at hx
  exact List.mem_of_mem_drop (List.mem_of_mem_take hx)
theorem bitsE_zero {s : ByteArray} (he : bitsE s = 0) : all01 s = true ∧ s.size ≤ 32000 := by
  unfold bitsE at he
  split at he
  · simp at he
  · split at he
    · exact ⟨by assumption, by omega⟩
    · simp at he
theorem byte_of_bt (r : ByteArray) (i : Nat) (c : UInt8) (hb : bt r (i : Int) = (c.toNat : Int)) (h : i < r.size) : r[i]'h = c := by
  have hl : i < r.data.toList.length := by simpa using h
  rw [bt_nat r i hl] at hb
  have h2 : r.data.toList[i] = c := UInt8.toNat_inj.1 (by omega)
  rw [← h2]
  show r.data[i] = r.data.toList[i]
  simp
theorem bits_check_calls (s : ByteArray) (w : World) : Calls Tryd.prog 18 #[.string s] w fun e w' => e = .returned (.int .i64 (bitsE s)) ∧ Below w.heap.size w w' := bits_CheckBits.calls s (bitsE s) w (check_eq s)
theorem bits_number_calls (s : ByteArray) (hs : s.size ≤ 9223372036854775807) (w : World) : Calls Tryd.prog 67 #[.string s] w fun e w' => e = .returned (.int .i64 (numB s)) ∧ Drawn0 w w' := by
  obtain ⟨K, h⟩ := number_eq s hs
  exact bits_number.calls K s (numB s) w (h K (Nat.le_refl _))
def bits_FragmentIn.f (s : ByteArray) (at_ : Int) : Option (Int × Int × Int) := some (fragB s at_)
set_option maxHeartbeats 2000000 in
set_option maxRecDepth 100000 in
theorem fragIn_err (a0 : ByteArray) (a1 E : Int) (w : World) (e1 : (E == 0) = false) (e2 : (E != 0) = true) (hc : Calls Tryd.prog 18 #[.string a0] w fun e w' => e = .returned (.int .i64 E) ∧ Below w.heap.size w w') :
    Calls Tryd.prog 25 #[.string a0, .int .i64 a1] w fun e w' => e = .returned (.tuple #[.int .i64 0, .int .i64 0, .int .i64 E]) ∧ Below w.heap.size w w' := by
  go_enter Tryd.func25, Tryd.ntmps25
  go_wp2_with (first | (go_at_call 18; refine hc.mono ?_; rintro e w2 ⟨rfl, hb⟩))
  go_ret3
  exact ⟨rfl, hb⟩
set_option maxHeartbeats 2000000 in
set_option maxRecDepth 100000 in
theorem fragIn_range (a0 : ByteArray) (a1 : Int) (w : World) (hc : Calls Tryd.prog 18 #[.string a0] w fun e w' => e = .returned (.int .i64 0) ∧ Below w.heap.size w w') (hw : ∀ w, Calls Tryd.prog 66 #[.int .i64 a1, .int .i64 0, .int .i64 (a0.size : Int)] w fun e w' => e = .returned (.bool false) ∧ Drawn0 w w') :
    Calls Tryd.prog 25 #[.string a0, .int .i64 a1] w fun e w' => e = .returned (.tuple #[.int .i64 0, .int .i64 0, .int .i64 3]) ∧ Below w.heap.size w w' := by
  go_enter Tryd.func25, Tryd.ntmps25
  go_wp2_with (first | (go_at_call 18; refine hc.mono ?_; rintro e w2 ⟨rfl, hb⟩) | (go_at_call 66; refine (hw _).mono ?_; rintro e w3 ⟨rfl, ⟨nd, rfl⟩⟩))
  go_ret3
  exact ⟨rfl, by apply pw_below_drewN; exact hb⟩
set_option maxHeartbeats 2000000 in
set_option maxRecDepth 100000 in
theorem fragIn_short (a0 R : ByteArray) (n : Nat) (w : World) (hc : Calls Tryd.prog 18 #[.string a0] w fun e w' => e = .returned (.int .i64 0) ∧ Below w.heap.size w w') (hw : ∀ w, Calls Tryd.prog 66 #[.int .i64 (n : Int), .int .i64 0, .int .i64 (a0.size : Int)] w fun e w' => e = .returned (.bool true) ∧ Drawn0 w w') (hn0 : n ≤ a0.size) (hR : a0.extract n a0.size = R) (z8 : ((R.size : Int) < 8) = True) (z8d : decide ((R.size : Int) < 8) = true) (z8e : decide (R.size < 8) = true)  :
    Calls Tryd.prog 25 #[.string a0, .int .i64 (n : Int)] w fun e w' => e = .returned (.tuple #[.int .i64 0, .int .i64 0, .int .i64 9]) ∧ Below w.heap.size w w' := by
  go_enter Tryd.func25, Tryd.ntmps25
  go_wp2_with (first | (go_at_call 18; refine hc.mono ?_; rintro e w2 ⟨rfl, hb⟩) | (go_at_call 66; refine (hw _).mono ?_; rintro e w3 ⟨rfl, ⟨nd, rfl⟩⟩))
  go_ret3
  exact ⟨rfl, by apply pw_below_drewN; exact hb⟩
set_option maxHeartbeats 2000000 in
set_option maxRecDepth 100000 in
theorem fragIn_short16 (a0 R : ByteArray) (n : Nat) (w : World) (hc : Calls Tryd.prog 18 #[.string a0] w fun e w' => e = .returned (.int .i64 0) ∧ Below w.heap.size w w') (hw : ∀ w, Calls Tryd.prog 66 #[.int .i64 (n : Int), .int .i64 0, .int .i64 (a0.size : Int)] w fun e w' => e = .returned (.bool true) ∧ Drawn0 w w') (hn0 : n ≤ a0.size) (hR : a0.extract n a0.size = R) (z8 : ((R.size : Int) < 8) = False) (z8d : decide ((R.size : Int) < 8) = false) (z8e : decide (R.size < 8) = false) (z16 : ((R.size : Int) < 16) = True) (z16d : decide ((R.size : Int) < 16) = true) (z16e : decide (R.size < 16) = true) (q0 : (0 < R.size) = True) (qi0 : (0 < (R.size : Int)) = True) (x0 : ∀ h : 0 < R.size, R[0]'h = 49)  :
    Calls Tryd.prog 25 #[.string a0, .int .i64 (n : Int)] w fun e w' => e = .returned (.tuple #[.int .i64 0, .int .i64 0, .int .i64 9]) ∧ Below w.heap.size w w' := by
  go_enter Tryd.func25, Tryd.ntmps25
  go_wp2_with (first | (go_at_call 18; refine hc.mono ?_; rintro e w2 ⟨rfl, hb⟩) | (go_at_call 66; refine (hw _).mono ?_; rintro e w3 ⟨rfl, ⟨nd, rfl⟩⟩))
  go_ret3
  exact ⟨rfl, by apply pw_below_drewN; exact hb⟩
set_option maxHeartbeats 2000000 in
set_option maxRecDepth 100000 in
theorem fragIn_one (a0 R : ByteArray) (n : Nat) (w : World) (hc : Calls Tryd.prog 18 #[.string a0] w fun e w' => e = .returned (.int .i64 0) ∧ Below w.heap.size w w') (hw : ∀ w, Calls Tryd.prog 66 #[.int .i64 (n : Int), .int .i64 0, .int .i64 (a0.size : Int)] w fun e w' => e = .returned (.bool true) ∧ Drawn0 w w') (hn0 : n ≤ a0.size) (hR : a0.extract n a0.size = R) (N : Int) (z8 : ((R.size : Int) < 8) = False) (z8d : decide ((R.size : Int) < 8) = false) (z8e : decide (R.size < 8) = false) (q0 : (0 < R.size) = True) (qi0 : (0 < (R.size : Int)) = True) (x0 : ∀ h : 0 < R.size, R[0]'h = 48) (l8 : (8 ≤ R.size) = True) (li8 : (8 ≤ (R.size : Int)) = True) (hn : ∀ w, Calls Tryd.prog 67 #[.string (R.extract 1 8)] w fun e w' => e = .returned (.int .i64 N) ∧ Drawn0 w w') :
    Calls Tryd.prog 25 #[.string a0, .int .i64 (n : Int)] w fun e w' => e = .returned (.tuple #[.int .i64 N, .int .i64 (wrap64 ((n : Int) + 8)), .int .i64 0]) ∧ Below w.heap.size w w' := by
  go_enter Tryd.func25, Tryd.ntmps25
  go_wp2_with (first | (go_at_call 18; refine hc.mono ?_; rintro e w2 ⟨rfl, hb⟩) | (go_at_call 66; refine (hw _).mono ?_; rintro e w3 ⟨rfl, ⟨nd, rfl⟩⟩) | (go_at_call 67; refine (hn _).mono ?_; rintro e w4 ⟨rfl, ⟨nd2, rfl⟩⟩))
  go_ret3
  exact ⟨rfl, by repeat (first | exact hb | apply pw_below_drewN)⟩
set_option maxHeartbeats 2000000 in
set_option maxRecDepth 100000 in
theorem fragIn_refused (a0 R : ByteArray) (n : Nat) (w : World) (hc : Calls Tryd.prog 18 #[.string a0] w fun e w' => e = .returned (.int .i64 0) ∧ Below w.heap.size w w') (hw : ∀ w, Calls Tryd.prog 66 #[.int .i64 (n : Int), .int .i64 0, .int .i64 (a0.size : Int)] w fun e w' => e = .returned (.bool true) ∧ Drawn0 w w') (hn0 : n ≤ a0.size) (hR : a0.extract n a0.size = R) (z8 : ((R.size : Int) < 8) = False) (z8d : decide ((R.size : Int) < 8) = false) (z8e : decide (R.size < 8) = false) (z16 : ((R.size : Int) < 16) = False) (z16d : decide ((R.size : Int) < 16) = false) (z16e : decide (R.size < 16) = false) (q0 : (0 < R.size) = True) (qi0 : (0 < (R.size : Int)) = True) (x0 : ∀ h : 0 < R.size, R[0]'h = 49) (q1 : (1 < R.size) = True) (qi1 : (1 < (R.size : Int)) = True) (x1 : ∀ h : 1 < R.size, R[1]'h = 49)  :
    Calls Tryd.prog 25 #[.string a0, .int .i64 (n : Int)] w fun e w' => e = .returned (.tuple #[.int .i64 0, .int .i64 0, .int .i64 31]) ∧ Below w.heap.size w w' := by
  go_enter Tryd.func25, Tryd.ntmps25
  go_wp2_with (first | (go_at_call 18; refine hc.mono ?_; rintro e w2 ⟨rfl, hb⟩) | (go_at_call 66; refine (hw _).mono ?_; rintro e w3 ⟨rfl, ⟨nd, rfl⟩⟩))
  go_ret3
  exact ⟨rfl, by apply pw_below_drewN; exact hb⟩
set_option maxHeartbeats 2000000 in
set_option maxRecDepth 100000 in
theorem fragIn_canon (a0 R : ByteArray) (n : Nat) (w : World) (hc : Calls Tryd.prog 18 #[.string a0] w fun e w' => e = .returned (.int .i64 0) ∧ Below w.heap.size w w') (hw : ∀ w, Calls Tryd.prog 66 #[.int .i64 (n : Int), .int .i64 0, .int .i64 (a0.size : Int)] w fun e w' => e = .returned (.bool true) ∧ Drawn0 w w') (hn0 : n ≤ a0.size) (hR : a0.extract n a0.size = R) (N : Int) (g0 : (128 ≤ N) = False) (g1 : decide (N ≥ 128) = false) (g2 : decide (128 ≤ N) = false) (z8 : ((R.size : Int) < 8) = False) (z8d : decide ((R.size : Int) < 8) = false) (z8e : decide (R.size < 8) = false) (z16 : ((R.size : Int) < 16) = False) (z16d : decide ((R.size : Int) < 16) = false) (z16e : decide (R.size < 16) = false) (q0 : (0 < R.size) = True) (qi0 : (0 < (R.size : Int)) = True) (x0 : ∀ h : 0 < R.size, R[0]'h = 49) (q1 : (1 < R.size) = True) (qi1 : (1 < (R.size : Int)) = True) (x1 : ∀ h : 1 < R.size, R[1]'h = 48) (l16 : (16 ≤ R.size) = True) (li16 : (16 ≤ (R.size : Int)) = True) (hn : ∀ w, Calls Tryd.prog 67 #[.string (R.extract 2 16)] w fun e w' => e = .returned (.int .i64 N) ∧ Drawn0 w w') :
    Calls Tryd.prog 25 #[.string a0, .int .i64 (n : Int)] w fun e w' => e = .returned (.tuple #[.int .i64 0, .int .i64 0, .int .i64 20]) ∧ Below w.heap.size w w' := by
  go_enter Tryd.func25, Tryd.ntmps25
  go_wp2_with (first | (go_at_call 18; refine hc.mono ?_; rintro e w2 ⟨rfl, hb⟩) | (go_at_call 66; refine (hw _).mono ?_; rintro e w3 ⟨rfl, ⟨nd, rfl⟩⟩) | (go_at_call 67; refine (hn _).mono ?_; rintro e w4 ⟨rfl, ⟨nd2, rfl⟩⟩))
  go_ret3
  exact ⟨rfl, by repeat (first | exact hb | apply pw_below_drewN)⟩
set_option maxHeartbeats 2000000 in
set_option maxRecDepth 100000 in
theorem fragIn_two (a0 R : ByteArray) (n : Nat) (w : World) (hc : Calls Tryd.prog 18 #[.string a0] w fun e w' => e = .returned (.int .i64 0) ∧ Below w.heap.size w w') (hw : ∀ w, Calls Tryd.prog 66 #[.int .i64 (n : Int), .int .i64 0, .int .i64 (a0.size : Int)] w fun e w' => e = .returned (.bool true) ∧ Drawn0 w w') (hn0 : n ≤ a0.size) (hR : a0.extract n a0.size = R) (N : Int) (g0 : (128 ≤ N) = True) (g1 : decide (N ≥ 128) = true) (g2 : decide (128 ≤ N) = true) (z8 : ((R.size : Int) < 8) = False) (z8d : decide ((R.size : Int) < 8) = false) (z8e : decide (R.size < 8) = false) (z16 : ((R.size : Int) < 16) = False) (z16d : decide ((R.size : Int) < 16) = false) (z16e : decide (R.size < 16) = false) (q0 : (0 < R.size) = True) (qi0 : (0 < (R.size : Int)) = True) (x0 : ∀ h : 0 < R.size, R[0]'h = 49) (q1 : (1 < R.size) = True) (qi1 : (1 < (R.size : Int)) = True) (x1 : ∀ h : 1 < R.size, R[1]'h = 48) (l16 : (16 ≤ R.size) = True) (li16 : (16 ≤ (R.size : Int)) = True) (hn : ∀ w, Calls Tryd.prog 67 #[.string (R.extract 2 16)] w fun e w' => e = .returned (.int .i64 N) ∧ Drawn0 w w') :
    Calls Tryd.prog 25 #[.string a0, .int .i64 (n : Int)] w fun e w' => e = .returned (.tuple #[.int .i64 N, .int .i64 (wrap64 ((n : Int) + 16)), .int .i64 0]) ∧ Below w.heap.size w w' := by
  go_enter Tryd.func25, Tryd.ntmps25
  go_wp2_with (first | (go_at_call 18; refine hc.mono ?_; rintro e w2 ⟨rfl, hb⟩) | (go_at_call 66; refine (hw _).mono ?_; rintro e w3 ⟨rfl, ⟨nd, rfl⟩⟩) | (go_at_call 67; refine (hn _).mono ?_; rintro e w4 ⟨rfl, ⟨nd2, rfl⟩⟩))
  go_ret3
  exact ⟨rfl, by repeat (first | exact hb | apply pw_below_drewN)⟩
theorem bits_FragmentIn.calls (a0 : ByteArray) (a1 : Int) (r1 r2 r3 : Int) (w : World) (h : bits_FragmentIn.f a0 a1 = some (r1, r2, r3)) :
    Calls Tryd.prog 25 #[.string a0, .int .i64 a1] w fun e w' => e = .returned (.tuple #[.int .i64 r1, .int .i64 r2, .int .i64 r3]) ∧ Below w.heap.size w w' := by
  have hj : fragB a0 a1 = (r1, r2, r3) := Option.some.inj h
  clear h
  have hc := bits_check_calls a0 w
  unfold fragB at hj
  by_cases he : bitsE a0 = 0
  · obtain ⟨h01, hsz⟩ := bitsE_zero he
    rw [if_pos he] at hj
    rw [he] at hc
    by_cases ha : 0 ≤ a1 ∧ a1 ≤ (a0.size : Int)
    · rw [if_pos ha] at hj
      have hw := fun w => bits_within.calls a1 0 (a0.size : Int) true w (by rw [bits_within_eq, decide_eq_true ha])
      obtain ⟨n, rfl⟩ := Int.eq_ofNat_of_zero_le ha.1
      have hn : n ≤ a0.size := by omega
      dsimp only at hj
      rw [Int.toNat_natCast] at hj
      obtain ⟨R, hR⟩ : ∃ R, a0.extract n a0.size = R := ⟨_, rfl⟩
      have hR01 : all01 R = true := hR ▸ all01_extract a0 h01 n a0.size
      have hRs : R.size ≤ 32000 := by rw [← hR]; simp; omega
      rw [hR] at hj
      by_cases h8 : (R.size : Int) < 8
      · rw [if_pos h8] at hj
        obtain ⟨rfl, hj2⟩ := Prod.mk.inj hj
        obtain ⟨rfl, rfl⟩ := Prod.mk.inj hj2
        exact fragIn_short a0 R n w hc hw hn hR (eq_true h8) (decide_eq_true h8) (decide_eq_true (by omega))
      · rw [if_neg h8] at hj
        have hb0 := bt48 R hR01 0 (by omega)
        by_cases h1 : bt R 0 = 49
        · rw [if_pos h1] at hj
          have x0 := byte_of_bt R 0 49 h1
          by_cases h16 : (R.size : Int) < 16
          · rw [if_pos h16] at hj
            obtain ⟨rfl, hj2⟩ := Prod.mk.inj hj
            obtain ⟨rfl, rfl⟩ := Prod.mk.inj hj2
            exact fragIn_short16 a0 R n w hc hw hn hR (eq_false h8) (decide_eq_false h8) (decide_eq_false (by omega)) (eq_true h16) (decide_eq_true h16) (decide_eq_true (by omega)) (eq_true (by omega)) (eq_true (by omega)) x0
          · rw [if_neg h16] at hj
            have hb1 := bt48 R hR01 1 (by omega)
            by_cases h2 : bt R 1 = 49
            · rw [if_pos h2] at hj
              obtain ⟨rfl, hj2⟩ := Prod.mk.inj hj
              obtain ⟨rfl, rfl⟩ := Prod.mk.inj hj2
              exact fragIn_refused a0 R n w hc hw hn hR (eq_false h8) (decide_eq_false h8) (decide_eq_false (by omega)) (eq_false h16) (decide_eq_false h16) (decide_eq_false (by omega)) (eq_true (by omega)) (eq_true (by omega)) x0 (eq_true (by omega)) (eq_true (by omega)) (byte_of_bt R 1 49 h2)
            · rw [if_neg h2] at hj
              have x1 := byte_of_bt R 1 48 (by rcases hb1 with h | h; exact h; exact absurd h h2)
              have hnum := fun w => bits_number_calls (R.extract 2 16) (by simp; omega) w
              generalize numB (R.extract 2 16) = N at *
              by_cases h3 : N < 128
              · rw [if_pos h3] at hj
                obtain ⟨rfl, hj2⟩ := Prod.mk.inj hj
                obtain ⟨rfl, rfl⟩ := Prod.mk.inj hj2
                exact fragIn_canon a0 R n w hc hw hn hR N (eq_false (by omega)) (decide_eq_false (by omega)) (decide_eq_false (by omega)) (eq_false h8) (decide_eq_false h8) (decide_eq_false (by omega)) (eq_false h16) (decide_eq_false h16) (decide_eq_false (by omega)) (eq_true (by omega)) (eq_true (by omega)) x0 (eq_true (by omega)) (eq_true (by omega)) x1 (eq_true (by omega)) (eq_true (by omega)) hnum
              · rw [if_neg h3] at hj
                obtain ⟨rfl, hj2⟩ := Prod.mk.inj hj
                obtain ⟨rfl, rfl⟩ := Prod.mk.inj hj2
                exact fragIn_two a0 R n w hc hw hn hR N (eq_true (by omega)) (decide_eq_true (by omega)) (decide_eq_true (by omega)) (eq_false h8) (decide_eq_false h8) (decide_eq_false (by omega)) (eq_false h16) (decide_eq_false h16) (decide_eq_false (by omega)) (eq_true (by omega)) (eq_true (by omega)) x0 (eq_true (by omega)) (eq_true (by omega)) x1 (eq_true (by omega)) (eq_true (by omega)) hnum
        · rw [if_neg h1] at hj
          have x0 := byte_of_bt R 0 48 (by rcases hb0 with h | h; exact h; exact absurd h h1)
          have hnum := fun w => bits_number_calls (R.extract 1 8) (by simp; omega) w
          generalize numB (R.extract 1 8) = N at *
          obtain ⟨rfl, hj2⟩ := Prod.mk.inj hj
          obtain ⟨rfl, rfl⟩ := Prod.mk.inj hj2
          exact fragIn_one a0 R n w hc hw hn hR N (eq_false h8) (decide_eq_false h8) (decide_eq_false (by omega)) (eq_true (by omega)) (eq_true (by omega)) x0 (eq_true (by omega)) (eq_true (by omega)) hnum
    · rw [if_neg ha] at hj
      obtain ⟨rfl, hj2⟩ := Prod.mk.inj hj
      obtain ⟨rfl, rfl⟩ := Prod.mk.inj hj2
      exact fragIn_range a0 a1 w hc (fun w => bits_within.calls a1 0 (a0.size : Int) false w (by rw [bits_within_eq, decide_eq_false ha]))
  · rw [if_neg he] at hj
    obtain ⟨rfl, hj2⟩ := Prod.mk.inj hj
    obtain ⟨rfl, rfl⟩ := Prod.mk.inj hj2
    exact fragIn_err a0 a1 _ w (beq_eq_false_iff_ne.mpr he) (bne_iff_ne.mpr he) hc
end Go.Proofs.YthicmbhldjebfaaDoor.PA
