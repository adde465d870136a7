/- bits.SeptetsIn: by hand, in the printer's form. -/
import Derived.Test.YthicmbhldjebfaaDoorPAx7
import Derived.Test.YthicmbhldjebfaaDoorHP1
import Derived.Lib.ConvBytes
import Derived.Lib.Hide
namespace Go.Proofs.YthicmbhldjebfaaDoor.PA
open Go Go.RowKit Go.Proofs.YthicmbhldjebfaaDoorW.PrintWords Go.Proofs.YthicmbhldjebfaaDoorW.PrintLast Go.Proofs.YthicmbhldjebfaaDoorW.PrintMore
set_option linter.unusedVariables false
set_option linter.unusedSimpArgs false
/-- Where the octets from 128 on end. -/
def endF (s : ByteArray) : Nat → Nat → Nat
  | 0, i => i
  | d + 1, i => if i < s.size then (if 128 ≤ bt s (i : Int) then endF s d (i + 1) else i) else i
/-- The number of septets, if it is not too great. -/
def accF : List Int → Int → Option Int
  | [], n => some n
  | b :: r, n => if n > 9007199254740992 then none else accF r (Go.bits .or .i64 (wrap64 (n * 128)) (wrap64 (Go.bits .and .u8 b 127)))
def placeE (s : ByteArray) (a : Int) : Int := if (s.size : Int) > 4000 then 2 else if 0 ≤ a ∧ a ≤ (s.size : Int) then 0 else 3
theorem placeErr_eq (s : ByteArray) (a : Int) : bits_placeErr.f s a = some (placeE s a) := by
  unfold bits_placeErr.f bits_octetsErr.f placeE
  simp only [bits_within_eq]
  by_cases h : (s.size : Int) > 4000
  · simp only [if_pos h, Option.bind_some, if_neg (show ¬ (2 : Int) = 0 by decide)]
  · simp only [if_neg h, Option.bind_some, if_true]
    by_cases h2 : 0 ≤ a ∧ a ≤ (s.size : Int)
    · simp only [decide_eq_true h2, if_true, if_pos h2]
    · simp only [decide_eq_false h2, Bool.false_eq_true, if_false, if_neg h2]
def sepEnd (x : Option Int) (e : Nat) : Int × Int × Int := match x with
  | none => (0, 0, 25)
  | some n => if n > 1152921504606846976 then (0, 0, 25) else (n, (e : Int) + 1, 0)
def septInB (s : ByteArray) (a : Int) : Int × Int × Int :=
  if placeE s a = 0 then
    (if a < (s.size : Int) ∧ bt s a = 128 then (0, 0, 5) else
      (if endF s (s.size - a.toNat) a.toNat = s.size then (0, 0, 9) else sepEnd (accF (bytesOf (s.extract a.toNat (endF s (s.size - a.toNat) a.toNat + 1))) 0) (endF s (s.size - a.toNat) a.toNat)))
  else (0, 0, placeE s a)
theorem and128 (c : UInt8) : Go.bits .and .u8 (c.toNat : Int) 128 = if 128 ≤ c.toNat then 128 else 0 := by
  have h : ∀ n : Nat, n < 256 → Go.bits .and .u8 (n : Int) 128 = if 128 ≤ n then 128 else 0 := by decide +kernel
  exact h _ (UInt8.toNat_lt c)
theorem byte_eq (r : ByteArray) (i : Nat) (h : i < r.size) : ∃ c : UInt8, (∀ h' : i < r.size, r[i]'h' = c) ∧ bt r (i : Int) = (c.toNat : Int) := by
  refine ⟨r[i]'h, fun _ => rfl, ?_⟩
  unfold bt
  rw [Int.toNat_natCast, dif_pos h]
theorem grown_conv (w : World) (e : TypeId) (s : ByteArray) : w.grownBy (Lib.bytesWorld w e s) none := ⟨rfl, rfl, rfl, by rw [Lib.bytesWorld_size]; omega, fun j hj _ => Lib.bytesWorld_at_old w e s j hj⟩
set_option maxHeartbeats 4000000 in
set_option maxRecDepth 100000 in
theorem septIn_err (s : ByteArray) (a E : Int) (w : World) (e1 : (E == 0) = false) (e2 : (E != 0) = true) (hp : Calls Tryd.prog 74 #[.string s, .int .i64 a] w fun e w' => e = .returned (.int .i64 E) ∧ Drawn0 w w') :
    Calls Tryd.prog 47 #[.string s, .int .i64 a] w fun e w' => e = .returned (.tuple #[.int .i64 0, .int .i64 0, .int .i64 E]) ∧ Below w.heap.size w w' := by
  go_enter Tryd.func47, Tryd.ntmps47
  go_wp2_with (go_at_call 74; refine hp.mono ?_; rintro e w2 ⟨rfl, ⟨nd, rfl⟩⟩)
  go_ret3
  exact ⟨rfl, by apply pw_below_drewN; exact Below.refl _ _⟩
set_option maxHeartbeats 4000000 in
set_option maxRecDepth 100000 in
theorem septIn_form (s : ByteArray) (n : Nat) (w : World) (y0 : ((n : Int) < (s.size : Int)) = True) (y1 : decide ((n : Int) < (s.size : Int)) = true) (y2 : decide (n < s.size) = true) (y3 : (n < s.size) = True) (x0 : ∀ h : n < s.size, s[n]'h = 128) (hp : Calls Tryd.prog 74 #[.string s, .int .i64 (n : Int)] w fun e w' => e = .returned (.int .i64 0) ∧ Drawn0 w w') :
    Calls Tryd.prog 47 #[.string s, .int .i64 (n : Int)] w fun e w' => e = .returned (.tuple #[.int .i64 0, .int .i64 0, .int .i64 5]) ∧ Below w.heap.size w w' := by
  go_enter Tryd.func47, Tryd.ntmps47
  go_wp2_with (go_at_call 74; refine hp.mono ?_; rintro e w2 ⟨rfl, ⟨nd, rfl⟩⟩)
  go_ret3
  exact ⟨rfl, by apply pw_below_drewN; exact Below.refl _ _⟩
set_option maxHeartbeats 4000000 in
set_option maxRecDepth 100000 in
theorem septIn_in (s : ByteArray) (n E : Nat) (r1 r2 r3 : Int) (w : World) (hs : s.size ≤ 4000) (hn : n ≤ s.size) (y0 : ((n : Int) < (s.size : Int)) = True) (y1 : decide ((n : Int) < (s.size : Int)) = true) (y2 : decide (n < s.size) = true) (y3 : (n < s.size) = True) (c0 : UInt8) (x0 : ∀ h : n < s.size, s[n]'h = c0) (x1 : ((c0.toNat : Int) == 128) = false) (x2 : (c0 == 128) = false) (x3 : ((c0.toNat : Int) = 128) = False) (hp : Calls Tryd.prog 74 #[.string s, .int .i64 (n : Int)] w fun e w' => e = .returned (.int .i64 0) ∧ Drawn0 w w')
    (hE : endF s (s.size - n) n = E) (hR : (if E = s.size then ((0 : Int), (0 : Int), (9 : Int)) else sepEnd (accF (bytesOf (s.extract n (E + 1))) 0) E) = (r1, r2, r3)) :
    Calls Tryd.prog 47 #[.string s, .int .i64 (n : Int)] w fun e w' => e = .returned (.tuple #[.int .i64 r1, .int .i64 r2, .int .i64 r3]) ∧ Below w.heap.size w w' := by
  have HE := Lib.hid hE
  have HR := Lib.hid hR
  clear hE hR
  go_enter Tryd.func47, Tryd.ntmps47
  go_wp2_with (go_at_call 74; refine hp.mono ?_; rintro e w2 ⟨rfl, ⟨nd, rfl⟩⟩; have HB0 := Aside0.mk (pw_below_drewN (Below.refl w.heap.size w) nd); have HS0 := Lib.hid (show w.heap.size ≤ (w.drewN nd).heap.size from Nat.le_refl _); obtain ⟨W, hW⟩ : ∃ W, w.drewN nd = W := ⟨_, rfl⟩; rw [hW] at HB0 HS0; (try rw [hW]); clear hW)
  go_loop [8] (fun v => ∃ k : Nat, n ≤ k ∧ k ≤ s.size ∧ v = .int .i64 k ∧ Hid (endF s (s.size - k) k = E)) (fun v => s.size - (intOf v).toNat)
  case atStart => exact ⟨n, Nat.le_refl _, hn, rfl, HE⟩
  case round =>
    obtain ⟨k, hnk, hk, rfl, HK⟩ := hrel
    clear HE
    by_cases hlt : k < s.size
    · have q0 : (k < s.size) = True := eq_true hlt
      have q1 : ((k : Int) < (s.size : Int)) = True := eq_true (by omega)
      have q2 : decide ((k : Int) < (s.size : Int)) = true := decide_eq_true (by omega)
      have q3 : decide (k < s.size) = true := decide_eq_true hlt
      obtain ⟨c, hc, hcb⟩ := byte_eq s k hlt
      have ha := and128 c
      by_cases hge : 128 ≤ c.toNat
      · rw [if_pos hge] at ha
        have hK : endF s (s.size - (k + 1)) (k + 1) = E := by
          have h := HK.out
          rw [show s.size - k = (s.size - (k + 1)) + 1 by omega] at h
          unfold endF at h
          rw [if_pos hlt, if_pos (by rw [hcb]; omega)] at h
          exact h
        have HK2 := Lib.hid hK
        have hnw : wrap64 ((k : Int) + 1) = ((k + 1 : Nat) : Int) := by unfold wrap64; omega
        have HNW := Lib.hid hnw
        have HMS := Lib.hid (show s.size - (k + 1) < s.size - k by omega)
        clear hcb hge hK HK hnw
        go_wp2
        go_round
        case rel => exact ⟨k + 1, by omega, by omega, by first | exact congrArg (Value.int .i64) HNW.out | (simp; done) | (simp [*]; done), HK2⟩
        case measure => simp [intOf]; omega
      · rw [if_neg hge] at ha
        have hKE : k = E := by
          have h := HK.out
          rw [show s.size - k = (s.size - (k + 1)) + 1 by omega] at h
          unfold endF at h
          rw [if_pos hlt, if_neg (by rw [hcb]; omega)] at h
          exact h
        subst hKE
        clear hcb hge HK
        have hR := HR.out
        rw [if_neg (by omega)] at hR
        have HR2 := Lib.hid hR
        clear hR HR
        have z0 : ((k : Int) = (s.size : Int)) = False := eq_false (by omega)
        have z1 : ((k : Int) == (s.size : Int)) = false := beq_eq_false_iff_ne.mpr (by omega)
        have z2 : (k = s.size) = False := eq_false (by omega)
        have z3 : (k == s.size) = false := beq_eq_false_iff_ne.mpr (by omega)
        obtain ⟨P, hP⟩ : ∃ P, s.extract n (k + 1) = P := ⟨_, rfl⟩
        have hPs : P.size ≤ 4000 := by rw [← hP]; simp; omega
        have h2 := HR2.out
        rw [hP] at h2
        have HR3 := Lib.hid h2
        clear h2 HR2
        have hw1 : wrap64 ((k : Int) + 1) = (k : Int) + 1 := by unfold wrap64; omega
        have hw2 : IntKind.i64.wrap ((k : Int) + 1) = (k : Int) + 1 := by rw [Go.IntKind.wrap_i64]; omega
        have ht : ((k : Int) + 1).toNat = k + 1 := by omega
        have l1 : (n ≤ k + 1) = True := eq_true (by omega)
        have l2 : ((n : Int) ≤ (k : Int) + 1) = True := eq_true (by omega)
        have l3 : (k + 1 ≤ s.size) = True := eq_true (by omega)
        have l4 : ((k : Int) + 1 ≤ (s.size : Int)) = True := eq_true (by omega)
        have hcv : (convert 9 69 (.string P)).run Tryd.prog W = .ok (.slice (some ⟨W.heap.size, 0, none⟩) P.size (grownCap W P.size 0 5)) (Lib.bytesWorld W 5 P) := Lib.run_convert_string_bytes (P := Tryd.prog) W 9 69 5 P Tryd.underlying9 Tryd.underlying69 Tryd.underlying5
        have HB := Aside0.mk (HB0.out.grown (grown_conv W 5 P) HS0.out (fun _ h => by cases h))
        have HC := Aside0.mk (fun (j : Nat) (c : UInt8) (hj : j < P.size) (hc : ∀ h, P[j]'h = c) => (Lib.bytesWorld_cell W 5 P j hj).trans (show _ = some (Value.int .u8 (c.toNat : Int)) by rw [← hc hj]; simp [List.getD, hj]; rfl))
        have HST : Hid (sepEnd (accF ((bytesOf P).drop 0) 0) k = (r1, r2, r3)) := HR3
        clear HB0 HS0 HR3
        go_wp2
        obtain ⟨W2, hW2⟩ : ∃ W2, Lib.bytesWorld W 5 P = W2 := ⟨_, rfl⟩
        rw [hW2] at HB HC hcv
        (try rw [hW2])
        clear hcv
        go_loop [9, 53] (fun v i => ∃ (j : Nat) (m : Int), j ≤ P.size ∧ v = .int .i64 m ∧ i = .int .i64 j ∧ Hid (sepEnd (accF ((bytesOf P).drop j) m) k = (r1, r2, r3))) (fun _ i => P.size - (intOf i).toNat)
        case atStart => exact ⟨0, 0, Nat.zero_le _, rfl, rfl, HST⟩
        case round =>
          obtain ⟨j, m, hj, rfl, rfl, HQ⟩ := hrel
          clear HST hW2
          by_cases hjl : j < P.size
          · have p0 : (j < P.size) = True := eq_true hjl
            have p1 : ((j : Int) < (P.size : Int)) = True := eq_true (by omega)
            have p2 : decide ((j : Int) < (P.size : Int)) = true := decide_eq_true (by omega)
            have p3 : decide (j < P.size) = true := decide_eq_true hjl
            obtain ⟨d, hd, hdb⟩ := byte_eq P j hjl
            have hcell := HC.out j d hjl hd
            have hq := HQ.out
            have hl : j < (bytesOf P).length := by rw [bytesOf_length]; exact hjl
            have hel : (bytesOf P)[j] = (d.toNat : Int) := by
              rw [← hdb, ← rd_bytesOf]
              unfold rd
              rw [Int.toNat_natCast]
              simp [hl]
            rw [List.drop_eq_getElem_cons hl, hel] at hq
            unfold accF at hq
            by_cases hm : m > 9007199254740992
            · rw [if_pos hm] at hq
              have HQ2 := Lib.hid hq
              have g0 : decide (9007199254740992 < m) = true := decide_eq_true hm
              have g1 : (9007199254740992 < m) = True := eq_true hm
              have g2 : decide (m > 9007199254740992) = true := decide_eq_true hm
              clear hq HQ hel hdb hm hl
              go_wp2
              go_ret3
              exact ⟨by have h := HQ2.out; simp only [sepEnd] at h; obtain ⟨rfl, h2⟩ := Prod.mk.inj h; obtain ⟨rfl, rfl⟩ := Prod.mk.inj h2; rfl, HB.out⟩
            · rw [if_neg hm] at hq
              have HQ2 := Lib.hid hq
              have g0 : decide (9007199254740992 < m) = false := decide_eq_false hm
              have g1 : (9007199254740992 < m) = False := eq_false hm
              have g2 : decide (m > 9007199254740992) = false := decide_eq_false hm
              have HNW := Lib.hid (show wrap64 ((j : Int) + 1) = ((j + 1 : Nat) : Int) by unfold wrap64; omega)
              clear hq HQ hel hdb hm hl
              go_wp2
              go_round
              case rel => exact ⟨j + 1, _, by omega, by first | rfl | (simp; done), by first | exact congrArg (Value.int .i64) HNW.out | (simp; done) | (simp [*]; done), HQ2⟩
              case measure => simp [intOf]; omega
          · obtain rfl : j = P.size := by omega
            have p2 : decide ((P.size : Int) < (P.size : Int)) = false := decide_eq_false (by omega)
            have hq := HQ.out
            rw [List.drop_of_length_le (by rw [bytesOf_length]; exact Nat.le_refl _)] at hq
            simp only [accF, sepEnd] at hq
            by_cases hm : m > 1152921504606846976
            · rw [if_pos hm] at hq
              obtain ⟨rfl, h2⟩ := Prod.mk.inj hq
              obtain ⟨rfl, rfl⟩ := Prod.mk.inj h2
              have g0 : decide (1152921504606846976 < m) = true := decide_eq_true hm
              have g1 : (1152921504606846976 < m) = True := eq_true hm
              clear hm hq h2 HQ
              go_wp2
              go_ret3
              exact ⟨rfl, HB.out⟩
            · rw [if_neg hm] at hq
              obtain ⟨rfl, h2⟩ := Prod.mk.inj hq
              obtain ⟨rfl, rfl⟩ := Prod.mk.inj h2
              have g0 : decide (1152921504606846976 < m) = false := decide_eq_false hm
              have g1 : (1152921504606846976 < m) = False := eq_false hm
              clear hm hq h2 HQ
              go_wp2
              go_ret3
              exact ⟨by first | rfl | (simp; done) | (simp [*]; done), HB.out⟩
    · obtain rfl : k = s.size := by omega
      have q2 : decide ((s.size : Int) < (s.size : Int)) = false := decide_eq_false (by omega)
      have hE : E = s.size := by
        have h := HK.out
        rw [Nat.sub_self] at h
        exact h.symm
      have hR := HR.out
      rw [if_pos hE] at hR
      obtain ⟨rfl, h2⟩ := Prod.mk.inj hR
      obtain ⟨rfl, rfl⟩ := Prod.mk.inj h2
      clear hR h2 HR HK hE
      go_wp2
      go_ret3
      exact ⟨rfl, HB0.out⟩
set_option maxHeartbeats 4000000 in
set_option maxRecDepth 100000 in
theorem septIn_out (s : ByteArray) (n E : Nat) (r1 r2 r3 : Int) (w : World) (hs : s.size ≤ 4000) (hn : n ≤ s.size) (y0 : ((n : Int) < (s.size : Int)) = False) (y1 : decide ((n : Int) < (s.size : Int)) = false) (y2 : decide (n < s.size) = false) (y3 : (n < s.size) = False) (hp : Calls Tryd.prog 74 #[.string s, .int .i64 (n : Int)] w fun e w' => e = .returned (.int .i64 0) ∧ Drawn0 w w')
    (hE : endF s (s.size - n) n = E) (hR : (if E = s.size then ((0 : Int), (0 : Int), (9 : Int)) else sepEnd (accF (bytesOf (s.extract n (E + 1))) 0) E) = (r1, r2, r3)) :
    Calls Tryd.prog 47 #[.string s, .int .i64 (n : Int)] w fun e w' => e = .returned (.tuple #[.int .i64 r1, .int .i64 r2, .int .i64 r3]) ∧ Below w.heap.size w w' := by
  have HE := Lib.hid hE
  have HR := Lib.hid hR
  clear hE hR
  go_enter Tryd.func47, Tryd.ntmps47
  go_wp2_with (go_at_call 74; refine hp.mono ?_; rintro e w2 ⟨rfl, ⟨nd, rfl⟩⟩; have HB0 := Aside0.mk (pw_below_drewN (Below.refl w.heap.size w) nd); have HS0 := Lib.hid (show w.heap.size ≤ (w.drewN nd).heap.size from Nat.le_refl _); obtain ⟨W, hW⟩ : ∃ W, w.drewN nd = W := ⟨_, rfl⟩; rw [hW] at HB0 HS0; (try rw [hW]); clear hW)
  go_loop [8] (fun v => ∃ k : Nat, n ≤ k ∧ k ≤ s.size ∧ v = .int .i64 k ∧ Hid (endF s (s.size - k) k = E)) (fun v => s.size - (intOf v).toNat)
  case atStart => exact ⟨n, Nat.le_refl _, hn, rfl, HE⟩
  case round =>
    obtain ⟨k, hnk, hk, rfl, HK⟩ := hrel
    clear HE
    by_cases hlt : k < s.size
    · have q0 : (k < s.size) = True := eq_true hlt
      have q1 : ((k : Int) < (s.size : Int)) = True := eq_true (by omega)
      have q2 : decide ((k : Int) < (s.size : Int)) = true := decide_eq_true (by omega)
      have q3 : decide (k < s.size) = true := decide_eq_true hlt
      obtain ⟨c, hc, hcb⟩ := byte_eq s k hlt
      have ha := and128 c
      by_cases hge : 128 ≤ c.toNat
      · rw [if_pos hge] at ha
        have hK : endF s (s.size - (k + 1)) (k + 1) = E := by
          have h := HK.out
          rw [show s.size - k = (s.size - (k + 1)) + 1 by omega] at h
          unfold endF at h
          rw [if_pos hlt, if_pos (by rw [hcb]; omega)] at h
          exact h
        have HK2 := Lib.hid hK
        have hnw : wrap64 ((k : Int) + 1) = ((k + 1 : Nat) : Int) := by unfold wrap64; omega
        have HNW := Lib.hid hnw
        have HMS := Lib.hid (show s.size - (k + 1) < s.size - k by omega)
        clear hcb hge hK HK hnw
        go_wp2
        go_round
        case rel => exact ⟨k + 1, by omega, by omega, by first | exact congrArg (Value.int .i64) HNW.out | (simp; done) | (simp [*]; done), HK2⟩
        case measure => simp [intOf]; omega
      · rw [if_neg hge] at ha
        have hKE : k = E := by
          have h := HK.out
          rw [show s.size - k = (s.size - (k + 1)) + 1 by omega] at h
          unfold endF at h
          rw [if_pos hlt, if_neg (by rw [hcb]; omega)] at h
          exact h
        subst hKE
        clear hcb hge HK
        have hR := HR.out
        rw [if_neg (by omega)] at hR
        have HR2 := Lib.hid hR
        clear hR HR
        have z0 : ((k : Int) = (s.size : Int)) = False := eq_false (by omega)
        have z1 : ((k : Int) == (s.size : Int)) = false := beq_eq_false_iff_ne.mpr (by omega)
        have z2 : (k = s.size) = False := eq_false (by omega)
        have z3 : (k == s.size) = false := beq_eq_false_iff_ne.mpr (by omega)
        obtain ⟨P, hP⟩ : ∃ P, s.extract n (k + 1) = P := ⟨_, rfl⟩
        have hPs : P.size ≤ 4000 := by rw [← hP]; simp; omega
        have h2 := HR2.out
        rw [hP] at h2
        have HR3 := Lib.hid h2
        clear h2 HR2
        have hw1 : wrap64 ((k : Int) + 1) = (k : Int) + 1 := by unfold wrap64; omega
        have hw2 : IntKind.i64.wrap ((k : Int) + 1) = (k : Int) + 1 := by rw [Go.IntKind.wrap_i64]; omega
        have ht : ((k : Int) + 1).toNat = k + 1 := by omega
        have l1 : (n ≤ k + 1) = True := eq_true (by omega)
        have l2 : ((n : Int) ≤ (k : Int) + 1) = True := eq_true (by omega)
        have l3 : (k + 1 ≤ s.size) = True := eq_true (by omega)
        have l4 : ((k : Int) + 1 ≤ (s.size : Int)) = True := eq_true (by omega)
        have hcv : (convert 9 69 (.string P)).run Tryd.prog W = .ok (.slice (some ⟨W.heap.size, 0, none⟩) P.size (grownCap W P.size 0 5)) (Lib.bytesWorld W 5 P) := Lib.run_convert_string_bytes (P := Tryd.prog) W 9 69 5 P Tryd.underlying9 Tryd.underlying69 Tryd.underlying5
        have HB := Aside0.mk (HB0.out.grown (grown_conv W 5 P) HS0.out (fun _ h => by cases h))
        have HC := Aside0.mk (fun (j : Nat) (c : UInt8) (hj : j < P.size) (hc : ∀ h, P[j]'h = c) => (Lib.bytesWorld_cell W 5 P j hj).trans (show _ = some (Value.int .u8 (c.toNat : Int)) by rw [← hc hj]; simp [List.getD, hj]; rfl))
        have HST : Hid (sepEnd (accF ((bytesOf P).drop 0) 0) k = (r1, r2, r3)) := HR3
        clear HB0 HS0 HR3
        go_wp2
        obtain ⟨W2, hW2⟩ : ∃ W2, Lib.bytesWorld W 5 P = W2 := ⟨_, rfl⟩
        rw [hW2] at HB HC hcv
        (try rw [hW2])
        clear hcv
        go_loop [9, 53] (fun v i => ∃ (j : Nat) (m : Int), j ≤ P.size ∧ v = .int .i64 m ∧ i = .int .i64 j ∧ Hid (sepEnd (accF ((bytesOf P).drop j) m) k = (r1, r2, r3))) (fun _ i => P.size - (intOf i).toNat)
        case atStart => exact ⟨0, 0, Nat.zero_le _, rfl, rfl, HST⟩
        case round =>
          obtain ⟨j, m, hj, rfl, rfl, HQ⟩ := hrel
          clear HST hW2
          by_cases hjl : j < P.size
          · have p0 : (j < P.size) = True := eq_true hjl
            have p1 : ((j : Int) < (P.size : Int)) = True := eq_true (by omega)
            have p2 : decide ((j : Int) < (P.size : Int)) = true := decide_eq_true (by omega)
            have p3 : decide (j < P.size) = true := decide_eq_true hjl
            obtain ⟨d, hd, hdb⟩ := byte_eq P j hjl
            have hcell := HC.out j d hjl hd
            have hq := HQ.out
            have hl : j < (bytesOf P).length := by rw [bytesOf_length]; exact hjl
            have hel : (bytesOf P)[j] = (d.toNat : Int) := by
              rw [← hdb, ← rd_bytesOf]
              unfold rd
              rw [Int.toNat_natCast]
              simp [hl]
            rw [List.drop_eq_getElem_cons hl, hel] at hq
            unfold accF at hq
            by_cases hm : m > 9007199254740992
            · rw [if_pos hm] at hq
              have HQ2 := Lib.hid hq
              have g0 : decide (9007199254740992 < m) = true := decide_eq_true hm
              have g1 : (9007199254740992 < m) = True := eq_true hm
              have g2 : decide (m > 9007199254740992) = true := decide_eq_true hm
              clear hq HQ hel hdb hm hl
              go_wp2
              go_ret3
              exact ⟨by have h := HQ2.out; simp only [sepEnd] at h; obtain ⟨rfl, h2⟩ := Prod.mk.inj h; obtain ⟨rfl, rfl⟩ := Prod.mk.inj h2; rfl, HB.out⟩
            · rw [if_neg hm] at hq
              have HQ2 := Lib.hid hq
              have g0 : decide (9007199254740992 < m) = false := decide_eq_false hm
              have g1 : (9007199254740992 < m) = False := eq_false hm
              have g2 : decide (m > 9007199254740992) = false := decide_eq_false hm
              have HNW := Lib.hid (show wrap64 ((j : Int) + 1) = ((j + 1 : Nat) : Int) by unfold wrap64; omega)
              clear hq HQ hel hdb hm hl
              go_wp2
              go_round
              case rel => exact ⟨j + 1, _, by omega, by first | rfl | (simp; done), by first | exact congrArg (Value.int .i64) HNW.out | (simp; done) | (simp [*]; done), HQ2⟩
              case measure => simp [intOf]; omega
          · obtain rfl : j = P.size := by omega
            have p2 : decide ((P.size : Int) < (P.size : Int)) = false := decide_eq_false (by omega)
            have hq := HQ.out
            rw [List.drop_of_length_le (by rw [bytesOf_length]; exact Nat.le_refl _)] at hq
            simp only [accF, sepEnd] at hq
            by_cases hm : m > 1152921504606846976
            · rw [if_pos hm] at hq
              obtain ⟨rfl, h2⟩ := Prod.mk.inj hq
              obtain ⟨rfl, rfl⟩ := Prod.mk.inj h2
              have g0 : decide (1152921504606846976 < m) = true := decide_eq_true hm
              have g1 : (1152921504606846976 < m) = True := eq_true hm
              clear hm hq h2 HQ
              go_wp2
              go_ret3
              exact ⟨rfl, HB.out⟩
            · rw [if_neg hm] at hq
              obtain ⟨rfl, h2⟩ := Prod.mk.inj hq
              obtain ⟨rfl, rfl⟩ := Prod.mk.inj h2
              have g0 : decide (1152921504606846976 < m) = false := decide_eq_false hm
              have g1 : (1152921504606846976 < m) = False := eq_false hm
              clear hm hq h2 HQ
              go_wp2
              go_ret3
              exact ⟨by first | rfl | (simp; done) | (simp [*]; done), HB.out⟩
    · obtain rfl : k = s.size := by omega
      have q2 : decide ((s.size : Int) < (s.size : Int)) = false := decide_eq_false (by omega)
      have hE : E = s.size := by
        have h := HK.out
        rw [Nat.sub_self] at h
        exact h.symm
      have hR := HR.out
      rw [if_pos hE] at hR
      obtain ⟨rfl, h2⟩ := Prod.mk.inj hR
      obtain ⟨rfl, rfl⟩ := Prod.mk.inj h2
      clear hR h2 HR HK hE
      go_wp2
      go_ret3
      exact ⟨rfl, HB0.out⟩
def bits_SeptetsIn.f (s : ByteArray) (a : Int) : Option (Int × Int × Int) := some (septInB s a)
theorem bits_SeptetsIn.calls (a0 : ByteArray) (a1 : Int) (r1 r2 r3 : Int) (w : World) (h : bits_SeptetsIn.f a0 a1 = some (r1, r2, r3)) :
    Calls Tryd.prog 47 #[.string a0, .int .i64 a1] w fun e w' => e = .returned (.tuple #[.int .i64 r1, .int .i64 r2, .int .i64 r3]) ∧ Below w.heap.size w w' := by
  have hj : septInB a0 a1 = (r1, r2, r3) := Option.some.inj h
  clear h
  have hp := bits_placeErr.calls a0 a1 (placeE a0 a1) w (placeErr_eq a0 a1)
  unfold septInB at hj
  by_cases he : placeE a0 a1 = 0
  · rw [if_pos he] at hj
    rw [he] at hp
    have hb : a0.size ≤ 4000 ∧ 0 ≤ a1 ∧ a1 ≤ (a0.size : Int) := by
      unfold placeE at he
      split at he
      · simp at he
      · split at he
        · omega
        · simp at he
    obtain ⟨n, rfl⟩ := Int.eq_ofNat_of_zero_le hb.2.1
    rw [Int.toNat_natCast] at hj
    by_cases hl : n < a0.size
    · obtain ⟨c0, x0, xb⟩ := byte_eq a0 n hl
      by_cases h8 : c0 = 128
      · subst h8
        rw [if_pos ⟨by omega, by rw [xb]; rfl⟩] at hj
        obtain ⟨rfl, h2⟩ := Prod.mk.inj hj
        obtain ⟨rfl, rfl⟩ := Prod.mk.inj h2
        exact septIn_form a0 n w (eq_true (by omega)) (decide_eq_true (by omega)) (decide_eq_true hl) (eq_true hl) x0 hp
      · have hne : ¬ (c0.toNat : Int) = 128 := fun h => h8 (UInt8.toNat_inj.1 (show c0.toNat = 128 by omega))
        rw [if_neg (fun h => hne (xb ▸ h.2))] at hj
        exact septIn_in a0 n _ r1 r2 r3 w hb.1 (by omega) (eq_true (by omega)) (decide_eq_true (by omega)) (decide_eq_true hl) (eq_true hl) c0 x0 (beq_eq_false_iff_ne.mpr hne) (beq_eq_false_iff_ne.mpr h8) (eq_false hne) hp rfl hj
    · rw [if_neg (fun h => hl (by omega))] at hj
      exact septIn_out a0 n _ r1 r2 r3 w hb.1 (by omega) (eq_false (by omega)) (decide_eq_false (by omega)) (decide_eq_false hl) (eq_false hl) hp rfl hj
  · rw [if_neg he] at hj
    obtain ⟨rfl, h2⟩ := Prod.mk.inj hj
    obtain ⟨rfl, rfl⟩ := Prod.mk.inj h2
    exact septIn_err a0 a1 _ w (beq_eq_false_iff_ne.mpr he) (bne_iff_ne.mpr he) hp
end Go.Proofs.YthicmbhldjebfaaDoor.PA
