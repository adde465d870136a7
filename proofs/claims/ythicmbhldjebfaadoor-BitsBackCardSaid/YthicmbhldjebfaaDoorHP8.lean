/- Chapter 08: what the printed functions compute, plainly: numbers and lengths that the program reads. -/
import Derived.Test.YthicmbhldjebfaaDoorPAx20
import Derived.Test.YthicmbhldjebfaaDoorHF
import Derived.Test.YthicmbhldjebfaaDoorHP2
namespace Go.Proofs.YthicmbhldjebfaaDoor.PA
open Go Go.RowKit Go.Proofs.YthicmbhldjebfaaDoorW.PrintWords Go.Proofs.YthicmbhldjebfaaDoorW.PrintLast Go.Proofs.YthicmbhldjebfaaDoorW.PrintMore
set_option linter.unusedVariables false
set_option linter.unusedSimpArgs false
theorem or_add (j : Nat) (hj : j ≤ 8) (x b : Int) (h0 : -9223372036854775808 ≤ x) (h1 : x + 256 ≤ 9223372036854775807) (hx : x % 2 ^ j = 0) (hb0 : 0 ≤ b) (hb1 : b < 2 ^ j) : Go.bits .or .i64 x b = x + b := by
  have hp : (2 : Nat) ^ j ≤ 256 := Nat.le_trans (Nat.pow_le_pow_right (by decide) hj) (by decide)
  obtain ⟨c, rfl⟩ := Int.eq_ofNat_of_zero_le hb0
  have hc : c < 2 ^ j := by exact_mod_cast hb1
  obtain ⟨a, ha⟩ : ∃ a : Nat, x % 18446744073709551616 = (a : Int) := Int.eq_ofNat_of_zero_le (Int.emod_nonneg _ (by decide))
  have e1 : (BitVec.ofInt IntKind.i64.bits x).toNat = a := by
    rw [BitVec.toNat_ofInt]
    show (x % (2 ^ 64 : Nat)).toNat = a
    rw [show ((2 ^ 64 : Nat) : Int) = 18446744073709551616 by decide, ha, Int.toNat_natCast]
  have e2 : (BitVec.ofInt IntKind.i64.bits (c : Int)).toNat = c := by
    rw [BitVec.toNat_ofInt]
    show ((c : Int) % (2 ^ 64 : Nat)).toNat = c
    rw [show ((2 ^ 64 : Nat) : Int) = 18446744073709551616 by decide]
    omega
  have hd : a % 2 ^ j = 0 := by
    have hdvd : ((2 ^ j : Nat) : Int) ∣ 18446744073709551616 := by
      have : (2 : Nat) ^ j ∣ 2 ^ 64 := Nat.pow_dvd_pow 2 (by omega)
      exact Int.natCast_dvd_natCast.2 (by simpa using this)
    have h := Int.emod_emod_of_dvd x hdvd
    rw [ha] at h
    have hx' : x % ((2 ^ j : Nat) : Int) = 0 := by simpa using hx
    rw [hx'] at h
    exact_mod_cast h
  have hq : a = 2 ^ j * (a / 2 ^ j) := by
    have := Nat.div_add_mod a (2 ^ j)
    omega
  have hor : a ||| c = a + c := by
    rw [hq, ← Nat.two_pow_add_eq_or_of_lt hc (a / 2 ^ j)]
  simp only [Go.bits, BitVec.toNat_or, e1, e2, hor]
  rw [Go.IntKind.wrap_i64]
  omega
theorem or8 (n b : Int) (h0 : -9007199254740992 ≤ n) (h1 : n ≤ 9007199254740992) (hb0 : 0 ≤ b) (hb1 : b < 256) : Go.bits .or .i64 (wrap64 (n * 256)) (wrap64 b) = n * 256 + b := by
  rw [show wrap64 (n * 256) = n * 256 by unfold wrap64; omega, show wrap64 b = b by unfold wrap64; omega]
  exact or_add 8 (by decide) _ _ (by omega) (by omega) (by rw [show ((2 : Int) ^ 8) = 256 by decide]; omega) hb0 (by rw [show ((2 : Int) ^ 8) = 256 by decide]; exact hb1)
theorem and127 (d : Nat) (h : d < 256) : Go.bits .and .u8 (d : Int) 127 = ((d % 128 : Nat) : Int) := by
  have : ∀ d : Nat, d < 256 → Go.bits .and .u8 (d : Int) 127 = ((d % 128 : Nat) : Int) := by decide +kernel
  exact this d h
theorem or7 (n : Int) (d : Nat) (h0 : 0 ≤ n) (h1 : n ≤ 9007199254740992) (hd : d < 256) : Go.bits .or .i64 (wrap64 (n * 128)) (wrap64 (Go.bits .and .u8 (d : Int) 127)) = n * 128 + ((d % 128 : Nat) : Int) := by
  rw [and127 d hd, show wrap64 (n * 128) = n * 128 by unfold wrap64; omega, show wrap64 ((d % 128 : Nat) : Int) = ((d % 128 : Nat) : Int) by unfold wrap64; omega]
  exact or_add 7 (by decide) _ _ (by omega) (by omega) (by rw [show ((2 : Int) ^ 7) = 128 by decide]; omega) (by omega) (by rw [show ((2 : Int) ^ 7) = 128 by decide]; omega)
/-- The number of octets, however great. -/
def val : List Int → Int → Int
  | [], n => n
  | b :: r, n => val r (n * 256 + b)
theorem val_great : ∀ (bs : List Int) (n : Int), AllByte bs → n > 1152921504606846976 → val bs n > 1152921504606846976
  | [], n, _, h => h
  | b :: r, n, hb, h => by
    have := hb b List.mem_cons_self
    exact val_great r _ (fun x hx => hb x (List.mem_cons_of_mem _ hx)) (by omega)
theorem val_small : ∀ (bs : List Int) (n : Int), AllByte bs → n < -1152921504606846976 → val bs n < -1152921504606846976
  | [], n, _, h => h
  | b :: r, n, hb, h => by
    have := hb b List.mem_cons_self
    exact val_small r _ (fun x hx => hb x (List.mem_cons_of_mem _ hx)) (by omega)
theorem bytes_all (s : ByteArray) : AllByte (bytesOf s) := fun x hx => by
  obtain ⟨n, rfl, hn⟩ := bytesOf_lt s x hx
  omega
abbrev InMax (v : Int) : Prop := -1152921504606846976 ≤ v ∧ v ≤ 1152921504606846976
def numR (v : Int) : Int × Int := if InMax v then (v, 0) else (0, 25)
theorem drop_byte (s : ByteArray) (i : Nat) (h : i < s.size) : (bytesOf s).drop i = bt s (i : Int) :: (bytesOf s).drop (i + 1) ∧ 0 ≤ bt s (i : Int) ∧ bt s (i : Int) < 256 := by
  have hl : i < (bytesOf s).length := by rw [bytesOf_length]; exact h
  have e : (bytesOf s)[i] = bt s (i : Int) := by
    rw [← rd_bytesOf]
    unfold rd
    rw [Int.toNat_natCast]
    simp [hl]
  refine ⟨by rw [List.drop_eq_getElem_cons hl, e], ?_⟩
  have := bytes_all s _ (List.getElem_mem hl)
  rw [e] at this
  exact this
theorem gather_loop (s : ByteArray) (hs : s.size ≤ 4000) : ∀ (d i : Nat) (n : Int), i + d = s.size → 0 ≤ n → n ≤ 1152921504606847231 →
    ∃ p : Int × Bool, Ev (fun k => bits_gather.l0 k n s (s.size : Int) (i : Int)) p ∧ p.2 = decide (val ((bytesOf s).drop i) n ≤ 1152921504606846976) ∧ (p.2 = true → p.1 = val ((bytesOf s).drop i) n) := by
  intro d
  induction d with
  | zero =>
    intro i n hi h0 h1
    rw [List.drop_of_length_le (by rw [bytesOf_length]; omega)]
    refine ⟨(n, decide (n ≤ 1152921504606846976)), ev_succ ?_, rfl, fun _ => rfl⟩
    simp only [bits_gather.l0, if_neg (show ¬ (i : Int) < (s.size : Int) by omega)]
    exact Ev.now _
  | succ d ih =>
    intro i n hi h0 h1
    obtain ⟨hd, hb0, hb1⟩ := drop_byte s i (by omega)
    by_cases c : n > 4503599627370496
    · refine ⟨(0, false), ev_succ ?_, ?_, by simp⟩
      · simp only [bits_gather.l0, if_pos (show (i : Int) < (s.size : Int) by omega), if_pos c]
        exact Ev.now _
      · rw [hd]
        have hall : AllByte ((bytesOf s).drop (i + 1)) := fun x hx => bytes_all s x (List.mem_of_mem_drop hx)
        have := val_great ((bytesOf s).drop (i + 1)) (n * 256 + bt s (i : Int)) hall (by omega)
        exact (decide_eq_false (show ¬ val ((bytesOf s).drop (i + 1)) (n * 256 + bt s (i : Int)) ≤ 1152921504606846976 by omega)).symm
    · obtain ⟨p, hp, h2, h3⟩ := ih (i + 1) (n * 256 + bt s (i : Int)) (by omega) (by omega) (by omega)
      refine ⟨p, ev_succ ?_, by rw [hd]; exact h2, by rw [hd]; exact h3⟩
      simp only [bits_gather.l0, if_pos (show (i : Int) < (s.size : Int) by omega), if_neg c, if_pos (show 0 ≤ (i : Int) by omega), or8 n _ (by omega) (by omega) hb0 hb1, wrap_succ (show i < s.size by omega) (show s.size ≤ 9223372036854775807 by omega)]
      exact hp
theorem gather_eq (s : ByteArray) (hs : s.size ≤ 4000) : ∃ p : Int × Bool, Ev (fun k => bits_gather.f k 0 s) p ∧ p.2 = decide (val (bytesOf s) 0 ≤ 1152921504606846976) ∧ (p.2 = true → p.1 = val (bytesOf s) 0) := by
  have := gather_loop s hs s.size 0 0 (by omega) (by omega) (by omega)
  rw [List.drop_zero] at this
  exact this
theorem val_nonneg : ∀ (bs : List Int) (n : Int), AllByte bs → 0 ≤ n → 0 ≤ val bs n
  | [], n, _, h => h
  | b :: r, n, hb, h => by
    have := hb b List.mem_cons_self
    exact val_nonneg r _ (fun x hx => hb x (List.mem_cons_of_mem _ hx)) (by omega)
theorem signedIn_loop (s : ByteArray) (hs : s.size ≤ 4000) : ∀ (d i : Nat) (n : Int), i + d = s.size → -1152921504606847232 ≤ n → n ≤ 1152921504606847231 → Ev (fun k => bits_SignedIn.l0 k s n (s.size : Int) (i : Int)) (numR (val ((bytesOf s).drop i) n)) := by
  intro d
  induction d with
  | zero =>
    intro i n hi h0 h1
    rw [List.drop_of_length_le (by rw [bytesOf_length]; omega)]
    refine ev_succ ?_
    simp only [bits_SignedIn.l0, if_neg (show ¬ (i : Int) < (s.size : Int) by omega), bits_within_eq, Option.bind_some]
    unfold numR val InMax
    by_cases h : -1152921504606846976 ≤ n ∧ n ≤ 1152921504606846976
    · simp only [decide_eq_true h, if_true, if_pos h]; exact Ev.now _
    · simp only [decide_eq_false h, Bool.false_eq_true, if_false, if_neg h]; exact Ev.now _
  | succ d ih =>
    intro i n hi h0 h1
    obtain ⟨hd, hb0, hb1⟩ := drop_byte s i (by omega)
    have hall : AllByte ((bytesOf s).drop (i + 1)) := fun x hx => bytes_all s x (List.mem_of_mem_drop hx)
    refine ev_succ ?_
    simp only [bits_SignedIn.l0, if_pos (show (i : Int) < (s.size : Int) by omega), bits_within_eq, Option.bind_some, if_pos (show 0 ≤ (i : Int) by omega), wrap_succ (show i < s.size by omega) (show s.size ≤ 9223372036854775807 by omega)]
    by_cases h : -4503599627370497 ≤ n ∧ n ≤ 4503599627370496
    · simp only [decide_eq_true h, if_true, or8 n _ (by omega) (by omega) hb0 hb1]
      rw [hd]
      exact ih (i + 1) (n * 256 + bt s (i : Int)) (by omega) (by omega) (by omega)
    · simp only [decide_eq_false h, Bool.false_eq_true, if_false]
      rw [hd]
      have : ¬ InMax (val (bt s (i : Int) :: (bytesOf s).drop (i + 1)) n) := by
        unfold InMax
        by_cases g : n > 4503599627370496
        · have := val_great ((bytesOf s).drop (i + 1)) (n * 256 + bt s (i : Int)) hall (by omega)
          show ¬ (_ ≤ val _ _ ∧ val ((bytesOf s).drop (i + 1)) (n * 256 + bt s (i : Int)) ≤ _)
          omega
        · have := val_small ((bytesOf s).drop (i + 1)) (n * 256 + bt s (i : Int)) hall (by omega)
          show ¬ (_ ≤ val ((bytesOf s).drop (i + 1)) (n * 256 + bt s (i : Int)) ∧ val _ _ ≤ _)
          omega
      unfold numR
      rw [if_neg this]
      exact Ev.now _
def emptyE (s : ByteArray) : Int := if s.toList = [] then 1 else octsE s
theorem emptyErr_eq (s : ByteArray) : bits_emptyErr.f s = some (emptyE s) := by
  unfold bits_emptyErr.f emptyE
  simp only [octetsErr_eq, Option.bind_some]
  split <;> rfl
theorem emptyE_zero {s : ByteArray} (h : emptyE s = 0) : s.toList ≠ [] ∧ 0 < s.size ∧ s.size ≤ 4000 ∧ octsE s = 0 := by
  unfold emptyE at h
  split at h
  · simp at h
  · rename_i hne
    have h2 := h
    unfold octsE at h2
    split at h2
    · simp at h2
    · refine ⟨hne, ?_, by omega, h⟩
      rcases Nat.eq_zero_or_pos s.size with h3 | h3
      · exfalso
        apply hne
        rw [ByteArray.toList_eq]
        have : s.data.toList.length = 0 := by simpa using h3
        exact List.eq_nil_of_length_eq_zero this
      · exact h3
def unsB (s : ByteArray) : Int × Int := if emptyE s = 0 then numR (val (bytesOf s) 0) else (0, emptyE s)
theorem unsignedIn_eq (s : ByteArray) : Ev (fun k => bits_UnsignedIn.f k s) (unsB s) := by
  unfold bits_UnsignedIn.f unsB
  simp only [emptyErr_eq, Option.bind_some]
  by_cases h : emptyE s = 0
  · obtain ⟨_, _, hz, _⟩ := emptyE_zero h
    simp only [if_pos h]
    obtain ⟨p, hp, h2, h3⟩ := gather_eq s hz
    refine Ev.bind hp ?_
    have h0 := val_nonneg (bytesOf s) 0 (bytes_all s) (by decide)
    unfold numR InMax
    by_cases c : val (bytesOf s) 0 ≤ 1152921504606846976
    · rw [decide_eq_true c] at h2
      simp only [if_pos h2, h3 h2, if_pos (show -1152921504606846976 ≤ val (bytesOf s) 0 ∧ val (bytesOf s) 0 ≤ 1152921504606846976 by omega)]
      exact Ev.now _
    · rw [decide_eq_false c] at h2
      simp only [h2, Bool.false_eq_true, if_false, if_neg (show ¬ (-1152921504606846976 ≤ val (bytesOf s) 0 ∧ val (bytesOf s) 0 ≤ 1152921504606846976) by omega)]
      exact Ev.now _
  · simp only [if_neg h]
    exact Ev.now _
def signI (s : ByteArray) : Int := if bt s 0 ≥ 128 then -1 else 0
def sigB (s : ByteArray) : Int × Int := if emptyE s = 0 then numR (val (bytesOf s) (signI s)) else (0, emptyE s)
theorem sign8 (b : Int) (h0 : 0 ≤ b) (h1 : b < 256) : (wrap64 (IntKind.i8.wrap b)) / 128 = if b ≥ 128 then -1 else 0 := by
  have e8 : IntKind.i8.wrap b = if b < 128 then b else b - 256 := by
    simp [IntKind.wrap, IntKind.bits, IntKind.signed]
    split <;> split <;> omega
  rw [e8]
  by_cases h : b < 128
  · rw [if_pos h, show wrap64 b = b by unfold wrap64; omega, if_neg (by omega)]; omega
  · rw [if_neg h, show wrap64 (b - 256) = b - 256 by unfold wrap64; omega, if_pos (by omega)]; omega
theorem signedIn_eq (s : ByteArray) : Ev (fun k => bits_SignedIn.f k s) (sigB s) := by
  unfold bits_SignedIn.f sigB
  simp only [emptyErr_eq, Option.bind_some]
  by_cases h : emptyE s = 0
  · obtain ⟨_, hp, hz, _⟩ := emptyE_zero h
    obtain ⟨_, hb0, hb1⟩ := drop_byte s 0 hp
    simp only [if_pos h, if_pos (show 0 < (s.size : Int) by omega)]
    rw [show ((0 : Nat) : Int) = 0 from rfl] at hb0 hb1
    rw [sign8 _ hb0 hb1]
    have := signedIn_loop s hz s.size 0 (signI s) (by omega) (by unfold signI; split <;> omega) (by unfold signI; split <;> omega)
    rw [List.drop_zero] at this
    exact this
  · simp only [if_neg h]
    exact Ev.now _
def lenEnd (p : Int × Int) (e : Int) : Int × Int × Int := if p.2 = 0 then (p.1, e, 0) else (0, 0, p.2)
def lenInB (s : ByteArray) (a : Int) : Int × Int × Int :=
  if placeE s a = 0 then
    (if a = (s.size : Int) then (0, 0, 9) else if bt s a < 128 then (bt s a, a + 1, 0) else if bt s a = 128 then (-1, a + 1, 0) else if bt s a = 255 then (0, 0, 5)
      else if a + 1 + bt s a - 128 > (s.size : Int) then (0, 0, 9) else lenEnd (numR (val (bytesOf (s.extract (a.toNat + 1) (a.toNat + 1 + (bt s a).toNat - 128))) 0)) (a + 1 + bt s a - 128))
  else (0, 0, placeE s a)
theorem lengthIn_eq (s : ByteArray) (a : Int) : Ev (fun k => bits_LengthIn.f k s a) (lenInB s a) := by
  unfold bits_LengthIn.f lenInB
  simp only [placeErr_eq, Option.bind_some]
  by_cases he : placeE s a = 0
  · simp only [if_pos he]
    have hb : s.size ≤ 4000 ∧ 0 ≤ a ∧ a ≤ (s.size : Int) := by
      unfold placeE at he
      split at he
      · simp at he
      · split at he
        · omega
        · simp at he
    by_cases hz : a = (s.size : Int)
    · simp only [if_pos hz]; exact Ev.now _
    · simp only [if_neg hz, if_pos hb.2.1, if_pos (show a < (s.size : Int) by omega)]
      obtain ⟨n, rfl⟩ := Int.eq_ofNat_of_zero_le hb.2.1
      obtain ⟨_, hb0, hb1⟩ := drop_byte s n (by omega)
      obtain ⟨c, hc⟩ := Int.eq_ofNat_of_zero_le hb0
      rw [hc] at hb1 ⊢
      have e0 : wrap64 (c : Int) = (c : Int) := by unfold wrap64; omega
      have e1 : wrap64 ((n : Int) + 1) = (n : Int) + 1 := by unfold wrap64; omega
      have e2 : wrap64 (wrap64 ((n : Int) + 1 + (c : Int)) - 128) = (n : Int) + 1 + (c : Int) - 128 := by
        rw [show wrap64 ((n : Int) + 1 + (c : Int)) = (n : Int) + 1 + (c : Int) by unfold wrap64; omega]
        unfold wrap64
        omega
      simp only [e0, e1, e2]
      by_cases c1 : (c : Int) < 128
      · simp only [if_pos c1]; exact Ev.now _
      · simp only [if_neg c1]
        by_cases c2 : (c : Int) = 128
        · simp only [if_pos c2]; exact Ev.now _
        · simp only [if_neg c2]
          by_cases c3 : (c : Int) = 255
          · simp only [if_pos c3]; exact Ev.now _
          · simp only [if_neg c3]
            by_cases c4 : (n : Int) + 1 + (c : Int) - 128 > (s.size : Int)
            · simp only [if_pos c4]; exact Ev.now _
            · simp only [if_neg c4, if_pos (show 0 ≤ (n : Int) + 1 by omega), if_pos (show (n : Int) + 1 ≤ (n : Int) + 1 + (c : Int) - 128 by omega), if_pos (show (n : Int) + 1 + (c : Int) - 128 ≤ (s.size : Int) by omega)]
              rw [show ((n : Int) + 1).toNat = n + 1 by omega, show ((n : Int) + 1 + (c : Int) - 128).toNat = n + 1 + c - 128 by omega, show (n : Int).toNat + 1 = n + 1 by omega, show n + 1 + (c : Int).toNat - 128 = n + 1 + c - 128 by omega]
              obtain ⟨p, hp, h2, h3⟩ := gather_eq (s.extract (n + 1) (n + 1 + c - 128)) (by simp; omega)
              refine Ev.bind hp ?_
              have h0 := val_nonneg (bytesOf (s.extract (n + 1) (n + 1 + c - 128))) 0 (bytes_all _) (by decide)
              generalize val (bytesOf (s.extract (n + 1) (n + 1 + c - 128))) 0 = V at *
              unfold lenEnd numR InMax
              by_cases g : V ≤ 1152921504606846976
              · rw [decide_eq_true g] at h2
                simp only [if_pos h2, h3 h2, if_pos (show -1152921504606846976 ≤ V ∧ V ≤ 1152921504606846976 by omega), if_true]
                exact Ev.now _
              · rw [decide_eq_false g] at h2
                simp only [h2, Bool.false_eq_true, if_false, if_neg (show ¬ (-1152921504606846976 ≤ V ∧ V ≤ 1152921504606846976) by omega), if_neg (show ¬ (25 : Int) = 0 by decide)]
                exact Ev.now _
  · simp only [if_neg he]
    exact Ev.now _
end Go.Proofs.YthicmbhldjebfaaDoor.PA
