/- campaign.Written: by hand, in the printer's form. -/
import Derived.Test.YtgflelipamofoaaDoorHBy
import Derived.Test.YtgflelipamofoaaDoorHA
namespace Go.Proofs.YtgflelipamofoaaDoor.PA
open Go.RowKit Go.Proofs.YtgflelipamofoaaDoorW.PrintWords Go.Proofs.YtgflelipamofoaaDoorW.PrintLast Go.Proofs.YtgflelipamofoaaDoorW.PrintMore Go.Proofs.YtgflelipamofoaaDoor.Own
set_option linter.unusedVariables false
set_option linter.unusedSimpArgs false
/-- The error of a journal's bytes. -/
def bytesE (s : ByteArray) : Int := if s.size % 32 = 0 then (if s.size ≤ 1536 then 0 else 2) else 19
theorem bytesErr_calls (s : ByteArray) (w : World) : Calls Tryd.prog 26 #[.string s] w fun e w' => e = .returned (.int .i64 (bytesE s)) ∧ w = w' := by
  unfold bytesE
  by_cases h1 : s.size % 32 = 0
  · rw [if_pos h1]
    have h1' : ((s.size : Int) % 32 == 0) = true := by rw [beq_iff_eq]; omega
    have h1b : ((s.size : Int) % 32 != 0) = false := by rw [bne_eq_false_iff_eq]; omega
    by_cases h2 : s.size ≤ 1536
    · rw [if_pos h2]
      clear h1
      go_enter Tryd.func26, Tryd.ntmps26
      go_wp2
      go_ret
      exact ⟨rfl, rfl⟩
    · rw [if_neg h2]
      have h3 : 1536 < s.size := by omega
      clear h1 h2
      go_enter Tryd.func26, Tryd.ntmps26
      go_wp2
      go_ret
      exact ⟨rfl, rfl⟩
  · rw [if_neg h1]
    have h1' : ((s.size : Int) % 32 == 0) = false := by rw [beq_eq_false_iff_ne]; omega
    have h1b : ((s.size : Int) % 32 != 0) = true := by rw [bne_iff_ne]; omega
    clear h1
    go_enter Tryd.func26, Tryd.ntmps26
    go_wp2
    go_ret
    exact ⟨rfl, rfl⟩
/-- Is a number of kept bytes wrong? -/
def badK (k : Int) : Bool := decide (k < 0) || decide (32 < k)
theorem closure55 (k : Int) (w : World) : Calls Tryd.prog 45 #[.int .i64 k] w fun e w' => e = .returned (.bool (badK k)) ∧ w' = w := by
  unfold badK
  by_cases h1 : k < 0
  · rw [decide_eq_true h1]
    go_enter Tryd.func45, Tryd.ntmps45
    go_wp2
    go_ret
    exact ⟨by simp, rfl⟩
  · rw [decide_eq_false h1]
    have h2 : 0 ≤ k := by omega
    go_enter Tryd.func45, Tryd.ntmps45
    go_wp2
    go_ret
    exact ⟨by simp, rfl⟩
set_option maxHeartbeats 1000000 in
set_option maxRecDepth 100000 in
theorem indexK_calls (A0 : Option Addr) (c0 : Nat) (l : List Int) (w : World) (hr0 : Kd.C (Kd.int .i64) w A0 l.length l) (hc0 : l.length ≤ c0) :
    Calls Tryd.prog 53 #[.slice A0 l.length c0, .func (.func 45) #[] #[]] w fun e w' => (∃ r : Int, e = .returned (.int .i64 r) ∧ -1 ≤ r ∧ decide (0 ≤ r) = l.any badK) ∧ w' = w := by
  have HR := Aside0.mk hr0
  have hn := hr0.2.1
  obtain ⟨B, hB⟩ : ∃ B, l.any badK = B := ⟨_, rfl⟩
  rw [hB]
  have HB := Lib.hid hB
  clear hr0 hB
  go_enter Tryd.func53, Tryd.ntmps53
  go_wp2
  go_loop [8, 5] (fun i p => ∃ k : Nat, k ≤ l.length ∧ i = .int .i64 k ∧ Hid ((l.drop k).any badK = B)) (fun i _ => l.length - (intOf i).toNat)
  case atStart => exact ⟨0, Nat.zero_le _, rfl, HB⟩
  case round =>
    obtain ⟨k, hk, rfl, HE⟩ := hrel
    by_cases hlt : k < l.length
    · obtain ⟨ad, e216, hx0⟩ := ReadsInt.at_ (Kd.reads_of_C (enc := Value.int .i64) (d := (0 : Int)) (h1 := fun _ => rfl) HR.out) (k : Int) (by omega) (by omega)
      cases e216
      obtain ⟨x, hxe⟩ : ∃ x, rd l (k : Int) = x := ⟨_, rfl⟩
      rw [Int.toNat_natCast] at hx0
      rw [hxe] at hx0
      have hxm : l[k] = x := by rw [← hxe]; simp [rd, hlt]
      have he := HE.out
      rw [List.drop_eq_getElem_cons hlt, List.any_cons, hxm] at he
      clear hxe hxm HE
      cases hs : badK x with
      | true =>
        rw [hs, Bool.true_or] at he
        subst he
        have HS := Lib.hid hs
        clear hs
        go_wp2_with (go_at_call 45; refine (closure55 x _).mono ?_; rintro e w2 ⟨rfl, rfl⟩; rw [HS.out])
        go_ret
        exact ⟨⟨_, rfl, by omega, by simp⟩, rfl⟩
      | false =>
        rw [hs, Bool.false_or] at he
        have HS := Lib.hid hs
        have HE := Lib.hid he
        clear hs he
        go_wp2_with (go_at_call 45; refine (closure55 x _).mono ?_; rintro e w2 ⟨rfl, rfl⟩; rw [HS.out])
        go_round
        case rel => exact ⟨k + 1, by omega, by go_num, HE⟩
        case measure => simp [intOf]; omega
    · obtain rfl : k = l.length := by omega
      have hb : false = B := by have := HE.out; rwa [List.drop_length] at this
      subst hb
      go_wp2
      go_ret
      exact ⟨⟨-1, rfl, by omega, by decide⟩, rfl⟩
theorem containsK_calls (A0 : Option Addr) (c0 : Nat) (l : List Int) (w : World) (hr0 : Kd.C (Kd.int .i64) w A0 l.length l) (hc0 : l.length ≤ c0) :
    Calls Tryd.prog 44 #[.slice A0 l.length c0, .func (.func 45) #[] #[]] w fun e w' => e = .returned (.bool (l.any badK)) ∧ w' = w := by
  have hi := indexK_calls A0 c0 l w hr0 hc0
  obtain ⟨B, hB⟩ : ∃ B, l.any badK = B := ⟨_, rfl⟩
  rw [hB] at hi ⊢
  clear hr0 hB
  go_enter Tryd.func44, Tryd.ntmps44
  go_wp2_with (go_at_call 53; refine hi.mono ?_; rintro e w2 ⟨⟨r, rfl, hr1, hr2⟩, rfl⟩)
  go_ret
  exact ⟨by rw [← hr2]; rfl, rfl⟩
/-- The error of the blocks alone. -/
def blkE : List S66 → Int
  | [] => 0
  | x :: r => if 0 ≤ x.f0 ∧ x.f0 < 48 then (if x.f1.size = 32 then blkE r else 19) else 3
def writesE (l : List S66) (ks : List Int) : Int := if l.length ≤ 96 then (if blkE l = 0 then (if ks.length = l.length then (if ks.any badK = true then 3 else 0) else 6) else blkE l) else 2
theorem rd66 (l : List S66) (i : Nat) (h : i < l.length) : rd_T66 l (i : Int) = l[i] := by simp [rd_T66, h]
set_option maxHeartbeats 1000000 in
set_option maxRecDepth 100000 in
theorem writesErr_calls (A0 : Option Addr) (c0 : Nat) (l : List S66) (A1 : Option Addr) (c1 : Nat) (ks : List Int) (w : World) (hr0 : Kd.C k66 w A0 l.length l) (hc0 : l.length ≤ c0) (hr1 : Kd.C (Kd.int .i64) w A1 ks.length ks) (hc1 : ks.length ≤ c1) :
    Calls Tryd.prog 37 #[.slice A0 l.length c0, .slice A1 ks.length c1] w fun e w' => e = .returned (.int .i64 (writesE l ks)) ∧ Below w.heap.size w w' := by
  obtain ⟨R, hR⟩ : ∃ R, writesE l ks = R := ⟨_, rfl⟩
  rw [hR]
  unfold writesE at hR
  have hn1 := hr1.2.1
  by_cases h96 : l.length ≤ 96
  · rw [if_pos h96] at hR
    obtain ⟨E, hE⟩ : ∃ E, blkE l = E := ⟨_, rfl⟩
    rw [hE] at hR
    have HRR := Lib.hid hR
    have HE0 : Hid (blkE (l.drop 0) = E) := Lib.hid hE
    have HR := Aside0.mk hr0
    have HR1 := Aside0.mk hr1
    clear hr0 hr1 hR hE
    go_enter Tryd.func37, Tryd.ntmps37
    go_wp2
    go_loopw [12, 6] (fun i p wr => ∃ k : Nat, k ≤ l.length ∧ i = .int .i64 k ∧ Hid (blkE (l.drop k) = E) ∧ Aside0 (Below w.heap.size w wr)) (fun i _ _ => l.length - (intOf i).toNat)
    case atStart => exact ⟨0, Nat.zero_le _, rfl, HE0, ⟨Below.refl _ _⟩⟩
    case round =>
      obtain ⟨k, hk, rfl, HE, HL⟩ := hrel
      by_cases hlt : k < l.length
      · obtain ⟨ad, e216, hx0, hx1⟩ := at_T66 HR.out (k : Int) (by omega) (by omega)
        cases e216
        replace hx0 := (HL.out.cell (World.block_lt_of_cell? w _ hx0)).trans hx0
        replace hx1 := (HL.out.cell (World.block_lt_of_cell? w _ hx1)).trans hx1
        have hw := HL.out.size
        obtain ⟨x, hxe⟩ : ∃ x, rd_T66 l (k : Int) = x := ⟨_, rfl⟩
        rw [Int.toNat_natCast] at hx0 hx1
        rw [hxe] at hx0 hx1
        have hxm : l[k] = x := by rw [← hxe]; exact (rd66 l k hlt).symm
        have he := HE.out
        rw [List.drop_eq_getElem_cons hlt, hxm] at he
        simp only [blkE] at he
        clear hxe hxm HE
        by_cases ha : 0 ≤ x.f0 ∧ x.f0 < 48
        · rw [if_pos ha] at he
          obtain ⟨ha1, ha2⟩ := ha
          by_cases hs : x.f1.size = 32
          · rw [if_pos hs] at he
            have HE := Lib.hid he
            have hsa : ((x.f1.size : Int) == 32) = true := by rw [beq_iff_eq]; omega
            have hsb : ((x.f1.size : Int) != 32) = false := by rw [bne_eq_false_iff_eq]; omega
            clear he hs
            go_wp2
            go_roundw
            case rel => exact ⟨k + 1, by omega, by go_num, HE, ⟨HL.out.alloc hw _⟩⟩
            case measure => simp [intOf]; omega
          · rw [if_neg hs] at he
            subst he
            have hr : (19 : Int) = R := by have := HRR.out; rwa [if_neg (by decide)] at this
            subst hr
            have hsa : ((x.f1.size : Int) == 32) = false := by rw [beq_eq_false_iff_ne]; omega
            have hsb : ((x.f1.size : Int) != 32) = true := by rw [bne_iff_ne]; omega
            clear hs
            go_wp2
            go_ret
            exact ⟨rfl, HL.out.alloc hw _⟩
        · rw [if_neg ha] at he
          subst he
          have hr : (3 : Int) = R := by have := HRR.out; rwa [if_neg (by decide)] at this
          subst hr
          rcases (show x.f0 < 0 ∨ (0 ≤ x.f0 ∧ 48 ≤ x.f0) by omega) with h1 | ⟨h1, h2⟩
          all_goals
            clear ha
            go_wp2
            go_ret
            exact ⟨rfl, HL.out.alloc hw _⟩
      · obtain rfl : k = l.length := by omega
        have he : (0 : Int) = E := by have := HE.out; rw [List.drop_length] at this; exact this
        subst he
        have hR := HRR.out
        rw [if_pos rfl] at hR
        by_cases hlen : ks.length = l.length
        · rw [if_pos hlen] at hR
          have hla : ((ks.length : Int) == (l.length : Int)) = true := by rw [beq_iff_eq]; omega
          have hlb : ((ks.length : Int) != (l.length : Int)) = false := by rw [bne_eq_false_iff_eq]; omega
          have hlc : (ks.length == l.length) = true := by rw [beq_iff_eq]; omega
          have hld : (ks.length != l.length) = false := by rw [bne_eq_false_iff_eq]; omega
          have HLN := Lib.hid hlen
          clear hlen
          cases hb : ks.any badK with
          | true =>
            rw [hb] at hR
            have hr : (3 : Int) = R := hR
            subst hr
            have HB := Lib.hid hb
            clear hb hR
            go_wp2_with (go_at_call 44; refine (containsK_calls A1 c1 ks _ (Kd.C_below HR1.out HL.out) hc1).mono ?_; rintro e w2 ⟨rfl, rfl⟩; rw [HB.out])
            go_ret
            exact ⟨rfl, HL.out⟩
          | false =>
            rw [hb] at hR
            have hr : (0 : Int) = R := hR
            subst hr
            have HB := Lib.hid hb
            clear hb hR
            go_wp2_with (go_at_call 44; refine (containsK_calls A1 c1 ks _ (Kd.C_below HR1.out HL.out) hc1).mono ?_; rintro e w2 ⟨rfl, rfl⟩; rw [HB.out])
            go_ret
            exact ⟨rfl, HL.out⟩
        · rw [if_neg hlen] at hR
          subst hR
          have hla : ((ks.length : Int) == (l.length : Int)) = false := by rw [beq_eq_false_iff_ne]; omega
          have hlb : ((ks.length : Int) != (l.length : Int)) = true := by rw [bne_iff_ne]; omega
          have hlc : (ks.length == l.length) = false := by rw [beq_eq_false_iff_ne]; omega
          have hld : (ks.length != l.length) = true := by rw [bne_iff_ne]; omega
          clear hlen
          go_wp2
          go_ret
          exact ⟨rfl, HL.out⟩
  · rw [if_neg h96] at hR
    subst hR
    have h97 : 96 < l.length := by omega
    clear h96
    go_enter Tryd.func37, Tryd.ntmps37
    go_wp2
    go_ret
    exact ⟨rfl, Below.refl _ _⟩
/-- One block is written. -/
def wrOne (xs : List Int) (x : S66) (k : Int) : List Int := if k = 0 then xs else splice (if xs.length < x.f0.toNat * 32 + 32 then xs ++ List.replicate (x.f0.toNat * 32 + 32 - xs.length) 0 else xs) (x.f0.toNat * 32) ((bytesOf x.f1).take k.toNat)
def wrAll : List Int → List S66 → List Int → List Int
  | xs, x :: l, k :: ks => wrAll (wrOne xs x k) l ks
  | xs, _, _ => xs
def writtenB (s : ByteArray) (l : List S66) (ks : List Int) : ByteArray × Int := if bytesE s = 0 then (if writesE l ks = 0 then (strOfNums (wrAll (bytesOf s) l ks), 0) else (⟨#[]⟩, writesE l ks)) else (⟨#[]⟩, bytesE s)
def campaign_Written.f (s : ByteArray) (l : List S66) (ks : List Int) : Option (ByteArray × Int) := some (writtenB s l ks)
theorem wrAll_step (xs : List Int) (l : List S66) (ks : List Int) (k : Nat) (h1 : k < l.length) (h2 : k < ks.length) : wrAll xs (l.drop k) (ks.drop k) = wrAll (wrOne xs l[k] ks[k]) (l.drop (k + 1)) (ks.drop (k + 1)) := by
  rw [List.drop_eq_getElem_cons h1, List.drop_eq_getElem_cons h2]
  rfl
theorem blkE_ok : ∀ l : List S66, blkE l = 0 → ∀ x ∈ l, 0 ≤ x.f0 ∧ x.f0 < 48 ∧ x.f1.size = 32
  | [], _ => by simp
  | y :: r, h => by
    simp only [blkE] at h
    split at h
    · split at h
      · intro x hx
        rcases List.mem_cons.1 hx with rfl | hx
        · rename_i h1 h2; exact ⟨h1.1, h1.2, h2⟩
        · exact blkE_ok r h x hx
      · simp at h
    · simp at h
theorem writes_ok {l : List S66} {ks : List Int} (h : writesE l ks = 0) : l.length ≤ 96 ∧ ks.length = l.length ∧ (∀ x ∈ l, 0 ≤ x.f0 ∧ x.f0 < 48 ∧ x.f1.size = 32) ∧ ∀ k ∈ ks, 0 ≤ k ∧ k ≤ 32 := by
  unfold writesE at h
  split at h
  · split at h
    · split at h
      · split at h
        · simp at h
        · rename_i h1 h2 h3 h4
          refine ⟨h1, h3, blkE_ok l h2, fun k hk => ?_⟩
          have h5 : badK k = false := by
            rw [← Bool.not_eq_true]
            intro hb
            exact h4 (List.any_eq_true.2 ⟨k, hk, hb⟩)
          unfold badK at h5
          simp at h5
          omega
      · simp at h
    · rename_i h1 h2; exact absurd h h2
  · simp at h
theorem wrOne_length (xs : List Int) (x : S66) (k : Int) (hx : 0 ≤ x.f0 ∧ x.f0 < 48 ∧ x.f1.size = 32) (hk : 0 ≤ k ∧ k ≤ 32) (h : xs.length ≤ 1536) : (wrOne xs x k).length ≤ 1536 := by
  have hb : (bytesOf x.f1).length = 32 := by simp [bytesOf, hx.2.2]
  unfold wrOne
  split
  · exact h
  · rw [length_splice _ _ _ (by
      split
      · simp [hb]; omega
      · simp [hb]; omega)]
    split
    · simp; omega
    · exact h
theorem wrAll_nil (xs : List Int) (ks : List Int) : wrAll xs [] ks = xs := by cases ks <;> rfl
theorem bytesOf_extract0 (s : ByteArray) (q : Nat) : bytesOf (s.extract 0 q) = (bytesOf s).take q := by
  simp [bytesOf, List.map_take]
set_option maxHeartbeats 1600000 in
set_option maxRecDepth 100000 in
theorem campaign_Written.calls (a0 : ByteArray) (A1 : Option Addr) (c1 : Nat) (l1 : List S66) (A2 : Option Addr) (c2 : Nat) (l2 : List Int) (r1 : ByteArray) (r2 : Int) (w : World) (hr1 : Kd.C k66 w A1 l1.length l1) (hc1 : l1.length ≤ c1) (hr2 : Kd.C (Kd.int .i64) w A2 l2.length l2) (hc2 : l2.length ≤ c2) (h : campaign_Written.f a0 l1 l2 = some (r1, r2)) :
    Calls Tryd.prog 21 #[.string a0, .slice A1 l1.length c1, .slice A2 l2.length c2] w fun e w' => e = .returned (.tuple #[.string r1, .int .i64 r2]) ∧ Below w.heap.size w w' := by
  have hj : writtenB a0 l1 l2 = (r1, r2) := Option.some.inj h
  clear h
  have hbe := bytesErr_calls a0 w
  have hwe := writesErr_calls A1 c1 l1 A2 c2 l2 w hr1 hc1 hr2 hc2
  obtain ⟨E1, hE1⟩ : ∃ E, bytesE a0 = E := ⟨_, rfl⟩
  obtain ⟨E2, hE2⟩ : ∃ E, writesE l1 l2 = E := ⟨_, rfl⟩
  unfold writtenB at hj
  rw [hE1, hE2] at hj
  rw [hE1] at hbe
  rw [hE2] at hwe
  by_cases h1 : E1 = 0
  · subst h1
    rw [if_pos rfl] at hj
    have h1536 : a0.size ≤ 1536 := by
      unfold bytesE at hE1
      split at hE1
      · split at hE1
        · assumption
        · simp at hE1
      · simp at hE1
    by_cases h2 : E2 = 0
    · subst h2
      rw [if_pos rfl] at hj
      obtain ⟨rfl, rfl⟩ := Prod.mk.inj hj
      obtain ⟨h96, hlen, hokl, hokk⟩ := writes_ok hE2
      obtain ⟨T, hT⟩ : ∃ T, wrAll (bytesOf a0) l1 l2 = T := ⟨_, rfl⟩
      rw [hT]
      have HT := Lib.hid hT
      have HOL := Lib.hid hokl
      have HOK := Lib.hid hokk
      have HR1 := Aside0.mk hr1
      have HR2 := Aside0.mk hr2
      have HLEN := Lib.hid hlen
      obtain ⟨i0, hi, hz0, hz1, hz2⟩ := info_parts info5
      have hk := fun (w : World) => Lib.run_convert_string_bytes (P := Tryd.prog) w 9 45 5 a0 Tryd.underlying9 Tryd.underlying45 Tryd.underlying5
      clear hj hE1 hE2 hokl hokk hlen hr1 hr2 hT
      go_enter Tryd.func21, Tryd.ntmps21
      go_wp2_with (first | (go_at_call 26; refine hbe.mono ?_; rintro e w1 ⟨rfl, rfl⟩) | (go_at_call 37; refine hwe.mono ?_; rintro e w1 ⟨rfl, hb1⟩))
      have hw1 := hb1.size
      have HV0 : Aside0 (BRow (Lib.bytesWorld w1 5 a0) 5 w.heap.size (.slice (some ⟨w1.heap.size, 0, none⟩) a0.size (grownCap w1 a0.size 0 5)) (bytesOf a0)) := ⟨(BRow.conv w1 5 a0 (by unfold maxLen; omega)).lower hw1⟩
      have HB0 := Aside0.mk (hb1.grown (grown_bytes w1 5 a0 none) hw1 (by simp))
      have HN0 : (bytesOf a0).length ≤ 1536 := by simp [bytesOf]; exact h1536
      have HE0 : Hid (wrAll (bytesOf a0) (l1.drop 0) (l2.drop 0) = T) := HT
      clear hb1 hk hbe hwe
      go_loopw [30, 10] (fun i v wr => ∃ (k : Nat) (xs : List Int), k ≤ l1.length ∧ i = .int .i64 k ∧ xs.length ≤ 1536 ∧ Hid (wrAll xs (l1.drop k) (l2.drop k) = T) ∧ Aside0 (BRow wr 5 w.heap.size v xs) ∧ Aside0 (Below w.heap.size w wr)) (fun i _ _ => l1.length - (intOf i).toNat)
      case atStart => exact ⟨0, bytesOf a0, Nat.zero_le _, rfl, HN0, HE0, HV0, HB0⟩
      case round =>
        clear HV0 HB0 HN0 HE0
        obtain ⟨k, xs, hk, rfl, hxs, HE, HV, HL⟩ := hrel
        by_cases hlt : k < l1.length
        · obtain ⟨ad, e216, hx0, hx1⟩ := at_T66 HR1.out (k : Int) (by omega) (by omega)
          cases e216
          replace hx0 := (HL.out.cell (World.block_lt_of_cell? w _ hx0)).trans hx0
          replace hx1 := (HL.out.cell (World.block_lt_of_cell? w _ hx1)).trans hx1
          have hlt2 : k < l2.length := by rw [HLEN.out]; exact hlt
          obtain ⟨ad2, e217, hk0⟩ := ReadsInt.at_ (Kd.reads_of_C (enc := Value.int .i64) (d := (0 : Int)) (h1 := fun _ => rfl) HR2.out) (k : Int) (by omega) (by omega)
          cases e217
          have hkW := hk0
          rw [Int.toNat_natCast] at hkW
          replace hk0 := (HL.out.cell (World.block_lt_of_cell? w _ hk0)).trans hk0
          have hw := HL.out.size
          obtain ⟨x, hxe⟩ : ∃ x, rd_T66 l1 (k : Int) = x := ⟨_, rfl⟩
          obtain ⟨q, hqe⟩ : ∃ q, rd l2 (k : Int) = q := ⟨_, rfl⟩
          rw [Int.toNat_natCast] at hx0 hx1 hk0
          rw [hxe] at hx0 hx1
          rw [hqe] at hk0 hkW
          have hxm : l1[k] = x := by rw [← hxe]; exact (rd66 l1 k hlt).symm
          have hqm : l2[k] = q := by rw [← hqe]; simp [rd, hlt2]
          have he := HE.out
          rw [wrAll_step xs l1 l2 k hlt hlt2, hxm, hqm] at he
          obtain ⟨o1, o2, o3⟩ := HOL.out x (by rw [← hxm]; exact List.getElem_mem _)
          obtain ⟨o4, o5⟩ := HOK.out q (by rw [← hqm]; exact List.getElem_mem _)
          have hwl := wrOne_length xs x q ⟨o1, o2, o3⟩ ⟨o4, o5⟩ hxs
          clear hxe hqe hxm hqm HE
          obtain ⟨g, cap, hv, hnc, hcm⟩ := HV.out.shape_
          subst hv
          obtain ⟨f0, f1⟩ := x
          dsimp only at o1 o2 o3 hx0 hx1
          obtain ⟨F, rfl⟩ := Int.eq_ofNat_of_zero_le o1
          obtain ⟨q, rfl⟩ := Int.eq_ofNat_of_zero_le o4
          clear o1 o4
          have hkA := (World.cell?_alloc_lt wr (.cells #[.int .i64 (F : Int), .string f1] 66) _ (World.block_lt_of_cell? wr _ hk0)).trans hk0
          by_cases hq : (q : Int) = 0
          · have hone : wrOne xs ⟨F, f1⟩ q = xs := by unfold wrOne; rw [if_pos hq]
            rw [hone] at he
            have HE := Lib.hid he
            have hq1 : ((q : Int) == 0) = true := beq_iff_eq.mpr hq
            clear he hone hwl hq
            go_wp2
            go_roundw
            case rel => exact ⟨k + 1, xs, by omega, by go_num, hxs, HE, ⟨HV.out.alloc _⟩, ⟨HL.out.alloc hw _⟩⟩
            case measure => simp [intOf]; omega
          · have hq1 : ((q : Int) == 0) = false := beq_eq_false_iff_ne.mpr hq
            have hone : wrOne xs ⟨F, f1⟩ q = splice (if xs.length < F * 32 + 32 then xs ++ List.replicate (F * 32 + 32 - xs.length) 0 else xs) (F * 32) ((bytesOf f1).take q) := by unfold wrOne; rw [if_neg hq]; simp
            rw [hone] at he hwl
            have HQ := Lib.hid hq
            clear hq hone
            obtain ⟨W, hW⟩ : ∃ W, wr.alloc (.cells #[.int .i64 (F : Int), .string f1] 66) = W := ⟨_, rfl⟩
            have HVA : Aside0 (BRow W 5 w.heap.size (.slice (some ⟨g, 0, none⟩) xs.length cap) xs) := ⟨hW ▸ HV.out.alloc _⟩
            have HLA : Aside0 (Below w.heap.size w W) := ⟨hW ▸ HL.out.alloc hw _⟩
            have hb0 : W.cell? ⟨wr.heap.size, 0, none⟩ = some (.int .i64 (F : Int)) := by rw [← hW]; exact (World.cell?_alloc_at _ _ _ 0 rfl).trans rfl
            have hb1 : W.cell? ⟨wr.heap.size, 1, none⟩ = some (.string f1) := by rw [← hW]; exact (World.cell?_alloc_at _ _ _ 1 rfl).trans rfl
            rw [hW] at hkA
            by_cases hm : xs.length < F * 32 + 32
            · rw [if_pos hm] at he hwl
              have hm1 : (0 : Int) < (F : Int) * 32 + 32 - (xs.length : Int) := by omega
              obtain ⟨v4, w4, hr4, HV4, HG4⟩ := BRow.zerosInt (P := Tryd.prog) (t := 45) (tn := 3) (ty := 45) (kn := .i64) (kx := .i64) Tryd.underlying45 Tryd.underlying3 hi hz0 hz1 hz2 HVA.out (HLA.out.size) ((F : Int) * 32 + 32 - (xs.length : Int)) hm1 (by omega)
              have htn : ((F : Int) * 32 + 32 - (xs.length : Int)).toNat = F * 32 + 32 - xs.length := by omega
              rw [htn] at HV4
              obtain ⟨xs4, hxs4⟩ : ∃ y, xs ++ List.replicate (F * 32 + 32 - xs.length) 0 = y := ⟨_, rfl⟩
              rw [hxs4] at HV4 he hwl
              have hl4 : xs4.length = F * 32 + 32 := by rw [← hxs4]; simp; omega
              clear hxs4 htn
              obtain ⟨g4, cap4, hv4, hnc4, hcm4⟩ := HV4.shape_
              subst hv4
              have HV4' := Aside0.mk HV4
              have HL4 : Aside0 (Below w.heap.size w w4) := ⟨BRow.grownBelow HVA.out HLA.out HG4⟩
              have hne : some wr.heap.size ≠ some g := by
                obtain ⟨g', h1, _, h3⟩ := HV.out.lt
                have e3 : g = g' := Option.some.inj h1
                intro e
                have e2 : wr.heap.size = g := Option.some.inj e
                omega
              have hb40 : w4.cell? ⟨wr.heap.size, 0, none⟩ = some (.int .i64 (F : Int)) := cell_grown HG4 hb0 hne
              have hb41 : w4.cell? ⟨wr.heap.size, 1, none⟩ = some (.string f1) := cell_grown HG4 hb1 hne
              have hk4 := (HL4.out.cell (World.block_lt_of_cell? w _ hkW)).trans hkW
              have hsz : (f1.extract 0 q).size = q := by simp; omega
              obtain ⟨w5, hr5, hv5, hg5⟩ := BRow.copyStr (P := Tryd.prog) (t := 45) (u := 9) (ty := 3) Tryd.underlying45 hi hz1 HV4'.out.drew (F * 32) (cap4 - F * 32) (f1.extract 0 q) (by rw [hsz]; omega) g4 cap4 rfl ⟨g4, F * 32, none⟩ (fun _ => rfl)
              have hb5 := BRow.grownBelow HV4'.out.drew HL4.out.drew hg5
              rw [bytesOf_extract0] at hv5
              have hcut : ∀ W : World, (Instr.slice 45 (.slice (some ⟨g4, 0, none⟩) xs4.length cap4) (some (.int .i64 ((F : Int) * 32))) none none).run Tryd.prog W = .ok (.slice (some ⟨g4, F * 32, none⟩) (xs4.length - F * 32) (cap4 - F * 32)) W := fun W => by
                rw [cut_from (P := Tryd.prog) 45 5 .i64 Tryd.underlying45 hi 1 hz1 (some ⟨g4, 0, none⟩) xs4.length cap4 ((F : Int) * 32) (by omega) (by omega) W, show ((F : Int) * 32).toNat = F * 32 by omega, if_neg (by omega)]
                simp [Addr.add_lit]
              rw [hl4, show F * 32 + 32 - F * 32 = 32 by omega] at hcut hr5
              rw [hl4] at hv5
              clear HV4
              go_wp2_with (at_builtin; refine Lib.wpList_append_run _ rfl (.tmp 50) (.tmp 51) 45 3 rfl _ _ rfl rfl _ w4 hr4 ?_)
              go_region_law (refine step_copy_run rfl (.tmp 55) (.tmp 62) 45 9 rfl _ _ rfl rfl _ w5 hr5 ?_)
              all_goals
                go_wp2
                go_roundw
                case rel => exact ⟨k + 1, _, by omega, by go_num, hwl, Lib.hid he, ⟨hv5⟩, ⟨hb5⟩⟩
                case measure => simp [intOf]; omega
            · rw [if_neg hm] at he hwl
              have hm1 : (F : Int) * 32 + 32 - (xs.length : Int) ≤ 0 := by omega
              have hsz : (f1.extract 0 q).size = q := by simp; omega
              obtain ⟨w5, hr5, hv5, hg5⟩ := BRow.copyStr (P := Tryd.prog) (t := 45) (u := 9) (ty := 3) Tryd.underlying45 hi hz1 HVA.out.drew (F * 32) (cap - F * 32) (f1.extract 0 q) (by rw [hsz]; omega) g cap rfl ⟨g, F * 32, none⟩ (fun _ => rfl)
              have hb5 := BRow.grownBelow HVA.out.drew HLA.out.drew hg5
              rw [bytesOf_extract0] at hv5
              have hcut : ∀ W : World, (Instr.slice 45 (.slice (some ⟨g, 0, none⟩) xs.length cap) (some (.int .i64 ((F : Int) * 32))) none none).run Tryd.prog W = .ok (.slice (some ⟨g, F * 32, none⟩) (xs.length - F * 32) (cap - F * 32)) W := fun W => by
                rw [cut_from (P := Tryd.prog) 45 5 .i64 Tryd.underlying45 hi 1 hz1 (some ⟨g, 0, none⟩) xs.length cap ((F : Int) * 32) (by omega) (by omega) W, show ((F : Int) * 32).toNat = F * 32 by omega, if_neg (by omega)]
                simp [Addr.add_lit]
              go_wp2
              go_region_law (refine step_copy_run rfl (.tmp 55) (.tmp 62) 45 9 rfl _ _ rfl rfl _ w5 hr5 ?_)
              all_goals
                go_wp2
                go_roundw
                case rel => exact ⟨k + 1, _, by omega, by go_num, hwl, Lib.hid he, ⟨hv5⟩, ⟨hb5⟩⟩
                case measure => simp [intOf]; omega
        · obtain rfl : k = l1.length := by omega
          have he : xs = T := by
            have := HE.out
            rw [List.drop_length, wrAll_nil] at this
            exact this
          subst he
          have hstr := BRow.str (P := Tryd.prog) (src := 45) (dst := 9) Tryd.underlying45 Tryd.underlying5 Tryd.underlying9 HV.out
          obtain ⟨g, cap, hv, hnc, hcm⟩ := HV.out.shape_
          subst hv
          go_wp2
          go_ret2
          exact ⟨rfl, HL.out⟩
    · rw [if_neg h2] at hj
      obtain ⟨rfl, rfl⟩ := Prod.mk.inj hj
      have h2a : (E2 == 0) = false := beq_eq_false_iff_ne.mpr h2
      have h2b : (E2 != 0) = true := bne_iff_ne.mpr h2
      clear hj hE1 hE2 h2
      go_enter Tryd.func21, Tryd.ntmps21
      go_wp2_with (first | (go_at_call 26; refine hbe.mono ?_; rintro e w1 ⟨rfl, rfl⟩) | (go_at_call 37; refine hwe.mono ?_; rintro e w1 ⟨rfl, hb1⟩))
      go_ret2
      exact ⟨rfl, hb1⟩
  · rw [if_neg h1] at hj
    obtain ⟨rfl, rfl⟩ := Prod.mk.inj hj
    have h1a : (E1 == 0) = false := beq_eq_false_iff_ne.mpr h1
    have h1b : (E1 != 0) = true := bne_iff_ne.mpr h1
    clear hj hE1 hE2 h1
    go_enter Tryd.func21, Tryd.ntmps21
    go_wp2_with (first | (go_at_call 26; refine hbe.mono ?_; rintro e w1 ⟨rfl, rfl⟩))
    go_ret2
    exact ⟨rfl, Below.refl _ _⟩
end Go.Proofs.YtgflelipamofoaaDoor.PA
