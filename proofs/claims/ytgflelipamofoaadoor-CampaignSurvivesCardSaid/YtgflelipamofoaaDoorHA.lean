/- campaign.isName: by hand, in the printer's form. -/
import Derived.Test.YtgflelipamofoaaDoorPAx0
import Derived.Lib.ConvBytes
import Derived.Lib.Hide
import Derived.Outline
namespace Go.Proofs.YtgflelipamofoaaDoor.PA
open Go.RowKit Go.Proofs.YtgflelipamofoaaDoorW.PrintWords Go.Proofs.YtgflelipamofoaaDoorW.PrintLast Go.Proofs.YtgflelipamofoaaDoorW.PrintMore
set_option linter.unusedVariables false
set_option linter.unusedSimpArgs false

/-- Is the byte at place i right in a name? -/
def nmOk (i : Nat) (c : Int) : Bool := (decide (97 ≤ c) && decide (c ≤ 122)) || (decide (65 ≤ c) && decide (c ≤ 90)) || (decide (i ≠ 0) && (decide (c = 95) || decide (c = 46) || (decide (48 ≤ c) && decide (c ≤ 57))))
def nmFrom (s : ByteArray) : Nat → Nat → Bool
  | 0, _ => true
  | d + 1, i => nmOk i (bt s i) && nmFrom s d (i + 1)
def nameB (s : ByteArray) : Bool := decide (1 ≤ s.size) && decide (s.size ≤ 20) && nmFrom s s.size 0
def campaign_isName.f (a0 : ByteArray) : Option Bool := some (nameB a0)

theorem bt_getD (s : ByteArray) (k : Nat) (h : k < s.size) : ((s.data.toList.getD k 0).toNat : Int) = bt s k := by
  unfold bt
  have hl : k < s.data.toList.length := by simpa using h
  rw [dif_pos (by simpa using h)]
  simp [List.getD]
  rw [Array.getElem?_eq_getElem (by simpa using hl)]
  rfl
theorem nmOk_iff {i : Nat} {c : Int} : nmOk i c = true ↔ (97 ≤ c ∧ c ≤ 122) ∨ (65 ≤ c ∧ c ≤ 90) ∨ (i ≠ 0 ∧ (c = 95 ∨ c = 46 ∨ (48 ≤ c ∧ c ≤ 57))) := by
  simp [nmOk]
  omega
theorem nmFrom_step {a0 : ByteArray} {B : Bool} (k : Nat) (hlt : k < a0.size) (h : nmFrom a0 (a0.size - k) k = B) : (nmOk k (bt a0 k) = true → nmFrom a0 (a0.size - (k + 1)) (k + 1) = B) ∧ (nmOk k (bt a0 k) = false → B = false) := by
  obtain ⟨d, hd⟩ : ∃ d, a0.size - k = d + 1 := ⟨a0.size - k - 1, by omega⟩
  rw [hd, nmFrom] at h
  rw [show a0.size - (k + 1) = d by omega]
  exact ⟨fun e => by rw [e] at h; simpa using h, fun e => by rw [e] at h; simpa using h.symm⟩
theorem grown_bytes (w : World) (e : TypeId) (s : ByteArray) (row : Option Nat) : w.grownBy (Lib.bytesWorld w e s) row :=
  ⟨rfl, rfl, rfl, by rw [Lib.bytesWorld_size]; omega, fun k hk _ => Lib.bytesWorld_at_old w e s k hk⟩
set_option maxHeartbeats 1000000 in
theorem campaign_isName.calls (a0 : ByteArray) (r : Bool) (w : World) (h : campaign_isName.f a0 = some r) :
    Calls Tryd.prog 49 #[.string a0] w fun e w' => e = .returned (.bool r) ∧ Below w.heap.size w w' := by
  obtain rfl : nameB a0 = r := Option.some.inj h
  clear h
  by_cases h1 : a0.size < 1
  · have e : nameB a0 = false := by unfold nameB; rw [decide_eq_false (by omega)]; rfl
    rw [e]
    clear e
    go_enter Tryd.func49, Tryd.ntmps49
    go_wp2
    go_ret
    exact ⟨rfl, Below.refl _ _⟩
  by_cases h2 : 20 < a0.size
  · have e : nameB a0 = false := by unfold nameB; rw [decide_eq_false (p := a0.size ≤ 20) (by omega)]; simp
    rw [e]
    clear e
    go_enter Tryd.func49, Tryd.ntmps49
    go_wp2
    go_ret
    exact ⟨rfl, Below.refl _ _⟩
  have hn : nameB a0 = nmFrom a0 a0.size 0 := by unfold nameB; rw [decide_eq_true (by omega), decide_eq_true (by omega)]; rfl
  rw [hn]
  clear hn
  obtain ⟨B, hB⟩ : ∃ B, nmFrom a0 a0.size 0 = B := ⟨_, rfl⟩
  rw [hB]
  have HB := Lib.hid hB
  clear hB
  have hk := fun (w : World) => Lib.run_convert_string_bytes (P := Tryd.prog) w 9 45 5 a0 Tryd.underlying9 Tryd.underlying45 Tryd.underlying5
  go_enter Tryd.func49, Tryd.ntmps49
  go_wp2
  go_loopw [17, 3, 4, 5] (fun i a b c wr => ∃ k : Nat, k ≤ a0.size ∧ i = .int .i64 k ∧ Aside0 (nmFrom a0 (a0.size - k) k = B) ∧ Aside0 (∀ j, j < a0.size → wr.cell? ⟨w.heap.size, j, none⟩ = some (.int .u8 (bt a0 j))) ∧ Aside0 (Below w.heap.size w wr)) (fun i _ _ _ _ => a0.size - (intOf i).toNat)
  case atStart => 
    refine ⟨0, Nat.zero_le _, rfl, ⟨HB.out⟩, ⟨fun j hj => ?_⟩, ⟨(Below.refl _ w).grown (row := none) (grown_bytes w 5 a0 none) (Nat.le_refl _) (by simp)⟩⟩
    rw [Lib.bytesWorld_cell _ _ _ _ hj, bt_getD _ _ hj]
  case round =>
    obtain ⟨k, hk1, rfl, HA, HC, HL⟩ := hrel
    by_cases hlt : k < a0.size
    · have hc := HC.out k hlt
      have HA2 := nmFrom_step (B := B) k hlt HA.out
      clear HA
      obtain ⟨c, hce⟩ : ∃ c, bt a0 (k : Int) = c := ⟨_, rfl⟩
      rw [hce] at hc HA2
      clear hce
      go_wp2
      all_goals (try simp only [Bool.not_eq_true', Bool.not_eq_false', decide_eq_true_eq, decide_eq_false_iff_not, bne_iff_ne, beq_iff_eq, bne_eq_false_iff_eq, beq_eq_false_iff_ne, ne_eq] at *)
      all_goals first
        | (go_round
           (case rel => exact ⟨k + 1, by omega, by first | rfl | go_num | (obtain rfl : k = 0 := by assumption; rfl), ⟨HA2.1 (nmOk_iff.2 (by omega))⟩, HC, HL⟩)
           (case measure => simp [intOf]; omega))
        | (go_ret
           exact ⟨by rw [HA2.2 (by rw [← Bool.not_eq_true, nmOk_iff]; omega)]; rfl, HL.out⟩)
    · obtain rfl : k = a0.size := by omega
      have hB : true = B := by have := HA.out; rw [Nat.sub_self] at this; exact this
      subst hB
      go_wp2
      go_ret
      exact ⟨rfl, HL.out⟩
end Go.Proofs.YtgflelipamofoaaDoor.PA
