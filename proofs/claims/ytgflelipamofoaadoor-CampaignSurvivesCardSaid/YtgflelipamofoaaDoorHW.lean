/- A world that lays the two tables of unicode/utf8: the witness of the door's rows. -/
import Derived.Test.YtgflelipamofoaaDoorRows
import Derived.LaidLaws
import Derived.KernelRfl
import Derived.RowKit
namespace Go.Proofs.YtgflelipamofoaaDoor.Own
open Go Go.RowKit
set_option maxRecDepth 100000
def laidTabs : List (String × DataW Unit) := [("unicode/utf8.acceptRanges", Rows.laid_unicode_utf8_acceptRanges), ("unicode/utf8.first", Rows.laid_unicode_utf8_first)]
def cellsRanges : Array Value := #[.int .u8 128, .int .u8 191, .int .u8 160, .int .u8 191, .int .u8 128, .int .u8 159, .int .u8 144, .int .u8 191, .int .u8 128, .int .u8 143] ++ (List.replicate 22 (Value.int .u8 0)).toArray
def cellsFirst : Array Value := (Pinned.utf8FirstZ.map fun (n : Nat) => Value.int .u8 (n : Int)).toArray
noncomputable def laidWorld (os : Os) : World :=
  let w0 := World.holding Tryd.prog os ⟨#[], #[], []⟩
  { w0 with heap := (w0.heap.modify 1 fun
      | .cells _ t frozen => .cells cellsRanges t frozen
      | o => o).modify 0 fun
      | .cells _ t frozen => .cells cellsFirst t frozen
      | o => o }
noncomputable abbrev laidMem (os : Os) (args : Array Value) : World := ((laidWorld os).forCall (fun _ _ => 0) ⟨#[], args, []⟩).memory
noncomputable def typeOf (g : Nat) : TypeId := ((Tryd.prog.globals[g]?).map (·.type)).getD 0
theorem heapRanges (os : Os) (args : Array Value) : (laidMem os args).heap[1]? = some (.cells cellsRanges (typeOf 1) (0, 0)) := by kernel_rfl
theorem heapFirst (os : Os) (args : Array Value) : (laidMem os args).heap[0]? = some (.cells cellsFirst (typeOf 0) (0, 0)) := by kernel_rfl
def noIface : Value → Bool
  | .iface _ _ => false
  | _ => true
theorem noneRanges : ∀ i : Nat, ∀ u v, cellsRanges[i]? ≠ some (.iface u v) := fun i u v h => by
  have ha : cellsRanges.all noIface = true := by kernel_rfl
  have := (Array.all_eq_true.1 ha) i (Array.getElem?_eq_some_iff.1 h).1
  rw [(Array.getElem?_eq_some_iff.1 h).2] at this
  cases this
theorem noneFirst : ∀ i : Nat, ∀ u v, cellsFirst[i]? ≠ some (.iface u v) := fun i u v h => by
  have ha : cellsFirst.all noIface = true := by kernel_rfl
  have := (Array.all_eq_true.1 ha) i (Array.getElem?_eq_some_iff.1 h).1
  rw [(Array.getElem?_eq_some_iff.1 h).2] at this
  cases this
def placeOk : MemPlace → Bool
  | .cell b _ => b == 1 || b == 0
  | _ => true
def tabPlaces : List MemPlace := MemPlace.row ⟨1, 0, none⟩ cellsRanges.size ++ [] ++ (MemPlace.row ⟨0, 0, none⟩ cellsFirst.size ++ [] ++ [])
theorem laidVars (os : Os) (args : Array Value) : DataW.LaidVars Tryd.prog (laidMem os args) laidTabs tabPlaces :=
  ⟨1, typeOf 1, cellsRanges, 8, [], _, by kernel_rfl, by kernel_rfl, by kernel_rfl, by kernel_rfl,
    ⟨0, typeOf 0, cellsFirst, 8, [], [], by kernel_rfl, by kernel_rfl, by kernel_rfl, by kernel_rfl, rfl, rfl⟩, rfl⟩
theorem tabNodup : tabPlaces.Nodup := by decide +kernel
theorem laidWorld_met (os : Os) (args : Array Value) : laidMet Tryd.prog laidTabs (laidMem os args) := by
  refine ⟨tabPlaces, laidVars os args, tabNodup, fun b off h => ?_⟩
  have hb : placeOk (MemPlace.cell b off) = true := by
    have ha : tabPlaces.all placeOk = true := by kernel_rfl
    exact (List.all_eq_true.1 ha) _ h
  simp only [placeOk, Bool.or_eq_true, beq_iff_eq] at hb
  rcases hb with rfl | rfl
  · refine ⟨⟨_, _, heapRanges os args⟩, fun u v hc => ?_⟩
    simp only [World.cell?, heapRanges os args] at hc
    exact absurd hc (noneRanges _ u v)
  · refine ⟨⟨_, _, heapFirst os args⟩, fun u v hc => ?_⟩
    simp only [World.cell?, heapFirst os args] at hc
    exact absurd hc (noneFirst _ u v)
end Go.Proofs.YtgflelipamofoaaDoor.Own
