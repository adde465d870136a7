/-
  No cell of these rows narrows 'for every input' (looked for: loops, veiled, ifaces, maps, wideKeys, modest, calm, conditions, laid).
  DERIVED. THE GIVEN ROWS OF THIS SEAT. 5 by the template 'for every input the law returns true; each argument reads behind the call as it read before'; 0 by the template 'total and deterministic' (their statements: YtgflelipamofoaaTotals.lean).
  GIVEN WITH THE SEED: the statements are not yours to turn. If you find one false, say at which input.
  Laid BY PROGRAM, IN A SANDBOX (cutbox-rows.mjs): the forced cells as the released guide's own fill.sh prints them over the translation baf4ea44dcbd8e11… (all of the seat's roots in one cut). By AI agents, Wed Nov 11 2026. No macro, syntax, notation, axiom, sorry.
-/
import Derived.Test.YtgflelipamofoaaChecked
import GoSem.Claim
import GoSem.ClaimJoined
import GoSem.ClaimMapViews
import Derived.JoinedTies
import Derived.KernelRfl
namespace Go.Proofs.Ytgflelipamofoaa
/- THE CELL 'sum', in the pinned program and in every row, IS THE sha256 OF THE DUMP (.gsa) THAT YtgflelipamofoaaProg.lean LOADS. Nothing in Lean hashes anything: it is a label: what it is worth is what the hold of that sum in a sandbox is worth. -/
noncomputable def Try.pinned : Pinned := { name := "ytgflelipamofoaa", sum := "baf4ea44dcbd8e11304881d33ae314ed391b6f3f57fa6bd0e08d40699df8fb7c", checked := Try.checked }
namespace Rows
def none {H : Type} : Left H := { results := [], args := [] }

/-- 'examinerlaw43.CampaignJournals': WHATEVER THE INPUT: true; the input reads as it did. -/
def campaignJournalsSpec : ChangeSpec := { name := "campaignJournals", fn := fun _ => fun
  | [d] => { results := [.lit (.bool true)], args := [d] }
  | _ => none }
def campaignJournalsRow : OpenClaim := { program := "ytgflelipamofoaa", sum := "baf4ea44dcbd8e11304881d33ae314ed391b6f3f57fa6bd0e08d40699df8fb7c", func := "examiner/examinerlaw43.CampaignJournals", spec := "campaignJournals", inPlace := ["internal/abi.NoEscape"], apart := false }
def CampaignJournalsSaid : Prop := campaignJournalsRow.holds Try.pinned (OpenSpec.ofChange campaignJournalsSpec)

/-- ITS FALSE NEIGHBOUR: 'it returns false'. Refute it at one input. -/
def campaignJournalsWrong : ChangeSpec := { name := "campaignJournals", fn := fun _ => fun
  | [d] => { results := [.lit (.bool false)], args := [d] }
  | _ => none }
def CampaignJournalsWrongFalsely : Prop := campaignJournalsRow.holds Try.pinned (OpenSpec.ofChange campaignJournalsWrong)

/-- 'examinerlaw43.CampaignMust': WHATEVER THE INPUT: true; the input reads as it did. -/
def campaignMustSpec : ChangeSpec := { name := "campaignMust", fn := fun _ => fun
  | [d1, d2] => { results := [.lit (.bool true)], args := [d1, d2] }
  | _ => none }
def campaignMustRow : OpenClaim := { program := "ytgflelipamofoaa", sum := "baf4ea44dcbd8e11304881d33ae314ed391b6f3f57fa6bd0e08d40699df8fb7c", func := "examiner/examinerlaw43.CampaignMust", spec := "campaignMust", inPlace := ["internal/abi.NoEscape"], apart := false }
def CampaignMustSaid : Prop := campaignMustRow.holds Try.pinned (OpenSpec.ofChange campaignMustSpec)

/-- ITS FALSE NEIGHBOUR: 'it returns false'. Refute it at one input. -/
def campaignMustWrong : ChangeSpec := { name := "campaignMust", fn := fun _ => fun
  | [d1, d2] => { results := [.lit (.bool false)], args := [d1, d2] }
  | _ => none }
def CampaignMustWrongFalsely : Prop := campaignMustRow.holds Try.pinned (OpenSpec.ofChange campaignMustWrong)

/-- 'examinerlaw43.CampaignEntries': WHATEVER THE INPUT: true; the input reads as it did. -/
def campaignEntriesSpec : ChangeSpec := { name := "campaignEntries", fn := fun _ => fun
  | [d1, d2] => { results := [.lit (.bool true)], args := [d1, d2] }
  | _ => none }
def campaignEntriesRow : OpenClaim := { program := "ytgflelipamofoaa", sum := "baf4ea44dcbd8e11304881d33ae314ed391b6f3f57fa6bd0e08d40699df8fb7c", func := "examiner/examinerlaw43.CampaignEntries", spec := "campaignEntries", inPlace := ["internal/abi.NoEscape"], unfollowed := true, recurses := true, apart := false }
def CampaignEntriesSaid : Prop := campaignEntriesRow.holds Try.pinned (OpenSpec.ofChange campaignEntriesSpec)

/-- ITS FALSE NEIGHBOUR: 'it returns false'. Refute it at one input. -/
def campaignEntriesWrong : ChangeSpec := { name := "campaignEntries", fn := fun _ => fun
  | [d1, d2] => { results := [.lit (.bool false)], args := [d1, d2] }
  | _ => none }
def CampaignEntriesWrongFalsely : Prop := campaignEntriesRow.holds Try.pinned (OpenSpec.ofChange campaignEntriesWrong)

/-- 'examinerlaw43.CampaignCompacts': WHATEVER THE INPUT: true; the input reads as it did. -/
def campaignCompactsSpec : ChangeSpec := { name := "campaignCompacts", fn := fun _ => fun
  | [d1, d2] => { results := [.lit (.bool true)], args := [d1, d2] }
  | _ => none }
def campaignCompactsRow : OpenClaim := { program := "ytgflelipamofoaa", sum := "baf4ea44dcbd8e11304881d33ae314ed391b6f3f57fa6bd0e08d40699df8fb7c", func := "examiner/examinerlaw43.CampaignCompacts", spec := "campaignCompacts", inPlace := ["internal/abi.NoEscape"], unfollowed := true, recurses := true, apart := false }
def CampaignCompactsSaid : Prop := campaignCompactsRow.holds Try.pinned (OpenSpec.ofChange campaignCompactsSpec)

/-- ITS FALSE NEIGHBOUR: 'it returns false'. Refute it at one input. -/
def campaignCompactsWrong : ChangeSpec := { name := "campaignCompacts", fn := fun _ => fun
  | [d1, d2] => { results := [.lit (.bool false)], args := [d1, d2] }
  | _ => none }
def CampaignCompactsWrongFalsely : Prop := campaignCompactsRow.holds Try.pinned (OpenSpec.ofChange campaignCompactsWrong)

/-- 'examinerlaw43.CampaignWrites': WHATEVER THE INPUT: true; the input reads as it did. -/
def campaignWritesSpec : ChangeSpec := { name := "campaignWrites", fn := fun _ => fun
  | [d1, d2] => { results := [.lit (.bool true)], args := [d1, d2] }
  | _ => none }
def campaignWritesRow : OpenClaim := { program := "ytgflelipamofoaa", sum := "baf4ea44dcbd8e11304881d33ae314ed391b6f3f57fa6bd0e08d40699df8fb7c", func := "examiner/examinerlaw43.CampaignWrites", spec := "campaignWrites", inPlace := ["internal/abi.NoEscape"], unfollowed := true, recurses := true, apart := false }
def CampaignWritesSaid : Prop := campaignWritesRow.holds Try.pinned (OpenSpec.ofChange campaignWritesSpec)

/-- ITS FALSE NEIGHBOUR: 'it returns false'. Refute it at one input. -/
def campaignWritesWrong : ChangeSpec := { name := "campaignWrites", fn := fun _ => fun
  | [d1, d2] => { results := [.lit (.bool false)], args := [d1, d2] }
  | _ => none }
def CampaignWritesWrongFalsely : Prop := campaignWritesRow.holds Try.pinned (OpenSpec.ofChange campaignWritesWrong)

/- THE SECOND FORM. 'bulk': how many values and letters a reading holds, each counted each time it is reached (what is shared counts as often as it is met; a slice's spare places count too). A statement '..UptoSaid' is the law's where the arguments, and the package variables that the reading takes, are together of bulk at most 1048576: NARROWER than '..Said'. Prove '..Said' where nothing that the law and all that it calls make is longer than what came in: it says more and counts as full. Else prove '..UptoSaid'. A law counts once. -/
mutual
def uptoBulk {H : Type} : DataW H → Nat
  | .lit (.string bytes) => bytes.length + 1
  | .lit _ => 1
  | .nil => 1
  | .ptr d => uptoBulk d + 1
  | .slice elems spare => uptoBulkAll elems + uptoBulkAll spare + 1
  | .agg parts => uptoBulkAll parts + 1
  | .iface _ d => uptoBulk d + 1
  | .map entries => uptoBulkEntries entries + 1
  | .held _ => 1
def uptoBulkAll {H : Type} : List (DataW H) → Nat
  | [] => 0
  | d :: r => uptoBulk d + uptoBulkAll r
def uptoBulkEntries {H : Type} : List (Lit × DataW H) → Nat
  | [] => 0
  | x :: r => uptoBulkEntry x + uptoBulkEntries r
def uptoBulkEntry {H : Type} : Lit × DataW H → Nat
  | (.string bytes, d) => bytes.length + uptoBulk d + 1
  | (_, d) => uptoBulk d + 1
 end
def uptoSmall : (H : Type) → List (DataW H) → Bool := fun _ ds => decide (uptoBulkAll ds ≤ 1048576)
def OpenSpec.upto (s : _root_.Go.ChangeSpec) : _root_.Go.OpenSpec := { _root_.Go.OpenSpec.ofChange s with cond := some uptoSmall }

/-- 'examinerlaw43.CampaignJournals', WHERE WHAT IT READS IS OF BULK AT MOST 1048576: true; the input reads as it did. -/
def campaignJournalsUptoRow : OpenClaim := { program := "ytgflelipamofoaa", sum := "baf4ea44dcbd8e11304881d33ae314ed391b6f3f57fa6bd0e08d40699df8fb7c", func := "examiner/examinerlaw43.CampaignJournals", spec := "campaignJournals", inPlace := ["internal/abi.NoEscape"], apart := false, narrowed := true }
def CampaignJournalsUptoSaid : Prop := campaignJournalsUptoRow.holds Try.pinned (OpenSpec.upto campaignJournalsSpec)

/-- 'examinerlaw43.CampaignMust', WHERE WHAT IT READS IS OF BULK AT MOST 1048576: true; the input reads as it did. -/
def campaignMustUptoRow : OpenClaim := { program := "ytgflelipamofoaa", sum := "baf4ea44dcbd8e11304881d33ae314ed391b6f3f57fa6bd0e08d40699df8fb7c", func := "examiner/examinerlaw43.CampaignMust", spec := "campaignMust", inPlace := ["internal/abi.NoEscape"], apart := false, narrowed := true }
def CampaignMustUptoSaid : Prop := campaignMustUptoRow.holds Try.pinned (OpenSpec.upto campaignMustSpec)

/-- 'examinerlaw43.CampaignEntries', WHERE WHAT IT READS IS OF BULK AT MOST 1048576: true; the input reads as it did. -/
def campaignEntriesUptoRow : OpenClaim := { program := "ytgflelipamofoaa", sum := "baf4ea44dcbd8e11304881d33ae314ed391b6f3f57fa6bd0e08d40699df8fb7c", func := "examiner/examinerlaw43.CampaignEntries", spec := "campaignEntries", inPlace := ["internal/abi.NoEscape"], unfollowed := true, recurses := true, apart := false, narrowed := true }
def CampaignEntriesUptoSaid : Prop := campaignEntriesUptoRow.holds Try.pinned (OpenSpec.upto campaignEntriesSpec)

/-- 'examinerlaw43.CampaignCompacts', WHERE WHAT IT READS IS OF BULK AT MOST 1048576: true; the input reads as it did. -/
def campaignCompactsUptoRow : OpenClaim := { program := "ytgflelipamofoaa", sum := "baf4ea44dcbd8e11304881d33ae314ed391b6f3f57fa6bd0e08d40699df8fb7c", func := "examiner/examinerlaw43.CampaignCompacts", spec := "campaignCompacts", inPlace := ["internal/abi.NoEscape"], unfollowed := true, recurses := true, apart := false, narrowed := true }
def CampaignCompactsUptoSaid : Prop := campaignCompactsUptoRow.holds Try.pinned (OpenSpec.upto campaignCompactsSpec)

/-- 'examinerlaw43.CampaignWrites', WHERE WHAT IT READS IS OF BULK AT MOST 1048576: true; the input reads as it did. -/
def campaignWritesUptoRow : OpenClaim := { program := "ytgflelipamofoaa", sum := "baf4ea44dcbd8e11304881d33ae314ed391b6f3f57fa6bd0e08d40699df8fb7c", func := "examiner/examinerlaw43.CampaignWrites", spec := "campaignWrites", inPlace := ["internal/abi.NoEscape"], unfollowed := true, recurses := true, apart := false, narrowed := true }
def CampaignWritesUptoSaid : Prop := campaignWritesUptoRow.holds Try.pinned (OpenSpec.upto campaignWritesSpec)

end Rows
end Go.Proofs.Ytgflelipamofoaa
