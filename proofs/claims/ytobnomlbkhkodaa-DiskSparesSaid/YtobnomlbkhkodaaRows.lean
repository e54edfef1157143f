/-
  No cell of these rows narrows 'for every input' (looked for: loops, veiled, ifaces, maps, wideKeys, modest, calm, conditions, laid).
  DERIVED. THE GIVEN ROWS OF THIS SEAT. 11 by the template 'for every input the law returns true; each argument reads behind the call as it read before'; 0 by the template 'total and deterministic' (their statements: YtobnomlbkhkodaaTotals.lean).
  GIVEN WITH THE SEED: the statements are not yours to turn. If you find one false, say at which input.
  Laid BY PROGRAM, IN A SANDBOX (cutbox-rows.mjs): the forced cells as the released guide's own fill.sh prints them over the translation cb6a8095b8d92409… (all of the seat's roots in one cut). By AI agents, Wed Nov 11 2026. No macro, syntax, notation, axiom, sorry.
-/
import Derived.Test.YtobnomlbkhkodaaChecked
import GoSem.Claim
import GoSem.ClaimJoined
import GoSem.ClaimMapViews
import Derived.JoinedTies
import Derived.KernelRfl
namespace Go.Proofs.Ytobnomlbkhkodaa
/- THE CELL 'sum', in the pinned program and in every row, IS THE sha256 OF THE DUMP (.gsa) THAT YtobnomlbkhkodaaProg.lean LOADS. Nothing in Lean hashes anything: it is a label: what it is worth is what the hold of that sum in a sandbox is worth. -/
noncomputable def Try.pinned : Pinned := { name := "ytobnomlbkhkodaa", sum := "cb6a8095b8d92409190b65bc62bb08f318e7e9d6eb023040cde959bb9ea4d84d", checked := Try.checked }
namespace Rows
def none {H : Type} : Left H := { results := [], args := [] }

/-- 'chancerylaw08.ChangeSpares': WHATEVER THE INPUT: true; the input reads as it did. -/
def changeSparesSpec : ChangeSpec := { name := "changeSpares", fn := fun _ => fun
  | [d1, d2] => { results := [.lit (.bool true)], args := [d1, d2] }
  | _ => none }
def changeSparesRow : OpenClaim := { program := "ytobnomlbkhkodaa", sum := "cb6a8095b8d92409190b65bc62bb08f318e7e9d6eb023040cde959bb9ea4d84d", func := "chancery/chancerylaw08.ChangeSpares", spec := "changeSpares", unfollowed := true, recurses := true, apart := false }
def ChangeSparesSaid : Prop := changeSparesRow.holds Try.pinned (OpenSpec.ofChange changeSparesSpec)

/-- ITS FALSE NEIGHBOUR: 'it returns false'. Refute it at one input. -/
def changeSparesWrong : ChangeSpec := { name := "changeSpares", fn := fun _ => fun
  | [d1, d2] => { results := [.lit (.bool false)], args := [d1, d2] }
  | _ => none }
def ChangeSparesWrongFalsely : Prop := changeSparesRow.holds Try.pinned (OpenSpec.ofChange changeSparesWrong)

/-- 'chancerylaw08.ChangeNumbers': WHATEVER THE INPUT: true; the input reads as it did. -/
def changeNumbersSpec : ChangeSpec := { name := "changeNumbers", fn := fun _ => fun
  | [] => { results := [.lit (.bool true)], args := [] }
  | _ => none }
def changeNumbersRow : OpenClaim := { program := "ytobnomlbkhkodaa", sum := "cb6a8095b8d92409190b65bc62bb08f318e7e9d6eb023040cde959bb9ea4d84d", func := "chancery/chancerylaw08.ChangeNumbers", spec := "changeNumbers", unfollowed := true, recurses := true, apart := false }
def ChangeNumbersSaid : Prop := changeNumbersRow.holds Try.pinned (OpenSpec.ofChange changeNumbersSpec)

/-- ITS FALSE NEIGHBOUR: 'it returns false'. Refute it at one input. -/
def changeNumbersWrong : ChangeSpec := { name := "changeNumbers", fn := fun _ => fun
  | [] => { results := [.lit (.bool false)], args := [] }
  | _ => none }
def ChangeNumbersWrongFalsely : Prop := changeNumbersRow.holds Try.pinned (OpenSpec.ofChange changeNumbersWrong)

/-- 'chancerylaw08.ChangeTells': WHATEVER THE INPUT: true; the input reads as it did. -/
def changeTellsSpec : ChangeSpec := { name := "changeTells", fn := fun _ => fun
  | [d1, d2, d3] => { results := [.lit (.bool true)], args := [d1, d2, d3] }
  | _ => none }
def changeTellsRow : OpenClaim := { program := "ytobnomlbkhkodaa", sum := "cb6a8095b8d92409190b65bc62bb08f318e7e9d6eb023040cde959bb9ea4d84d", func := "chancery/chancerylaw08.ChangeTells", spec := "changeTells", unfollowed := true, recurses := true, apart := false }
def ChangeTellsSaid : Prop := changeTellsRow.holds Try.pinned (OpenSpec.ofChange changeTellsSpec)

/-- ITS FALSE NEIGHBOUR: 'it returns false'. Refute it at one input. -/
def changeTellsWrong : ChangeSpec := { name := "changeTells", fn := fun _ => fun
  | [d1, d2, d3] => { results := [.lit (.bool false)], args := [d1, d2, d3] }
  | _ => none }
def ChangeTellsWrongFalsely : Prop := changeTellsRow.holds Try.pinned (OpenSpec.ofChange changeTellsWrong)

/-- 'chancerylaw08.ChangeAlong': WHATEVER THE INPUT: true; the input reads as it did. -/
def changeAlongSpec : ChangeSpec := { name := "changeAlong", fn := fun _ => fun
  | [d1, d2, d3] => { results := [.lit (.bool true)], args := [d1, d2, d3] }
  | _ => none }
def changeAlongRow : OpenClaim := { program := "ytobnomlbkhkodaa", sum := "cb6a8095b8d92409190b65bc62bb08f318e7e9d6eb023040cde959bb9ea4d84d", func := "chancery/chancerylaw08.ChangeAlong", spec := "changeAlong", unfollowed := true, recurses := true, apart := false }
def ChangeAlongSaid : Prop := changeAlongRow.holds Try.pinned (OpenSpec.ofChange changeAlongSpec)

/-- ITS FALSE NEIGHBOUR: 'it returns false'. Refute it at one input. -/
def changeAlongWrong : ChangeSpec := { name := "changeAlong", fn := fun _ => fun
  | [d1, d2, d3] => { results := [.lit (.bool false)], args := [d1, d2, d3] }
  | _ => none }
def ChangeAlongWrongFalsely : Prop := changeAlongRow.holds Try.pinned (OpenSpec.ofChange changeAlongWrong)

/-- 'chancerylaw08.ChangeBack': WHATEVER THE INPUT: true; the input reads as it did. -/
def changeBackSpec : ChangeSpec := { name := "changeBack", fn := fun _ => fun
  | [d1, d2] => { results := [.lit (.bool true)], args := [d1, d2] }
  | _ => none }
def changeBackRow : OpenClaim := { program := "ytobnomlbkhkodaa", sum := "cb6a8095b8d92409190b65bc62bb08f318e7e9d6eb023040cde959bb9ea4d84d", func := "chancery/chancerylaw08.ChangeBack", spec := "changeBack", unfollowed := true, recurses := true, apart := false }
def ChangeBackSaid : Prop := changeBackRow.holds Try.pinned (OpenSpec.ofChange changeBackSpec)

/-- ITS FALSE NEIGHBOUR: 'it returns false'. Refute it at one input. -/
def changeBackWrong : ChangeSpec := { name := "changeBack", fn := fun _ => fun
  | [d1, d2] => { results := [.lit (.bool false)], args := [d1, d2] }
  | _ => none }
def ChangeBackWrongFalsely : Prop := changeBackRow.holds Try.pinned (OpenSpec.ofChange changeBackWrong)

/-- 'chancerylaw03.DiskSynced': WHATEVER THE INPUT: true; the input reads as it did. -/
def diskSyncedSpec : ChangeSpec := { name := "diskSynced", fn := fun _ => fun
  | [d1, d2] => { results := [.lit (.bool true)], args := [d1, d2] }
  | _ => none }
def diskSyncedRow : OpenClaim := { program := "ytobnomlbkhkodaa", sum := "cb6a8095b8d92409190b65bc62bb08f318e7e9d6eb023040cde959bb9ea4d84d", func := "chancery/chancerylaw03.DiskSynced", spec := "diskSynced", inPlace := ["sync/atomic.LoadInt64", "sync/atomic.AddInt64", "sync/atomic.StoreInt64"], unfollowed := true, recurses := true, apart := false }
def DiskSyncedSaid : Prop := diskSyncedRow.holds Try.pinned (OpenSpec.ofChange diskSyncedSpec)

/-- ITS FALSE NEIGHBOUR: 'it returns false'. Refute it at one input. -/
def diskSyncedWrong : ChangeSpec := { name := "diskSynced", fn := fun _ => fun
  | [d1, d2] => { results := [.lit (.bool false)], args := [d1, d2] }
  | _ => none }
def DiskSyncedWrongFalsely : Prop := diskSyncedRow.holds Try.pinned (OpenSpec.ofChange diskSyncedWrong)

/-- 'chancerylaw03.DiskSpares': WHATEVER THE INPUT: true; the input reads as it did. -/
def diskSparesSpec : ChangeSpec := { name := "diskSpares", fn := fun _ => fun
  | [d] => { results := [.lit (.bool true)], args := [d] }
  | _ => none }
def diskSparesRow : OpenClaim := { program := "ytobnomlbkhkodaa", sum := "cb6a8095b8d92409190b65bc62bb08f318e7e9d6eb023040cde959bb9ea4d84d", func := "chancery/chancerylaw03.DiskSpares", spec := "diskSpares", inPlace := ["sync/atomic.LoadInt64", "sync/atomic.AddInt64", "sync/atomic.StoreInt64"], unfollowed := true, recurses := true, apart := false }
def DiskSparesSaid : Prop := diskSparesRow.holds Try.pinned (OpenSpec.ofChange diskSparesSpec)

/-- ITS FALSE NEIGHBOUR: 'it returns false'. Refute it at one input. -/
def diskSparesWrong : ChangeSpec := { name := "diskSpares", fn := fun _ => fun
  | [d] => { results := [.lit (.bool false)], args := [d] }
  | _ => none }
def DiskSparesWrongFalsely : Prop := diskSparesRow.holds Try.pinned (OpenSpec.ofChange diskSparesWrong)

/-- 'chancerylaw03.DiskCrashes': WHATEVER THE INPUT: true; the input reads as it did. -/
def diskCrashesSpec : ChangeSpec := { name := "diskCrashes", fn := fun _ => fun
  | [d] => { results := [.lit (.bool true)], args := [d] }
  | _ => none }
def diskCrashesRow : OpenClaim := { program := "ytobnomlbkhkodaa", sum := "cb6a8095b8d92409190b65bc62bb08f318e7e9d6eb023040cde959bb9ea4d84d", func := "chancery/chancerylaw03.DiskCrashes", spec := "diskCrashes", inPlace := ["sync/atomic.LoadInt64", "sync/atomic.AddInt64", "sync/atomic.StoreInt64"], unfollowed := true, recurses := true, apart := false }
def DiskCrashesSaid : Prop := diskCrashesRow.holds Try.pinned (OpenSpec.ofChange diskCrashesSpec)

/-- ITS FALSE NEIGHBOUR: 'it returns false'. Refute it at one input. -/
def diskCrashesWrong : ChangeSpec := { name := "diskCrashes", fn := fun _ => fun
  | [d] => { results := [.lit (.bool false)], args := [d] }
  | _ => none }
def DiskCrashesWrongFalsely : Prop := diskCrashesRow.holds Try.pinned (OpenSpec.ofChange diskCrashesWrong)

/-- 'chancerylaw03.DiskNumbers': WHATEVER THE INPUT: true; the input reads as it did. -/
def diskNumbersSpec : ChangeSpec := { name := "diskNumbers", fn := fun _ => fun
  | [] => { results := [.lit (.bool true)], args := [] }
  | _ => none }
def diskNumbersRow : OpenClaim := { program := "ytobnomlbkhkodaa", sum := "cb6a8095b8d92409190b65bc62bb08f318e7e9d6eb023040cde959bb9ea4d84d", func := "chancery/chancerylaw03.DiskNumbers", spec := "diskNumbers", inPlace := ["sync/atomic.LoadInt64", "sync/atomic.AddInt64", "sync/atomic.StoreInt64"], unfollowed := true, recurses := true, apart := false }
def DiskNumbersSaid : Prop := diskNumbersRow.holds Try.pinned (OpenSpec.ofChange diskNumbersSpec)

/-- ITS FALSE NEIGHBOUR: 'it returns false'. Refute it at one input. -/
def diskNumbersWrong : ChangeSpec := { name := "diskNumbers", fn := fun _ => fun
  | [] => { results := [.lit (.bool false)], args := [] }
  | _ => none }
def DiskNumbersWrongFalsely : Prop := diskNumbersRow.holds Try.pinned (OpenSpec.ofChange diskNumbersWrong)

/-- 'chancerylaw03.DiskPlays': WHATEVER THE INPUT: true; the input reads as it did. -/
def diskPlaysSpec : ChangeSpec := { name := "diskPlays", fn := fun _ => fun
  | [d1, d2] => { results := [.lit (.bool true)], args := [d1, d2] }
  | _ => none }
def diskPlaysRow : OpenClaim := { program := "ytobnomlbkhkodaa", sum := "cb6a8095b8d92409190b65bc62bb08f318e7e9d6eb023040cde959bb9ea4d84d", func := "chancery/chancerylaw03.DiskPlays", spec := "diskPlays", inPlace := ["sync/atomic.LoadInt64", "sync/atomic.AddInt64", "sync/atomic.StoreInt64"], unfollowed := true, recurses := true, apart := false }
def DiskPlaysSaid : Prop := diskPlaysRow.holds Try.pinned (OpenSpec.ofChange diskPlaysSpec)

/-- ITS FALSE NEIGHBOUR: 'it returns false'. Refute it at one input. -/
def diskPlaysWrong : ChangeSpec := { name := "diskPlays", fn := fun _ => fun
  | [d1, d2] => { results := [.lit (.bool false)], args := [d1, d2] }
  | _ => none }
def DiskPlaysWrongFalsely : Prop := diskPlaysRow.holds Try.pinned (OpenSpec.ofChange diskPlaysWrong)

/-- 'chancerylaw03.DiskNone': WHATEVER THE INPUT: true; the input reads as it did. -/
def diskNoneSpec : ChangeSpec := { name := "diskNone", fn := fun _ => fun
  | [d1, d2, d3, d4] => { results := [.lit (.bool true)], args := [d1, d2, d3, d4] }
  | _ => none }
def diskNoneRow : OpenClaim := { program := "ytobnomlbkhkodaa", sum := "cb6a8095b8d92409190b65bc62bb08f318e7e9d6eb023040cde959bb9ea4d84d", func := "chancery/chancerylaw03.DiskNone", spec := "diskNone", inPlace := ["sync/atomic.LoadInt64", "sync/atomic.AddInt64", "sync/atomic.StoreInt64"], unfollowed := true, recurses := true, apart := false }
def DiskNoneSaid : Prop := diskNoneRow.holds Try.pinned (OpenSpec.ofChange diskNoneSpec)

/-- ITS FALSE NEIGHBOUR: 'it returns false'. Refute it at one input. -/
def diskNoneWrong : ChangeSpec := { name := "diskNone", fn := fun _ => fun
  | [d1, d2, d3, d4] => { results := [.lit (.bool false)], args := [d1, d2, d3, d4] }
  | _ => none }
def DiskNoneWrongFalsely : Prop := diskNoneRow.holds Try.pinned (OpenSpec.ofChange diskNoneWrong)

/- THE SECOND FORM. 'bulk': how many values and letters a reading holds, each counted each time it is reached (what is shared counts as often as it is met; a slice's spare places count too). A statement '..UptoSaid' is the law's where the arguments, and the package variables that the reading takes, are together of bulk at most 1048576: NARROWER than '..Said'. Prove '..Said' where nothing that the law and all that it calls make is longer than what came in: it says more and counts as full. Else prove '..UptoSaid'. A law counts once. -/
mutual
def uptoBulk {H : Type} : DataW H → Nat
  | .lit (.string bytes) => bytes.length + 1
  | .lit _ => 1
  | .nil => 1
  | .ptr d => uptoBulk d + 1
  | .slice elems spare => uptoBulkAll elems + uptoBulkAll spare + 1
  | .agg parts => uptoBulkAll parts + 1
  | .iface _ d => uptoBulk d + 1
  | .map entries => uptoBulkEntries entries + 1
  | .held _ => 1
def uptoBulkAll {H : Type} : List (DataW H) → Nat
  | [] => 0
  | d :: r => uptoBulk d + uptoBulkAll r
def uptoBulkEntries {H : Type} : List (Lit × DataW H) → Nat
  | [] => 0
  | x :: r => uptoBulkEntry x + uptoBulkEntries r
def uptoBulkEntry {H : Type} : Lit × DataW H → Nat
  | (.string bytes, d) => bytes.length + uptoBulk d + 1
  | (_, d) => uptoBulk d + 1
 end
def uptoSmall : (H : Type) → List (DataW H) → Bool := fun _ ds => decide (uptoBulkAll ds ≤ 1048576)
def OpenSpec.upto (s : _root_.Go.ChangeSpec) : _root_.Go.OpenSpec := { _root_.Go.OpenSpec.ofChange s with cond := some uptoSmall }

/-- 'chancerylaw08.ChangeSpares', WHERE WHAT IT READS IS OF BULK AT MOST 1048576: true; the input reads as it did. -/
def changeSparesUptoRow : OpenClaim := { program := "ytobnomlbkhkodaa", sum := "cb6a8095b8d92409190b65bc62bb08f318e7e9d6eb023040cde959bb9ea4d84d", func := "chancery/chancerylaw08.ChangeSpares", spec := "changeSpares", unfollowed := true, recurses := true, apart := false, narrowed := true }
def ChangeSparesUptoSaid : Prop := changeSparesUptoRow.holds Try.pinned (OpenSpec.upto changeSparesSpec)

/-- 'chancerylaw08.ChangeNumbers', WHERE WHAT IT READS IS OF BULK AT MOST 1048576: true; the input reads as it did. -/
def changeNumbersUptoRow : OpenClaim := { program := "ytobnomlbkhkodaa", sum := "cb6a8095b8d92409190b65bc62bb08f318e7e9d6eb023040cde959bb9ea4d84d", func := "chancery/chancerylaw08.ChangeNumbers", spec := "changeNumbers", unfollowed := true, recurses := true, apart := false, narrowed := true }
def ChangeNumbersUptoSaid : Prop := changeNumbersUptoRow.holds Try.pinned (OpenSpec.upto changeNumbersSpec)

/-- 'chancerylaw08.ChangeTells', WHERE WHAT IT READS IS OF BULK AT MOST 1048576: true; the input reads as it did. -/
def changeTellsUptoRow : OpenClaim := { program := "ytobnomlbkhkodaa", sum := "cb6a8095b8d92409190b65bc62bb08f318e7e9d6eb023040cde959bb9ea4d84d", func := "chancery/chancerylaw08.ChangeTells", spec := "changeTells", unfollowed := true, recurses := true, apart := false, narrowed := true }
def ChangeTellsUptoSaid : Prop := changeTellsUptoRow.holds Try.pinned (OpenSpec.upto changeTellsSpec)

/-- 'chancerylaw08.ChangeAlong', WHERE WHAT IT READS IS OF BULK AT MOST 1048576: true; the input reads as it did. -/
def changeAlongUptoRow : OpenClaim := { program := "ytobnomlbkhkodaa", sum := "cb6a8095b8d92409190b65bc62bb08f318e7e9d6eb023040cde959bb9ea4d84d", func := "chancery/chancerylaw08.ChangeAlong", spec := "changeAlong", unfollowed := true, recurses := true, apart := false, narrowed := true }
def ChangeAlongUptoSaid : Prop := changeAlongUptoRow.holds Try.pinned (OpenSpec.upto changeAlongSpec)

/-- 'chancerylaw08.ChangeBack', WHERE WHAT IT READS IS OF BULK AT MOST 1048576: true; the input reads as it did. -/
def changeBackUptoRow : OpenClaim := { program := "ytobnomlbkhkodaa", sum := "cb6a8095b8d92409190b65bc62bb08f318e7e9d6eb023040cde959bb9ea4d84d", func := "chancery/chancerylaw08.ChangeBack", spec := "changeBack", unfollowed := true, recurses := true, apart := false, narrowed := true }
def ChangeBackUptoSaid : Prop := changeBackUptoRow.holds Try.pinned (OpenSpec.upto changeBackSpec)

/-- 'chancerylaw03.DiskSynced', WHERE WHAT IT READS IS OF BULK AT MOST 1048576: true; the input reads as it did. -/
def diskSyncedUptoRow : OpenClaim := { program := "ytobnomlbkhkodaa", sum := "cb6a8095b8d92409190b65bc62bb08f318e7e9d6eb023040cde959bb9ea4d84d", func := "chancery/chancerylaw03.DiskSynced", spec := "diskSynced", inPlace := ["sync/atomic.LoadInt64", "sync/atomic.AddInt64", "sync/atomic.StoreInt64"], unfollowed := true, recurses := true, apart := false, narrowed := true }
def DiskSyncedUptoSaid : Prop := diskSyncedUptoRow.holds Try.pinned (OpenSpec.upto diskSyncedSpec)

/-- 'chancerylaw03.DiskSpares', WHERE WHAT IT READS IS OF BULK AT MOST 1048576: true; the input reads as it did. -/
def diskSparesUptoRow : OpenClaim := { program := "ytobnomlbkhkodaa", sum := "cb6a8095b8d92409190b65bc62bb08f318e7e9d6eb023040cde959bb9ea4d84d", func := "chancery/chancerylaw03.DiskSpares", spec := "diskSpares", inPlace := ["sync/atomic.LoadInt64", "sync/atomic.AddInt64", "sync/atomic.StoreInt64"], unfollowed := true, recurses := true, apart := false, narrowed := true }
def DiskSparesUptoSaid : Prop := diskSparesUptoRow.holds Try.pinned (OpenSpec.upto diskSparesSpec)

/-- 'chancerylaw03.DiskCrashes', WHERE WHAT IT READS IS OF BULK AT MOST 1048576: true; the input reads as it did. -/
def diskCrashesUptoRow : OpenClaim := { program := "ytobnomlbkhkodaa", sum := "cb6a8095b8d92409190b65bc62bb08f318e7e9d6eb023040cde959bb9ea4d84d", func := "chancery/chancerylaw03.DiskCrashes", spec := "diskCrashes", inPlace := ["sync/atomic.LoadInt64", "sync/atomic.AddInt64", "sync/atomic.StoreInt64"], unfollowed := true, recurses := true, apart := false, narrowed := true }
def DiskCrashesUptoSaid : Prop := diskCrashesUptoRow.holds Try.pinned (OpenSpec.upto diskCrashesSpec)

/-- 'chancerylaw03.DiskNumbers', WHERE WHAT IT READS IS OF BULK AT MOST 1048576: true; the input reads as it did. -/
def diskNumbersUptoRow : OpenClaim := { program := "ytobnomlbkhkodaa", sum := "cb6a8095b8d92409190b65bc62bb08f318e7e9d6eb023040cde959bb9ea4d84d", func := "chancery/chancerylaw03.DiskNumbers", spec := "diskNumbers", inPlace := ["sync/atomic.LoadInt64", "sync/atomic.AddInt64", "sync/atomic.StoreInt64"], unfollowed := true, recurses := true, apart := false, narrowed := true }
def DiskNumbersUptoSaid : Prop := diskNumbersUptoRow.holds Try.pinned (OpenSpec.upto diskNumbersSpec)

/-- 'chancerylaw03.DiskPlays', WHERE WHAT IT READS IS OF BULK AT MOST 1048576: true; the input reads as it did. -/
def diskPlaysUptoRow : OpenClaim := { program := "ytobnomlbkhkodaa", sum := "cb6a8095b8d92409190b65bc62bb08f318e7e9d6eb023040cde959bb9ea4d84d", func := "chancery/chancerylaw03.DiskPlays", spec := "diskPlays", inPlace := ["sync/atomic.LoadInt64", "sync/atomic.AddInt64", "sync/atomic.StoreInt64"], unfollowed := true, recurses := true, apart := false, narrowed := true }
def DiskPlaysUptoSaid : Prop := diskPlaysUptoRow.holds Try.pinned (OpenSpec.upto diskPlaysSpec)

/-- 'chancerylaw03.DiskNone', WHERE WHAT IT READS IS OF BULK AT MOST 1048576: true; the input reads as it did. -/
def diskNoneUptoRow : OpenClaim := { program := "ytobnomlbkhkodaa", sum := "cb6a8095b8d92409190b65bc62bb08f318e7e9d6eb023040cde959bb9ea4d84d", func := "chancery/chancerylaw03.DiskNone", spec := "diskNone", inPlace := ["sync/atomic.LoadInt64", "sync/atomic.AddInt64", "sync/atomic.StoreInt64"], unfollowed := true, recurses := true, apart := false, narrowed := true }
def DiskNoneUptoSaid : Prop := diskNoneUptoRow.holds Try.pinned (OpenSpec.upto diskNoneSpec)

end Rows
end Go.Proofs.Ytobnomlbkhkodaa
