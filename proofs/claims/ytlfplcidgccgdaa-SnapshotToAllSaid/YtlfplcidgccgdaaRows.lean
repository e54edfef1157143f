/-
  No cell of these rows narrows 'for every input' (looked for: loops, veiled, ifaces, maps, wideKeys, modest, calm, conditions, laid).
  DERIVED. THE GIVEN ROWS OF THIS SEAT. 12 by the template 'for every input the law returns true; each argument reads behind the call as it read before'; 0 by the template 'total and deterministic' (their statements: YtlfplcidgccgdaaTotals.lean).
  GIVEN WITH THE SEED: the statements are not yours to turn. If you find one false, say at which input.
  Laid BY PROGRAM, IN A SANDBOX (cutbox-rows.mjs): the forced cells as the released guide's own fill.sh prints them over the translation cdb01e684163c000… (all of the seat's roots in one cut). By AI agents, Wed Nov 11 2026. No macro, syntax, notation, axiom, sorry.
-/
import Derived.Test.YtlfplcidgccgdaaChecked
import GoSem.Claim
import GoSem.ClaimJoined
import GoSem.ClaimMapViews
import Derived.JoinedTies
import Derived.KernelRfl
namespace Go.Proofs.Ytlfplcidgccgdaa
/- THE CELL 'sum', in the pinned program and in every row, IS THE sha256 OF THE DUMP (.gsa) THAT YtlfplcidgccgdaaProg.lean LOADS. Nothing in Lean hashes anything: it is a label: what it is worth is what the hold of that sum in a sandbox is worth. -/
noncomputable def Try.pinned : Pinned := { name := "ytlfplcidgccgdaa", sum := "cdb01e684163c000d0ca7b1dc6788ccf6820406044eb89fd659eccdbaa0324e2", checked := Try.checked }
namespace Rows
def none {H : Type} : Left H := { results := [], args := [] }

/-- 'chancerylaw14.SnapshotStays': WHATEVER THE INPUT: true; the input reads as it did. -/
def snapshotStaysSpec : ChangeSpec := { name := "snapshotStays", fn := fun _ => fun
  | [d1, d2] => { results := [.lit (.bool true)], args := [d1, d2] }
  | _ => none }
def snapshotStaysRow : OpenClaim := { program := "ytlfplcidgccgdaa", sum := "cdb01e684163c000d0ca7b1dc6788ccf6820406044eb89fd659eccdbaa0324e2", func := "chancery/chancerylaw14.SnapshotStays", spec := "snapshotStays", inPlace := ["sync/atomic.StoreInt64", "sync/atomic.LoadInt64", "sync/atomic.AddInt64"], apart := false }
def SnapshotStaysSaid : Prop := snapshotStaysRow.holds Try.pinned (OpenSpec.ofChange snapshotStaysSpec)

/-- ITS FALSE NEIGHBOUR: 'it returns false'. Refute it at one input. -/
def snapshotStaysWrong : ChangeSpec := { name := "snapshotStays", fn := fun _ => fun
  | [d1, d2] => { results := [.lit (.bool false)], args := [d1, d2] }
  | _ => none }
def SnapshotStaysWrongFalsely : Prop := snapshotStaysRow.holds Try.pinned (OpenSpec.ofChange snapshotStaysWrong)

/-- 'chancerylaw05.RecordReads': WHATEVER THE INPUT: true; the input reads as it did. -/
def recordReadsSpec : ChangeSpec := { name := "recordReads", fn := fun _ => fun
  | [d] => { results := [.lit (.bool true)], args := [d] }
  | _ => none }
def recordReadsRow : OpenClaim := { program := "ytlfplcidgccgdaa", sum := "cdb01e684163c000d0ca7b1dc6788ccf6820406044eb89fd659eccdbaa0324e2", func := "chancery/chancerylaw05.RecordReads", spec := "recordReads", unfollowed := true, recurses := true, apart := false }
def RecordReadsSaid : Prop := recordReadsRow.holds Try.pinned (OpenSpec.ofChange recordReadsSpec)

/-- ITS FALSE NEIGHBOUR: 'it returns false'. Refute it at one input. -/
def recordReadsWrong : ChangeSpec := { name := "recordReads", fn := fun _ => fun
  | [d] => { results := [.lit (.bool false)], args := [d] }
  | _ => none }
def RecordReadsWrongFalsely : Prop := recordReadsRow.holds Try.pinned (OpenSpec.ofChange recordReadsWrong)

/-- 'chancerylaw05.RecordAll': WHATEVER THE INPUT: true; the input reads as it did. -/
def recordAllSpec : ChangeSpec := { name := "recordAll", fn := fun _ => fun
  | [d1, d2] => { results := [.lit (.bool true)], args := [d1, d2] }
  | _ => none }
def recordAllRow : OpenClaim := { program := "ytlfplcidgccgdaa", sum := "cdb01e684163c000d0ca7b1dc6788ccf6820406044eb89fd659eccdbaa0324e2", func := "chancery/chancerylaw05.RecordAll", spec := "recordAll", unfollowed := true, recurses := true, apart := false }
def RecordAllSaid : Prop := recordAllRow.holds Try.pinned (OpenSpec.ofChange recordAllSpec)

/-- ITS FALSE NEIGHBOUR: 'it returns false'. Refute it at one input. -/
def recordAllWrong : ChangeSpec := { name := "recordAll", fn := fun _ => fun
  | [d1, d2] => { results := [.lit (.bool false)], args := [d1, d2] }
  | _ => none }
def RecordAllWrongFalsely : Prop := recordAllRow.holds Try.pinned (OpenSpec.ofChange recordAllWrong)

/-- 'chancerylaw05.RecordTells': WHATEVER THE INPUT: true; the input reads as it did. -/
def recordTellsSpec : ChangeSpec := { name := "recordTells", fn := fun _ => fun
  | [d1, d2] => { results := [.lit (.bool true)], args := [d1, d2] }
  | _ => none }
def recordTellsRow : OpenClaim := { program := "ytlfplcidgccgdaa", sum := "cdb01e684163c000d0ca7b1dc6788ccf6820406044eb89fd659eccdbaa0324e2", func := "chancery/chancerylaw05.RecordTells", spec := "recordTells", unfollowed := true, recurses := true, apart := false }
def RecordTellsSaid : Prop := recordTellsRow.holds Try.pinned (OpenSpec.ofChange recordTellsSpec)

/-- ITS FALSE NEIGHBOUR: 'it returns false'. Refute it at one input. -/
def recordTellsWrong : ChangeSpec := { name := "recordTells", fn := fun _ => fun
  | [d1, d2] => { results := [.lit (.bool false)], args := [d1, d2] }
  | _ => none }
def RecordTellsWrongFalsely : Prop := recordTellsRow.holds Try.pinned (OpenSpec.ofChange recordTellsWrong)

/-- 'chancerylaw05.RecordBack': WHATEVER THE INPUT: true; the input reads as it did. -/
def recordBackSpec : ChangeSpec := { name := "recordBack", fn := fun _ => fun
  | [d1, d2] => { results := [.lit (.bool true)], args := [d1, d2] }
  | _ => none }
def recordBackRow : OpenClaim := { program := "ytlfplcidgccgdaa", sum := "cdb01e684163c000d0ca7b1dc6788ccf6820406044eb89fd659eccdbaa0324e2", func := "chancery/chancerylaw05.RecordBack", spec := "recordBack", unfollowed := true, recurses := true, apart := false }
def RecordBackSaid : Prop := recordBackRow.holds Try.pinned (OpenSpec.ofChange recordBackSpec)

/-- ITS FALSE NEIGHBOUR: 'it returns false'. Refute it at one input. -/
def recordBackWrong : ChangeSpec := { name := "recordBack", fn := fun _ => fun
  | [d1, d2] => { results := [.lit (.bool false)], args := [d1, d2] }
  | _ => none }
def RecordBackWrongFalsely : Prop := recordBackRow.holds Try.pinned (OpenSpec.ofChange recordBackWrong)

/-- 'chancerylaw07.PageBack': WHATEVER THE INPUT: true; the input reads as it did. -/
def pageBackSpec : ChangeSpec := { name := "pageBack", fn := fun _ => fun
  | [d] => { results := [.lit (.bool true)], args := [d] }
  | _ => none }
def pageBackRow : OpenClaim := { program := "ytlfplcidgccgdaa", sum := "cdb01e684163c000d0ca7b1dc6788ccf6820406044eb89fd659eccdbaa0324e2", func := "chancery/chancerylaw07.PageBack", spec := "pageBack", inPlace := ["internal/bytealg.Compare"], unfollowed := true, recurses := true, apart := false }
def PageBackSaid : Prop := pageBackRow.holds Try.pinned (OpenSpec.ofChange pageBackSpec)

/-- ITS FALSE NEIGHBOUR: 'it returns false'. Refute it at one input. -/
def pageBackWrong : ChangeSpec := { name := "pageBack", fn := fun _ => fun
  | [d] => { results := [.lit (.bool false)], args := [d] }
  | _ => none }
def PageBackWrongFalsely : Prop := pageBackRow.holds Try.pinned (OpenSpec.ofChange pageBackWrong)

/-- 'chancerylaw05.RecordNumbers': WHATEVER THE INPUT: true; the input reads as it did. -/
def recordNumbersSpec : ChangeSpec := { name := "recordNumbers", fn := fun _ => fun
  | [] => { results := [.lit (.bool true)], args := [] }
  | _ => none }
def recordNumbersRow : OpenClaim := { program := "ytlfplcidgccgdaa", sum := "cdb01e684163c000d0ca7b1dc6788ccf6820406044eb89fd659eccdbaa0324e2", func := "chancery/chancerylaw05.RecordNumbers", spec := "recordNumbers", unfollowed := true, recurses := true, apart := false }
def RecordNumbersSaid : Prop := recordNumbersRow.holds Try.pinned (OpenSpec.ofChange recordNumbersSpec)

/-- ITS FALSE NEIGHBOUR: 'it returns false'. Refute it at one input. -/
def recordNumbersWrong : ChangeSpec := { name := "recordNumbers", fn := fun _ => fun
  | [] => { results := [.lit (.bool false)], args := [] }
  | _ => none }
def RecordNumbersWrongFalsely : Prop := recordNumbersRow.holds Try.pinned (OpenSpec.ofChange recordNumbersWrong)

/-- 'chancerylaw07.PageMap': WHATEVER THE INPUT: true; the input reads as it did. -/
def pageMapSpec : ChangeSpec := { name := "pageMap", fn := fun _ => fun
  | [d1, d2] => { results := [.lit (.bool true)], args := [d1, d2] }
  | _ => none }
def pageMapRow : OpenClaim := { program := "ytlfplcidgccgdaa", sum := "cdb01e684163c000d0ca7b1dc6788ccf6820406044eb89fd659eccdbaa0324e2", func := "chancery/chancerylaw07.PageMap", spec := "pageMap", inPlace := ["internal/bytealg.Compare", "slices.overlaps[chancery/api.Cell]"], unfollowed := true, recurses := true, apart := false }
def PageMapSaid : Prop := pageMapRow.holds Try.pinned (OpenSpec.ofChange pageMapSpec)

/-- ITS FALSE NEIGHBOUR: 'it returns false'. Refute it at one input. -/
def pageMapWrong : ChangeSpec := { name := "pageMap", fn := fun _ => fun
  | [d1, d2] => { results := [.lit (.bool false)], args := [d1, d2] }
  | _ => none }
def PageMapWrongFalsely : Prop := pageMapRow.holds Try.pinned (OpenSpec.ofChange pageMapWrong)

/-- 'chancerylaw07.PageNumbers': WHATEVER THE INPUT: true; the input reads as it did. -/
def pageNumbersSpec : ChangeSpec := { name := "pageNumbers", fn := fun _ => fun
  | [] => { results := [.lit (.bool true)], args := [] }
  | _ => none }
def pageNumbersRow : OpenClaim := { program := "ytlfplcidgccgdaa", sum := "cdb01e684163c000d0ca7b1dc6788ccf6820406044eb89fd659eccdbaa0324e2", func := "chancery/chancerylaw07.PageNumbers", spec := "pageNumbers", inPlace := ["internal/bytealg.Compare", "slices.overlaps[chancery/api.Cell]"], unfollowed := true, recurses := true, apart := false }
def PageNumbersSaid : Prop := pageNumbersRow.holds Try.pinned (OpenSpec.ofChange pageNumbersSpec)

/-- ITS FALSE NEIGHBOUR: 'it returns false'. Refute it at one input. -/
def pageNumbersWrong : ChangeSpec := { name := "pageNumbers", fn := fun _ => fun
  | [] => { results := [.lit (.bool false)], args := [] }
  | _ => none }
def PageNumbersWrongFalsely : Prop := pageNumbersRow.holds Try.pinned (OpenSpec.ofChange pageNumbersWrong)

/-- 'chancerylaw14.SnapshotFirst': WHATEVER THE INPUT: true; the input reads as it did. -/
def snapshotFirstSpec : ChangeSpec := { name := "snapshotFirst", fn := fun _ => fun
  | [d1, d2, d3] => { results := [.lit (.bool true)], args := [d1, d2, d3] }
  | _ => none }
def snapshotFirstRow : OpenClaim := { program := "ytlfplcidgccgdaa", sum := "cdb01e684163c000d0ca7b1dc6788ccf6820406044eb89fd659eccdbaa0324e2", func := "chancery/chancerylaw14.SnapshotFirst", spec := "snapshotFirst", inPlace := ["sync/atomic.StoreInt64", "sync/atomic.LoadInt64", "sync/atomic.AddInt64"], unfollowed := true, recurses := true, apart := false }
def SnapshotFirstSaid : Prop := snapshotFirstRow.holds Try.pinned (OpenSpec.ofChange snapshotFirstSpec)

/-- ITS FALSE NEIGHBOUR: 'it returns false'. Refute it at one input. -/
def snapshotFirstWrong : ChangeSpec := { name := "snapshotFirst", fn := fun _ => fun
  | [d1, d2, d3] => { results := [.lit (.bool false)], args := [d1, d2, d3] }
  | _ => none }
def SnapshotFirstWrongFalsely : Prop := snapshotFirstRow.holds Try.pinned (OpenSpec.ofChange snapshotFirstWrong)

/-- 'chancerylaw14.SnapshotToAll': WHATEVER THE INPUT: true; the input reads as it did. -/
def snapshotToAllSpec : ChangeSpec := { name := "snapshotToAll", fn := fun _ => fun
  | [d1, d2] => { results := [.lit (.bool true)], args := [d1, d2] }
  | _ => none }
def snapshotToAllRow : OpenClaim := { program := "ytlfplcidgccgdaa", sum := "cdb01e684163c000d0ca7b1dc6788ccf6820406044eb89fd659eccdbaa0324e2", func := "chancery/chancerylaw14.SnapshotToAll", spec := "snapshotToAll", inPlace := ["sync/atomic.StoreInt64", "sync/atomic.LoadInt64", "sync/atomic.AddInt64"], unfollowed := true, recurses := true, apart := false }
def SnapshotToAllSaid : Prop := snapshotToAllRow.holds Try.pinned (OpenSpec.ofChange snapshotToAllSpec)

/-- ITS FALSE NEIGHBOUR: 'it returns false'. Refute it at one input. -/
def snapshotToAllWrong : ChangeSpec := { name := "snapshotToAll", fn := fun _ => fun
  | [d1, d2] => { results := [.lit (.bool false)], args := [d1, d2] }
  | _ => none }
def SnapshotToAllWrongFalsely : Prop := snapshotToAllRow.holds Try.pinned (OpenSpec.ofChange snapshotToAllWrong)

/-- 'chancerylaw14.SnapshotNone': WHATEVER THE INPUT: true; the input reads as it did. -/
def snapshotNoneSpec : ChangeSpec := { name := "snapshotNone", fn := fun _ => fun
  | [d1, d2] => { results := [.lit (.bool true)], args := [d1, d2] }
  | _ => none }
def snapshotNoneRow : OpenClaim := { program := "ytlfplcidgccgdaa", sum := "cdb01e684163c000d0ca7b1dc6788ccf6820406044eb89fd659eccdbaa0324e2", func := "chancery/chancerylaw14.SnapshotNone", spec := "snapshotNone", inPlace := ["sync/atomic.LoadInt64", "sync/atomic.AddInt64", "sync/atomic.StoreInt64"], unfollowed := true, recurses := true, apart := false }
def SnapshotNoneSaid : Prop := snapshotNoneRow.holds Try.pinned (OpenSpec.ofChange snapshotNoneSpec)

/-- ITS FALSE NEIGHBOUR: 'it returns false'. Refute it at one input. -/
def snapshotNoneWrong : ChangeSpec := { name := "snapshotNone", fn := fun _ => fun
  | [d1, d2] => { results := [.lit (.bool false)], args := [d1, d2] }
  | _ => none }
def SnapshotNoneWrongFalsely : Prop := snapshotNoneRow.holds Try.pinned (OpenSpec.ofChange snapshotNoneWrong)

/- THE SECOND FORM. 'bulk': how many values and letters a reading holds, each counted each time it is reached (what is shared counts as often as it is met; a slice's spare places count too). A statement '..UptoSaid' is the law's where the arguments, and the package variables that the reading takes, are together of bulk at most 1048576: NARROWER than '..Said'. Prove '..Said' where nothing that the law and all that it calls make is longer than what came in: it says more and counts as full. Else prove '..UptoSaid'. A law counts once. -/
mutual
def uptoBulk {H : Type} : DataW H → Nat
  | .lit (.string bytes) => bytes.length + 1
  | .lit _ => 1
  | .nil => 1
  | .ptr d => uptoBulk d + 1
  | .slice elems spare => uptoBulkAll elems + uptoBulkAll spare + 1
  | .agg parts => uptoBulkAll parts + 1
  | .iface _ d => uptoBulk d + 1
  | .map entries => uptoBulkEntries entries + 1
  | .held _ => 1
def uptoBulkAll {H : Type} : List (DataW H) → Nat
  | [] => 0
  | d :: r => uptoBulk d + uptoBulkAll r
def uptoBulkEntries {H : Type} : List (Lit × DataW H) → Nat
  | [] => 0
  | x :: r => uptoBulkEntry x + uptoBulkEntries r
def uptoBulkEntry {H : Type} : Lit × DataW H → Nat
  | (.string bytes, d) => bytes.length + uptoBulk d + 1
  | (_, d) => uptoBulk d + 1
 end
def uptoSmall : (H : Type) → List (DataW H) → Bool := fun _ ds => decide (uptoBulkAll ds ≤ 1048576)
def OpenSpec.upto (s : _root_.Go.ChangeSpec) : _root_.Go.OpenSpec := { _root_.Go.OpenSpec.ofChange s with cond := some uptoSmall }

/-- 'chancerylaw14.SnapshotStays', WHERE WHAT IT READS IS OF BULK AT MOST 1048576: true; the input reads as it did. -/
def snapshotStaysUptoRow : OpenClaim := { program := "ytlfplcidgccgdaa", sum := "cdb01e684163c000d0ca7b1dc6788ccf6820406044eb89fd659eccdbaa0324e2", func := "chancery/chancerylaw14.SnapshotStays", spec := "snapshotStays", inPlace := ["sync/atomic.StoreInt64", "sync/atomic.LoadInt64", "sync/atomic.AddInt64"], apart := false, narrowed := true }
def SnapshotStaysUptoSaid : Prop := snapshotStaysUptoRow.holds Try.pinned (OpenSpec.upto snapshotStaysSpec)

/-- 'chancerylaw05.RecordReads', WHERE WHAT IT READS IS OF BULK AT MOST 1048576: true; the input reads as it did. -/
def recordReadsUptoRow : OpenClaim := { program := "ytlfplcidgccgdaa", sum := "cdb01e684163c000d0ca7b1dc6788ccf6820406044eb89fd659eccdbaa0324e2", func := "chancery/chancerylaw05.RecordReads", spec := "recordReads", unfollowed := true, recurses := true, apart := false, narrowed := true }
def RecordReadsUptoSaid : Prop := recordReadsUptoRow.holds Try.pinned (OpenSpec.upto recordReadsSpec)

/-- 'chancerylaw05.RecordAll', WHERE WHAT IT READS IS OF BULK AT MOST 1048576: true; the input reads as it did. -/
def recordAllUptoRow : OpenClaim := { program := "ytlfplcidgccgdaa", sum := "cdb01e684163c000d0ca7b1dc6788ccf6820406044eb89fd659eccdbaa0324e2", func := "chancery/chancerylaw05.RecordAll", spec := "recordAll", unfollowed := true, recurses := true, apart := false, narrowed := true }
def RecordAllUptoSaid : Prop := recordAllUptoRow.holds Try.pinned (OpenSpec.upto recordAllSpec)

/-- 'chancerylaw05.RecordTells', WHERE WHAT IT READS IS OF BULK AT MOST 1048576: true; the input reads as it did. -/
def recordTellsUptoRow : OpenClaim := { program := "ytlfplcidgccgdaa", sum := "cdb01e684163c000d0ca7b1dc6788ccf6820406044eb89fd659eccdbaa0324e2", func := "chancery/chancerylaw05.RecordTells", spec := "recordTells", unfollowed := true, recurses := true, apart := false, narrowed := true }
def RecordTellsUptoSaid : Prop := recordTellsUptoRow.holds Try.pinned (OpenSpec.upto recordTellsSpec)

/-- 'chancerylaw05.RecordBack', WHERE WHAT IT READS IS OF BULK AT MOST 1048576: true; the input reads as it did. -/
def recordBackUptoRow : OpenClaim := { program := "ytlfplcidgccgdaa", sum := "cdb01e684163c000d0ca7b1dc6788ccf6820406044eb89fd659eccdbaa0324e2", func := "chancery/chancerylaw05.RecordBack", spec := "recordBack", unfollowed := true, recurses := true, apart := false, narrowed := true }
def RecordBackUptoSaid : Prop := recordBackUptoRow.holds Try.pinned (OpenSpec.upto recordBackSpec)

/-- 'chancerylaw07.PageBack', WHERE WHAT IT READS IS OF BULK AT MOST 1048576: true; the input reads as it did. -/
def pageBackUptoRow : OpenClaim := { program := "ytlfplcidgccgdaa", sum := "cdb01e684163c000d0ca7b1dc6788ccf6820406044eb89fd659eccdbaa0324e2", func := "chancery/chancerylaw07.PageBack", spec := "pageBack", inPlace := ["internal/bytealg.Compare"], unfollowed := true, recurses := true, apart := false, narrowed := true }
def PageBackUptoSaid : Prop := pageBackUptoRow.holds Try.pinned (OpenSpec.upto pageBackSpec)

/-- 'chancerylaw05.RecordNumbers', WHERE WHAT IT READS IS OF BULK AT MOST 1048576: true; the input reads as it did. -/
def recordNumbersUptoRow : OpenClaim := { program := "ytlfplcidgccgdaa", sum := "cdb01e684163c000d0ca7b1dc6788ccf6820406044eb89fd659eccdbaa0324e2", func := "chancery/chancerylaw05.RecordNumbers", spec := "recordNumbers", unfollowed := true, recurses := true, apart := false, narrowed := true }
def RecordNumbersUptoSaid : Prop := recordNumbersUptoRow.holds Try.pinned (OpenSpec.upto recordNumbersSpec)

/-- 'chancerylaw07.PageMap', WHERE WHAT IT READS IS OF BULK AT MOST 1048576: true; the input reads as it did. -/
def pageMapUptoRow : OpenClaim := { program := "ytlfplcidgccgdaa", sum := "cdb01e684163c000d0ca7b1dc6788ccf6820406044eb89fd659eccdbaa0324e2", func := "chancery/chancerylaw07.PageMap", spec := "pageMap", inPlace := ["internal/bytealg.Compare", "slices.overlaps[chancery/api.Cell]"], unfollowed := true, recurses := true, apart := false, narrowed := true }
def PageMapUptoSaid : Prop := pageMapUptoRow.holds Try.pinned (OpenSpec.upto pageMapSpec)

/-- 'chancerylaw07.PageNumbers', WHERE WHAT IT READS IS OF BULK AT MOST 1048576: true; the input reads as it did. -/
def pageNumbersUptoRow : OpenClaim := { program := "ytlfplcidgccgdaa", sum := "cdb01e684163c000d0ca7b1dc6788ccf6820406044eb89fd659eccdbaa0324e2", func := "chancery/chancerylaw07.PageNumbers", spec := "pageNumbers", inPlace := ["internal/bytealg.Compare", "slices.overlaps[chancery/api.Cell]"], unfollowed := true, recurses := true, apart := false, narrowed := true }
def PageNumbersUptoSaid : Prop := pageNumbersUptoRow.holds Try.pinned (OpenSpec.upto pageNumbersSpec)

/-- 'chancerylaw14.SnapshotFirst', WHERE WHAT IT READS IS OF BULK AT MOST 1048576: true; the input reads as it did. -/
def snapshotFirstUptoRow : OpenClaim := { program := "ytlfplcidgccgdaa", sum := "cdb01e684163c000d0ca7b1dc6788ccf6820406044eb89fd659eccdbaa0324e2", func := "chancery/chancerylaw14.SnapshotFirst", spec := "snapshotFirst", inPlace := ["sync/atomic.StoreInt64", "sync/atomic.LoadInt64", "sync/atomic.AddInt64"], unfollowed := true, recurses := true, apart := false, narrowed := true }
def SnapshotFirstUptoSaid : Prop := snapshotFirstUptoRow.holds Try.pinned (OpenSpec.upto snapshotFirstSpec)

/-- 'chancerylaw14.SnapshotToAll', WHERE WHAT IT READS IS OF BULK AT MOST 1048576: true; the input reads as it did. -/
def snapshotToAllUptoRow : OpenClaim := { program := "ytlfplcidgccgdaa", sum := "cdb01e684163c000d0ca7b1dc6788ccf6820406044eb89fd659eccdbaa0324e2", func := "chancery/chancerylaw14.SnapshotToAll", spec := "snapshotToAll", inPlace := ["sync/atomic.StoreInt64", "sync/atomic.LoadInt64", "sync/atomic.AddInt64"], unfollowed := true, recurses := true, apart := false, narrowed := true }
def SnapshotToAllUptoSaid : Prop := snapshotToAllUptoRow.holds Try.pinned (OpenSpec.upto snapshotToAllSpec)

/-- 'chancerylaw14.SnapshotNone', WHERE WHAT IT READS IS OF BULK AT MOST 1048576: true; the input reads as it did. -/
def snapshotNoneUptoRow : OpenClaim := { program := "ytlfplcidgccgdaa", sum := "cdb01e684163c000d0ca7b1dc6788ccf6820406044eb89fd659eccdbaa0324e2", func := "chancery/chancerylaw14.SnapshotNone", spec := "snapshotNone", inPlace := ["sync/atomic.LoadInt64", "sync/atomic.AddInt64", "sync/atomic.StoreInt64"], unfollowed := true, recurses := true, apart := false, narrowed := true }
def SnapshotNoneUptoSaid : Prop := snapshotNoneUptoRow.holds Try.pinned (OpenSpec.upto snapshotNoneSpec)

end Rows
end Go.Proofs.Ytlfplcidgccgdaa
