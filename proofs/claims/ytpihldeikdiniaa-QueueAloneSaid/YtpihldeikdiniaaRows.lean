/-
  No cell of these rows narrows 'for every input' (looked for: loops, veiled, ifaces, maps, wideKeys, modest, calm, conditions, laid).
  DERIVED. THE GIVEN ROWS OF THIS SEAT. 13 by the template 'for every input the law returns true; each argument reads behind the call as it read before'; 0 by the template 'total and deterministic' (their statements: YtpihldeikdiniaaTotals.lean).
  GIVEN WITH THE SEED: the statements are not yours to turn. If you find one false, say at which input.
  Laid BY PROGRAM, IN A SANDBOX (cutbox-rows.mjs): the forced cells as the released guide's own fill.sh prints them over the translation df256f74cb05a698… (all of the seat's roots in one cut). By AI agents, Wed Nov 11 2026. No macro, syntax, notation, axiom, sorry.
-/
import Derived.Test.YtpihldeikdiniaaChecked
import GoSem.Claim
import GoSem.ClaimJoined
import GoSem.ClaimMapViews
import Derived.JoinedTies
import Derived.KernelRfl
namespace Go.Proofs.Ytpihldeikdiniaa
/- THE CELL 'sum', in the pinned program and in every row, IS THE sha256 OF THE DUMP (.gsa) THAT YtpihldeikdiniaaProg.lean LOADS. Nothing in Lean hashes anything: it is a label: what it is worth is what the hold of that sum in a sandbox is worth. -/
noncomputable def Try.pinned : Pinned := { name := "ytpihldeikdiniaa", sum := "df256f74cb05a698b75fe4c80076ac69ca9fbd7e447cbe5cb6841aac788c6403", checked := Try.checked }
namespace Rows
def none {H : Type} : Left H := { results := [], args := [] }

/-- 'squintlaw06.DynAll': WHATEVER THE INPUT: true; the input reads as it did. -/
def dynAllSpec : ChangeSpec := { name := "dynAll", fn := fun _ => fun
  | [d] => { results := [.lit (.bool true)], args := [d] }
  | _ => none }
def dynAllRow : OpenClaim := { program := "ytpihldeikdiniaa", sum := "df256f74cb05a698b75fe4c80076ac69ca9fbd7e447cbe5cb6841aac788c6403", func := "squint/squintlaw06.DynAll", spec := "dynAll", unfollowed := true, recurses := true, apart := false }
def DynAllSaid : Prop := dynAllRow.holds Try.pinned (OpenSpec.ofChange dynAllSpec)

/-- ITS FALSE NEIGHBOUR: 'it returns false'. Refute it at one input. -/
def dynAllWrong : ChangeSpec := { name := "dynAll", fn := fun _ => fun
  | [d] => { results := [.lit (.bool false)], args := [d] }
  | _ => none }
def DynAllWrongFalsely : Prop := dynAllRow.holds Try.pinned (OpenSpec.ofChange dynAllWrong)

/-- 'squintlaw06.DynFinds': WHATEVER THE INPUT: true; the input reads as it did. -/
def dynFindsSpec : ChangeSpec := { name := "dynFinds", fn := fun _ => fun
  | [d1, d2, d3] => { results := [.lit (.bool true)], args := [d1, d2, d3] }
  | _ => none }
def dynFindsRow : OpenClaim := { program := "ytpihldeikdiniaa", sum := "df256f74cb05a698b75fe4c80076ac69ca9fbd7e447cbe5cb6841aac788c6403", func := "squint/squintlaw06.DynFinds", spec := "dynFinds", unfollowed := true, recurses := true, apart := false }
def DynFindsSaid : Prop := dynFindsRow.holds Try.pinned (OpenSpec.ofChange dynFindsSpec)

/-- ITS FALSE NEIGHBOUR: 'it returns false'. Refute it at one input. -/
def dynFindsWrong : ChangeSpec := { name := "dynFinds", fn := fun _ => fun
  | [d1, d2, d3] => { results := [.lit (.bool false)], args := [d1, d2, d3] }
  | _ => none }
def DynFindsWrongFalsely : Prop := dynFindsRow.holds Try.pinned (OpenSpec.ofChange dynFindsWrong)

/-- 'squintlaw06.DynNewest': WHATEVER THE INPUT: true; the input reads as it did. -/
def dynNewestSpec : ChangeSpec := { name := "dynNewest", fn := fun _ => fun
  | [d1, d2, d3] => { results := [.lit (.bool true)], args := [d1, d2, d3] }
  | _ => none }
def dynNewestRow : OpenClaim := { program := "ytpihldeikdiniaa", sum := "df256f74cb05a698b75fe4c80076ac69ca9fbd7e447cbe5cb6841aac788c6403", func := "squint/squintlaw06.DynNewest", spec := "dynNewest", unfollowed := true, recurses := true, apart := false }
def DynNewestSaid : Prop := dynNewestRow.holds Try.pinned (OpenSpec.ofChange dynNewestSpec)

/-- ITS FALSE NEIGHBOUR: 'it returns false'. Refute it at one input. -/
def dynNewestWrong : ChangeSpec := { name := "dynNewest", fn := fun _ => fun
  | [d1, d2, d3] => { results := [.lit (.bool false)], args := [d1, d2, d3] }
  | _ => none }
def DynNewestWrongFalsely : Prop := dynNewestRow.holds Try.pinned (OpenSpec.ofChange dynNewestWrong)

/-- 'squintlaw18.QueueOwn': WHATEVER THE INPUT: true; the input reads as it did. -/
def queueOwnSpec : ChangeSpec := { name := "queueOwn", fn := fun _ => fun
  | [d] => { results := [.lit (.bool true)], args := [d] }
  | _ => none }
def queueOwnRow : OpenClaim := { program := "ytpihldeikdiniaa", sum := "df256f74cb05a698b75fe4c80076ac69ca9fbd7e447cbe5cb6841aac788c6403", func := "squint/squintlaw18.QueueOwn", spec := "queueOwn", apart := false }
def QueueOwnSaid : Prop := queueOwnRow.holds Try.pinned (OpenSpec.ofChange queueOwnSpec)

/-- ITS FALSE NEIGHBOUR: 'it returns false'. Refute it at one input. -/
def queueOwnWrong : ChangeSpec := { name := "queueOwn", fn := fun _ => fun
  | [d] => { results := [.lit (.bool false)], args := [d] }
  | _ => none }
def QueueOwnWrongFalsely : Prop := queueOwnRow.holds Try.pinned (OpenSpec.ofChange queueOwnWrong)

/-- 'squintlaw18.QueueNew': WHATEVER THE INPUT: true; the input reads as it did. -/
def queueNewSpec : ChangeSpec := { name := "queueNew", fn := fun _ => fun
  | [d1, d2, d3] => { results := [.lit (.bool true)], args := [d1, d2, d3] }
  | _ => none }
def queueNewRow : OpenClaim := { program := "ytpihldeikdiniaa", sum := "df256f74cb05a698b75fe4c80076ac69ca9fbd7e447cbe5cb6841aac788c6403", func := "squint/squintlaw18.QueueNew", spec := "queueNew", apart := false }
def QueueNewSaid : Prop := queueNewRow.holds Try.pinned (OpenSpec.ofChange queueNewSpec)

/-- ITS FALSE NEIGHBOUR: 'it returns false'. Refute it at one input. -/
def queueNewWrong : ChangeSpec := { name := "queueNew", fn := fun _ => fun
  | [d1, d2, d3] => { results := [.lit (.bool false)], args := [d1, d2, d3] }
  | _ => none }
def QueueNewWrongFalsely : Prop := queueNewRow.holds Try.pinned (OpenSpec.ofChange queueNewWrong)

/-- 'squintlaw18.QueuePlays': WHATEVER THE INPUT: true; the input reads as it did. -/
def queuePlaysSpec : ChangeSpec := { name := "queuePlays", fn := fun _ => fun
  | [d] => { results := [.lit (.bool true)], args := [d] }
  | _ => none }
def queuePlaysRow : OpenClaim := { program := "ytpihldeikdiniaa", sum := "df256f74cb05a698b75fe4c80076ac69ca9fbd7e447cbe5cb6841aac788c6403", func := "squint/squintlaw18.QueuePlays", spec := "queuePlays", unfollowed := true, recurses := true, apart := false }
def QueuePlaysSaid : Prop := queuePlaysRow.holds Try.pinned (OpenSpec.ofChange queuePlaysSpec)

/-- ITS FALSE NEIGHBOUR: 'it returns false'. Refute it at one input. -/
def queuePlaysWrong : ChangeSpec := { name := "queuePlays", fn := fun _ => fun
  | [d] => { results := [.lit (.bool false)], args := [d] }
  | _ => none }
def QueuePlaysWrongFalsely : Prop := queuePlaysRow.holds Try.pinned (OpenSpec.ofChange queuePlaysWrong)

/-- 'squintlaw18.QueueAlone': WHATEVER THE INPUT: true; the input reads as it did. -/
def queueAloneSpec : ChangeSpec := { name := "queueAlone", fn := fun _ => fun
  | [d1, d2] => { results := [.lit (.bool true)], args := [d1, d2] }
  | _ => none }
def queueAloneRow : OpenClaim := { program := "ytpihldeikdiniaa", sum := "df256f74cb05a698b75fe4c80076ac69ca9fbd7e447cbe5cb6841aac788c6403", func := "squint/squintlaw18.QueueAlone", spec := "queueAlone", unfollowed := true, recurses := true, apart := false }
def QueueAloneSaid : Prop := queueAloneRow.holds Try.pinned (OpenSpec.ofChange queueAloneSpec)

/-- ITS FALSE NEIGHBOUR: 'it returns false'. Refute it at one input. -/
def queueAloneWrong : ChangeSpec := { name := "queueAlone", fn := fun _ => fun
  | [d1, d2] => { results := [.lit (.bool false)], args := [d1, d2] }
  | _ => none }
def QueueAloneWrongFalsely : Prop := queueAloneRow.holds Try.pinned (OpenSpec.ofChange queueAloneWrong)

/-- 'squintlaw10.PayloadParses': WHATEVER THE INPUT: true; the input reads as it did. -/
def payloadParsesSpec : ChangeSpec := { name := "payloadParses", fn := fun _ => fun
  | [d] => { results := [.lit (.bool true)], args := [d] }
  | _ => none }
def payloadParsesRow : OpenClaim := { program := "ytpihldeikdiniaa", sum := "df256f74cb05a698b75fe4c80076ac69ca9fbd7e447cbe5cb6841aac788c6403", func := "squint/squintlaw10.PayloadParses", spec := "payloadParses", unfollowed := true, recurses := true, apart := false }
def PayloadParsesSaid : Prop := payloadParsesRow.holds Try.pinned (OpenSpec.ofChange payloadParsesSpec)

/-- ITS FALSE NEIGHBOUR: 'it returns false'. Refute it at one input. -/
def payloadParsesWrong : ChangeSpec := { name := "payloadParses", fn := fun _ => fun
  | [d] => { results := [.lit (.bool false)], args := [d] }
  | _ => none }
def PayloadParsesWrongFalsely : Prop := payloadParsesRow.holds Try.pinned (OpenSpec.ofChange payloadParsesWrong)

/-- 'squintlaw10.PayloadPads': WHATEVER THE INPUT: true; the input reads as it did. -/
def payloadPadsSpec : ChangeSpec := { name := "payloadPads", fn := fun _ => fun
  | [d1, d2, d3] => { results := [.lit (.bool true)], args := [d1, d2, d3] }
  | _ => none }
def payloadPadsRow : OpenClaim := { program := "ytpihldeikdiniaa", sum := "df256f74cb05a698b75fe4c80076ac69ca9fbd7e447cbe5cb6841aac788c6403", func := "squint/squintlaw10.PayloadPads", spec := "payloadPads", unfollowed := true, recurses := true, apart := false }
def PayloadPadsSaid : Prop := payloadPadsRow.holds Try.pinned (OpenSpec.ofChange payloadPadsSpec)

/-- ITS FALSE NEIGHBOUR: 'it returns false'. Refute it at one input. -/
def payloadPadsWrong : ChangeSpec := { name := "payloadPads", fn := fun _ => fun
  | [d1, d2, d3] => { results := [.lit (.bool false)], args := [d1, d2, d3] }
  | _ => none }
def PayloadPadsWrongFalsely : Prop := payloadPadsRow.holds Try.pinned (OpenSpec.ofChange payloadPadsWrong)

/-- 'squintlaw10.PayloadSame': WHATEVER THE INPUT: true; the input reads as it did. -/
def payloadSameSpec : ChangeSpec := { name := "payloadSame", fn := fun _ => fun
  | [d1, d2] => { results := [.lit (.bool true)], args := [d1, d2] }
  | _ => none }
def payloadSameRow : OpenClaim := { program := "ytpihldeikdiniaa", sum := "df256f74cb05a698b75fe4c80076ac69ca9fbd7e447cbe5cb6841aac788c6403", func := "squint/squintlaw10.PayloadSame", spec := "payloadSame", unfollowed := true, recurses := true, apart := false }
def PayloadSameSaid : Prop := payloadSameRow.holds Try.pinned (OpenSpec.ofChange payloadSameSpec)

/-- ITS FALSE NEIGHBOUR: 'it returns false'. Refute it at one input. -/
def payloadSameWrong : ChangeSpec := { name := "payloadSame", fn := fun _ => fun
  | [d1, d2] => { results := [.lit (.bool false)], args := [d1, d2] }
  | _ => none }
def PayloadSameWrongFalsely : Prop := payloadSameRow.holds Try.pinned (OpenSpec.ofChange payloadSameWrong)

/-- 'squintlaw12.BlockSplits': WHATEVER THE INPUT: true; the input reads as it did. -/
def blockSplitsSpec : ChangeSpec := { name := "blockSplits", fn := fun _ => fun
  | [d] => { results := [.lit (.bool true)], args := [d] }
  | _ => none }
def blockSplitsRow : OpenClaim := { program := "ytpihldeikdiniaa", sum := "df256f74cb05a698b75fe4c80076ac69ca9fbd7e447cbe5cb6841aac788c6403", func := "squint/squintlaw12.BlockSplits", spec := "blockSplits", unfollowed := true, recurses := true, apart := false }
def BlockSplitsSaid : Prop := blockSplitsRow.holds Try.pinned (OpenSpec.ofChange blockSplitsSpec)

/-- ITS FALSE NEIGHBOUR: 'it returns false'. Refute it at one input. -/
def blockSplitsWrong : ChangeSpec := { name := "blockSplits", fn := fun _ => fun
  | [d] => { results := [.lit (.bool false)], args := [d] }
  | _ => none }
def BlockSplitsWrongFalsely : Prop := blockSplitsRow.holds Try.pinned (OpenSpec.ofChange blockSplitsWrong)

/-- 'squintlaw20.CellPads': WHATEVER THE INPUT: true; the input reads as it did. -/
def cellPadsSpec : ChangeSpec := { name := "cellPads", fn := fun _ => fun
  | [d] => { results := [.lit (.bool true)], args := [d] }
  | _ => none }
def cellPadsRow : OpenClaim := { program := "ytpihldeikdiniaa", sum := "df256f74cb05a698b75fe4c80076ac69ca9fbd7e447cbe5cb6841aac788c6403", func := "squint/squintlaw20.CellPads", spec := "cellPads", unfollowed := true, recurses := true, apart := false }
def CellPadsSaid : Prop := cellPadsRow.holds Try.pinned (OpenSpec.ofChange cellPadsSpec)

/-- ITS FALSE NEIGHBOUR: 'it returns false'. Refute it at one input. -/
def cellPadsWrong : ChangeSpec := { name := "cellPads", fn := fun _ => fun
  | [d] => { results := [.lit (.bool false)], args := [d] }
  | _ => none }
def CellPadsWrongFalsely : Prop := cellPadsRow.holds Try.pinned (OpenSpec.ofChange cellPadsWrong)

/-- 'squintlaw16.SettingsFrames': WHATEVER THE INPUT: true; the input reads as it did. -/
def settingsFramesSpec : ChangeSpec := { name := "settingsFrames", fn := fun _ => fun
  | [d] => { results := [.lit (.bool true)], args := [d] }
  | _ => none }
def settingsFramesRow : OpenClaim := { program := "ytpihldeikdiniaa", sum := "df256f74cb05a698b75fe4c80076ac69ca9fbd7e447cbe5cb6841aac788c6403", func := "squint/squintlaw16.SettingsFrames", spec := "settingsFrames", unfollowed := true, recurses := true, apart := false }
def SettingsFramesSaid : Prop := settingsFramesRow.holds Try.pinned (OpenSpec.ofChange settingsFramesSpec)

/-- ITS FALSE NEIGHBOUR: 'it returns false'. Refute it at one input. -/
def settingsFramesWrong : ChangeSpec := { name := "settingsFrames", fn := fun _ => fun
  | [d] => { results := [.lit (.bool false)], args := [d] }
  | _ => none }
def SettingsFramesWrongFalsely : Prop := settingsFramesRow.holds Try.pinned (OpenSpec.ofChange settingsFramesWrong)

/- THE SECOND FORM. 'bulk': how many values and letters a reading holds, each counted each time it is reached (what is shared counts as often as it is met; a slice's spare places count too). A statement '..UptoSaid' is the law's where the arguments, and the package variables that the reading takes, are together of bulk at most 1048576: NARROWER than '..Said'. Prove '..Said' where nothing that the law and all that it calls make is longer than what came in: it says more and counts as full. Else prove '..UptoSaid'. A law counts once. -/
mutual
def uptoBulk {H : Type} : DataW H → Nat
  | .lit (.string bytes) => bytes.length + 1
  | .lit _ => 1
  | .nil => 1
  | .ptr d => uptoBulk d + 1
  | .slice elems spare => uptoBulkAll elems + uptoBulkAll spare + 1
  | .agg parts => uptoBulkAll parts + 1
  | .iface _ d => uptoBulk d + 1
  | .map entries => uptoBulkEntries entries + 1
  | .held _ => 1
def uptoBulkAll {H : Type} : List (DataW H) → Nat
  | [] => 0
  | d :: r => uptoBulk d + uptoBulkAll r
def uptoBulkEntries {H : Type} : List (Lit × DataW H) → Nat
  | [] => 0
  | x :: r => uptoBulkEntry x + uptoBulkEntries r
def uptoBulkEntry {H : Type} : Lit × DataW H → Nat
  | (.string bytes, d) => bytes.length + uptoBulk d + 1
  | (_, d) => uptoBulk d + 1
 end
def uptoSmall : (H : Type) → List (DataW H) → Bool := fun _ ds => decide (uptoBulkAll ds ≤ 1048576)
def OpenSpec.upto (s : _root_.Go.ChangeSpec) : _root_.Go.OpenSpec := { _root_.Go.OpenSpec.ofChange s with cond := some uptoSmall }

/-- 'squintlaw06.DynAll', WHERE WHAT IT READS IS OF BULK AT MOST 1048576: true; the input reads as it did. -/
def dynAllUptoRow : OpenClaim := { program := "ytpihldeikdiniaa", sum := "df256f74cb05a698b75fe4c80076ac69ca9fbd7e447cbe5cb6841aac788c6403", func := "squint/squintlaw06.DynAll", spec := "dynAll", unfollowed := true, recurses := true, apart := false, narrowed := true }
def DynAllUptoSaid : Prop := dynAllUptoRow.holds Try.pinned (OpenSpec.upto dynAllSpec)

/-- 'squintlaw06.DynFinds', WHERE WHAT IT READS IS OF BULK AT MOST 1048576: true; the input reads as it did. -/
def dynFindsUptoRow : OpenClaim := { program := "ytpihldeikdiniaa", sum := "df256f74cb05a698b75fe4c80076ac69ca9fbd7e447cbe5cb6841aac788c6403", func := "squint/squintlaw06.DynFinds", spec := "dynFinds", unfollowed := true, recurses := true, apart := false, narrowed := true }
def DynFindsUptoSaid : Prop := dynFindsUptoRow.holds Try.pinned (OpenSpec.upto dynFindsSpec)

/-- 'squintlaw06.DynNewest', WHERE WHAT IT READS IS OF BULK AT MOST 1048576: true; the input reads as it did. -/
def dynNewestUptoRow : OpenClaim := { program := "ytpihldeikdiniaa", sum := "df256f74cb05a698b75fe4c80076ac69ca9fbd7e447cbe5cb6841aac788c6403", func := "squint/squintlaw06.DynNewest", spec := "dynNewest", unfollowed := true, recurses := true, apart := false, narrowed := true }
def DynNewestUptoSaid : Prop := dynNewestUptoRow.holds Try.pinned (OpenSpec.upto dynNewestSpec)

/-- 'squintlaw18.QueueOwn', WHERE WHAT IT READS IS OF BULK AT MOST 1048576: true; the input reads as it did. -/
def queueOwnUptoRow : OpenClaim := { program := "ytpihldeikdiniaa", sum := "df256f74cb05a698b75fe4c80076ac69ca9fbd7e447cbe5cb6841aac788c6403", func := "squint/squintlaw18.QueueOwn", spec := "queueOwn", apart := false, narrowed := true }
def QueueOwnUptoSaid : Prop := queueOwnUptoRow.holds Try.pinned (OpenSpec.upto queueOwnSpec)

/-- 'squintlaw18.QueueNew', WHERE WHAT IT READS IS OF BULK AT MOST 1048576: true; the input reads as it did. -/
def queueNewUptoRow : OpenClaim := { program := "ytpihldeikdiniaa", sum := "df256f74cb05a698b75fe4c80076ac69ca9fbd7e447cbe5cb6841aac788c6403", func := "squint/squintlaw18.QueueNew", spec := "queueNew", apart := false, narrowed := true }
def QueueNewUptoSaid : Prop := queueNewUptoRow.holds Try.pinned (OpenSpec.upto queueNewSpec)

/-- 'squintlaw18.QueuePlays', WHERE WHAT IT READS IS OF BULK AT MOST 1048576: true; the input reads as it did. -/
def queuePlaysUptoRow : OpenClaim := { program := "ytpihldeikdiniaa", sum := "df256f74cb05a698b75fe4c80076ac69ca9fbd7e447cbe5cb6841aac788c6403", func := "squint/squintlaw18.QueuePlays", spec := "queuePlays", unfollowed := true, recurses := true, apart := false, narrowed := true }
def QueuePlaysUptoSaid : Prop := queuePlaysUptoRow.holds Try.pinned (OpenSpec.upto queuePlaysSpec)

/-- 'squintlaw18.QueueAlone', WHERE WHAT IT READS IS OF BULK AT MOST 1048576: true; the input reads as it did. -/
def queueAloneUptoRow : OpenClaim := { program := "ytpihldeikdiniaa", sum := "df256f74cb05a698b75fe4c80076ac69ca9fbd7e447cbe5cb6841aac788c6403", func := "squint/squintlaw18.QueueAlone", spec := "queueAlone", unfollowed := true, recurses := true, apart := false, narrowed := true }
def QueueAloneUptoSaid : Prop := queueAloneUptoRow.holds Try.pinned (OpenSpec.upto queueAloneSpec)

/-- 'squintlaw10.PayloadParses', WHERE WHAT IT READS IS OF BULK AT MOST 1048576: true; the input reads as it did. -/
def payloadParsesUptoRow : OpenClaim := { program := "ytpihldeikdiniaa", sum := "df256f74cb05a698b75fe4c80076ac69ca9fbd7e447cbe5cb6841aac788c6403", func := "squint/squintlaw10.PayloadParses", spec := "payloadParses", unfollowed := true, recurses := true, apart := false, narrowed := true }
def PayloadParsesUptoSaid : Prop := payloadParsesUptoRow.holds Try.pinned (OpenSpec.upto payloadParsesSpec)

/-- 'squintlaw10.PayloadPads', WHERE WHAT IT READS IS OF BULK AT MOST 1048576: true; the input reads as it did. -/
def payloadPadsUptoRow : OpenClaim := { program := "ytpihldeikdiniaa", sum := "df256f74cb05a698b75fe4c80076ac69ca9fbd7e447cbe5cb6841aac788c6403", func := "squint/squintlaw10.PayloadPads", spec := "payloadPads", unfollowed := true, recurses := true, apart := false, narrowed := true }
def PayloadPadsUptoSaid : Prop := payloadPadsUptoRow.holds Try.pinned (OpenSpec.upto payloadPadsSpec)

/-- 'squintlaw10.PayloadSame', WHERE WHAT IT READS IS OF BULK AT MOST 1048576: true; the input reads as it did. -/
def payloadSameUptoRow : OpenClaim := { program := "ytpihldeikdiniaa", sum := "df256f74cb05a698b75fe4c80076ac69ca9fbd7e447cbe5cb6841aac788c6403", func := "squint/squintlaw10.PayloadSame", spec := "payloadSame", unfollowed := true, recurses := true, apart := false, narrowed := true }
def PayloadSameUptoSaid : Prop := payloadSameUptoRow.holds Try.pinned (OpenSpec.upto payloadSameSpec)

/-- 'squintlaw12.BlockSplits', WHERE WHAT IT READS IS OF BULK AT MOST 1048576: true; the input reads as it did. -/
def blockSplitsUptoRow : OpenClaim := { program := "ytpihldeikdiniaa", sum := "df256f74cb05a698b75fe4c80076ac69ca9fbd7e447cbe5cb6841aac788c6403", func := "squint/squintlaw12.BlockSplits", spec := "blockSplits", unfollowed := true, recurses := true, apart := false, narrowed := true }
def BlockSplitsUptoSaid : Prop := blockSplitsUptoRow.holds Try.pinned (OpenSpec.upto blockSplitsSpec)

/-- 'squintlaw20.CellPads', WHERE WHAT IT READS IS OF BULK AT MOST 1048576: true; the input reads as it did. -/
def cellPadsUptoRow : OpenClaim := { program := "ytpihldeikdiniaa", sum := "df256f74cb05a698b75fe4c80076ac69ca9fbd7e447cbe5cb6841aac788c6403", func := "squint/squintlaw20.CellPads", spec := "cellPads", unfollowed := true, recurses := true, apart := false, narrowed := true }
def CellPadsUptoSaid : Prop := cellPadsUptoRow.holds Try.pinned (OpenSpec.upto cellPadsSpec)

/-- 'squintlaw16.SettingsFrames', WHERE WHAT IT READS IS OF BULK AT MOST 1048576: true; the input reads as it did. -/
def settingsFramesUptoRow : OpenClaim := { program := "ytpihldeikdiniaa", sum := "df256f74cb05a698b75fe4c80076ac69ca9fbd7e447cbe5cb6841aac788c6403", func := "squint/squintlaw16.SettingsFrames", spec := "settingsFrames", unfollowed := true, recurses := true, apart := false, narrowed := true }
def SettingsFramesUptoSaid : Prop := settingsFramesUptoRow.holds Try.pinned (OpenSpec.upto settingsFramesSpec)

end Rows
end Go.Proofs.Ytpihldeikdiniaa
