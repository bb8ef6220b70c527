/-
  No cell of these rows narrows 'for every input' (looked for: loops, veiled, ifaces, maps, wideKeys, modest, calm, conditions, laid).
  DERIVED. THE GIVEN ROWS OF THIS SEAT. 16 by the template 'for every input the law returns true; each argument reads behind the call as it read before'; 0 by the template 'total and deterministic' (their statements: YtkdcgmloapmpkaaTotals.lean).
  GIVEN WITH THE SEED: the statements are not yours to turn. If you find one false, say at which input.
  Laid BY PROGRAM, IN A SANDBOX (cutbox-rows.mjs): the forced cells as the released guide's own fill.sh prints them over the translation f5d05178ee0a8a42… (all of the seat's roots in one cut). By AI agents, Wed Nov 11 2026. No macro, syntax, notation, axiom, sorry.
-/
import Derived.Test.YtkdcgmloapmpkaaChecked
import GoSem.Claim
import GoSem.ClaimJoined
import GoSem.ClaimMapViews
import Derived.JoinedTies
import Derived.KernelRfl
namespace Go.Proofs.Ytkdcgmloapmpkaa
/- THE CELL 'sum', in the pinned program and in every row, IS THE sha256 OF THE DUMP (.gsa) THAT YtkdcgmloapmpkaaProg.lean LOADS. Nothing in Lean hashes anything: it is a label: what it is worth is what the hold of that sum in a sandbox is worth. -/
noncomputable def Try.pinned : Pinned := { name := "ytkdcgmloapmpkaa", sum := "f5d05178ee0a8a4210ea2685bc1adf6a6dd7c771d4ed802c161c480bf01dde31", checked := Try.checked }
namespace Rows
def none {H : Type} : Left H := { results := [], args := [] }

/-- 'waystationlaw09.VisibleViews': WHATEVER THE INPUT: true; the input reads as it did. -/
def visibleViewsSpec : ChangeSpec := { name := "visibleViews", fn := fun _ => fun
  | [d1, d2] => { results := [.lit (.bool true)], args := [d1, d2] }
  | _ => none }
def visibleViewsRow : OpenClaim := { program := "ytkdcgmloapmpkaa", sum := "f5d05178ee0a8a4210ea2685bc1adf6a6dd7c771d4ed802c161c480bf01dde31", func := "waystation/waystationlaw09.VisibleViews", spec := "visibleViews", unfollowed := true, recurses := true, plainKeys := false, apart := false }
def VisibleViewsSaid : Prop := visibleViewsRow.holds Try.pinned (OpenSpec.ofChange visibleViewsSpec)

/-- ITS FALSE NEIGHBOUR: 'it returns false'. Refute it at one input. -/
def visibleViewsWrong : ChangeSpec := { name := "visibleViews", fn := fun _ => fun
  | [d1, d2] => { results := [.lit (.bool false)], args := [d1, d2] }
  | _ => none }
def VisibleViewsWrongFalsely : Prop := visibleViewsRow.holds Try.pinned (OpenSpec.ofChange visibleViewsWrong)

/-- 'waystationlaw09.VisibleGoods': WHATEVER THE INPUT: true; the input reads as it did. -/
def visibleGoodsSpec : ChangeSpec := { name := "visibleGoods", fn := fun _ => fun
  | [d] => { results := [.lit (.bool true)], args := [d] }
  | _ => none }
def visibleGoodsRow : OpenClaim := { program := "ytkdcgmloapmpkaa", sum := "f5d05178ee0a8a4210ea2685bc1adf6a6dd7c771d4ed802c161c480bf01dde31", func := "waystation/waystationlaw09.VisibleGoods", spec := "visibleGoods", unfollowed := true, recurses := true, plainKeys := false, apart := false }
def VisibleGoodsSaid : Prop := visibleGoodsRow.holds Try.pinned (OpenSpec.ofChange visibleGoodsSpec)

/-- ITS FALSE NEIGHBOUR: 'it returns false'. Refute it at one input. -/
def visibleGoodsWrong : ChangeSpec := { name := "visibleGoods", fn := fun _ => fun
  | [d] => { results := [.lit (.bool false)], args := [d] }
  | _ => none }
def VisibleGoodsWrongFalsely : Prop := visibleGoodsRow.holds Try.pinned (OpenSpec.ofChange visibleGoodsWrong)

/-- 'waystationlaw09.VisibleAll': WHATEVER THE INPUT: true; the input reads as it did. -/
def visibleAllSpec : ChangeSpec := { name := "visibleAll", fn := fun _ => fun
  | [d] => { results := [.lit (.bool true)], args := [d] }
  | _ => none }
def visibleAllRow : OpenClaim := { program := "ytkdcgmloapmpkaa", sum := "f5d05178ee0a8a4210ea2685bc1adf6a6dd7c771d4ed802c161c480bf01dde31", func := "waystation/waystationlaw09.VisibleAll", spec := "visibleAll", unfollowed := true, recurses := true, plainKeys := false, apart := false }
def VisibleAllSaid : Prop := visibleAllRow.holds Try.pinned (OpenSpec.ofChange visibleAllSpec)

/-- ITS FALSE NEIGHBOUR: 'it returns false'. Refute it at one input. -/
def visibleAllWrong : ChangeSpec := { name := "visibleAll", fn := fun _ => fun
  | [d] => { results := [.lit (.bool false)], args := [d] }
  | _ => none }
def VisibleAllWrongFalsely : Prop := visibleAllRow.holds Try.pinned (OpenSpec.ofChange visibleAllWrong)

/-- 'waystationlaw09.VisibleEnds': WHATEVER THE INPUT: true; the input reads as it did. -/
def visibleEndsSpec : ChangeSpec := { name := "visibleEnds", fn := fun _ => fun
  | [d1, d2] => { results := [.lit (.bool true)], args := [d1, d2] }
  | _ => none }
def visibleEndsRow : OpenClaim := { program := "ytkdcgmloapmpkaa", sum := "f5d05178ee0a8a4210ea2685bc1adf6a6dd7c771d4ed802c161c480bf01dde31", func := "waystation/waystationlaw09.VisibleEnds", spec := "visibleEnds", unfollowed := true, recurses := true, plainKeys := false, apart := false }
def VisibleEndsSaid : Prop := visibleEndsRow.holds Try.pinned (OpenSpec.ofChange visibleEndsSpec)

/-- ITS FALSE NEIGHBOUR: 'it returns false'. Refute it at one input. -/
def visibleEndsWrong : ChangeSpec := { name := "visibleEnds", fn := fun _ => fun
  | [d1, d2] => { results := [.lit (.bool false)], args := [d1, d2] }
  | _ => none }
def VisibleEndsWrongFalsely : Prop := visibleEndsRow.holds Try.pinned (OpenSpec.ofChange visibleEndsWrong)

/-- 'waystationlaw09.VisibleGrows': WHATEVER THE INPUT: true; the input reads as it did. -/
def visibleGrowsSpec : ChangeSpec := { name := "visibleGrows", fn := fun _ => fun
  | [d1, d2] => { results := [.lit (.bool true)], args := [d1, d2] }
  | _ => none }
def visibleGrowsRow : OpenClaim := { program := "ytkdcgmloapmpkaa", sum := "f5d05178ee0a8a4210ea2685bc1adf6a6dd7c771d4ed802c161c480bf01dde31", func := "waystation/waystationlaw09.VisibleGrows", spec := "visibleGrows", unfollowed := true, recurses := true, plainKeys := false, apart := false }
def VisibleGrowsSaid : Prop := visibleGrowsRow.holds Try.pinned (OpenSpec.ofChange visibleGrowsSpec)

/-- ITS FALSE NEIGHBOUR: 'it returns false'. Refute it at one input. -/
def visibleGrowsWrong : ChangeSpec := { name := "visibleGrows", fn := fun _ => fun
  | [d1, d2] => { results := [.lit (.bool false)], args := [d1, d2] }
  | _ => none }
def VisibleGrowsWrongFalsely : Prop := visibleGrowsRow.holds Try.pinned (OpenSpec.ofChange visibleGrowsWrong)

/-- 'waystationlaw09.VisibleReads': WHATEVER THE INPUT: true; the input reads as it did. -/
def visibleReadsSpec : ChangeSpec := { name := "visibleReads", fn := fun _ => fun
  | [d1, d2] => { results := [.lit (.bool true)], args := [d1, d2] }
  | _ => none }
def visibleReadsRow : OpenClaim := { program := "ytkdcgmloapmpkaa", sum := "f5d05178ee0a8a4210ea2685bc1adf6a6dd7c771d4ed802c161c480bf01dde31", func := "waystation/waystationlaw09.VisibleReads", spec := "visibleReads", unfollowed := true, recurses := true, plainKeys := false, apart := false }
def VisibleReadsSaid : Prop := visibleReadsRow.holds Try.pinned (OpenSpec.ofChange visibleReadsSpec)

/-- ITS FALSE NEIGHBOUR: 'it returns false'. Refute it at one input. -/
def visibleReadsWrong : ChangeSpec := { name := "visibleReads", fn := fun _ => fun
  | [d1, d2] => { results := [.lit (.bool false)], args := [d1, d2] }
  | _ => none }
def VisibleReadsWrongFalsely : Prop := visibleReadsRow.holds Try.pinned (OpenSpec.ofChange visibleReadsWrong)

/-- 'waystationlaw09.VisibleCopies': WHATEVER THE INPUT: true; the input reads as it did. -/
def visibleCopiesSpec : ChangeSpec := { name := "visibleCopies", fn := fun _ => fun
  | [d1, d2, d3, d4] => { results := [.lit (.bool true)], args := [d1, d2, d3, d4] }
  | _ => none }
def visibleCopiesRow : OpenClaim := { program := "ytkdcgmloapmpkaa", sum := "f5d05178ee0a8a4210ea2685bc1adf6a6dd7c771d4ed802c161c480bf01dde31", func := "waystation/waystationlaw09.VisibleCopies", spec := "visibleCopies", unfollowed := true, recurses := true, plainKeys := false, apart := false }
def VisibleCopiesSaid : Prop := visibleCopiesRow.holds Try.pinned (OpenSpec.ofChange visibleCopiesSpec)

/-- ITS FALSE NEIGHBOUR: 'it returns false'. Refute it at one input. -/
def visibleCopiesWrong : ChangeSpec := { name := "visibleCopies", fn := fun _ => fun
  | [d1, d2, d3, d4] => { results := [.lit (.bool false)], args := [d1, d2, d3, d4] }
  | _ => none }
def VisibleCopiesWrongFalsely : Prop := visibleCopiesRow.holds Try.pinned (OpenSpec.ofChange visibleCopiesWrong)

/-- 'waystationlaw08.ProducersWriters': WHATEVER THE INPUT: true; the input reads as it did. -/
def producersWritersSpec : ChangeSpec := { name := "producersWriters", fn := fun _ => fun
  | [d1, d2] => { results := [.lit (.bool true)], args := [d1, d2] }
  | _ => none }
def producersWritersRow : OpenClaim := { program := "ytkdcgmloapmpkaa", sum := "f5d05178ee0a8a4210ea2685bc1adf6a6dd7c771d4ed802c161c480bf01dde31", func := "waystation/waystationlaw08.ProducersWriters", spec := "producersWriters", unfollowed := true, recurses := true, plainKeys := false, apart := false }
def ProducersWritersSaid : Prop := producersWritersRow.holds Try.pinned (OpenSpec.ofChange producersWritersSpec)

/-- ITS FALSE NEIGHBOUR: 'it returns false'. Refute it at one input. -/
def producersWritersWrong : ChangeSpec := { name := "producersWriters", fn := fun _ => fun
  | [d1, d2] => { results := [.lit (.bool false)], args := [d1, d2] }
  | _ => none }
def ProducersWritersWrongFalsely : Prop := producersWritersRow.holds Try.pinned (OpenSpec.ofChange producersWritersWrong)

/-- 'waystationlaw08.ProducersOnce': WHATEVER THE INPUT: true; the input reads as it did. -/
def producersOnceSpec : ChangeSpec := { name := "producersOnce", fn := fun _ => fun
  | [d] => { results := [.lit (.bool true)], args := [d] }
  | _ => none }
def producersOnceRow : OpenClaim := { program := "ytkdcgmloapmpkaa", sum := "f5d05178ee0a8a4210ea2685bc1adf6a6dd7c771d4ed802c161c480bf01dde31", func := "waystation/waystationlaw08.ProducersOnce", spec := "producersOnce", unfollowed := true, recurses := true, plainKeys := false, apart := false }
def ProducersOnceSaid : Prop := producersOnceRow.holds Try.pinned (OpenSpec.ofChange producersOnceSpec)

/-- ITS FALSE NEIGHBOUR: 'it returns false'. Refute it at one input. -/
def producersOnceWrong : ChangeSpec := { name := "producersOnce", fn := fun _ => fun
  | [d] => { results := [.lit (.bool false)], args := [d] }
  | _ => none }
def ProducersOnceWrongFalsely : Prop := producersOnceRow.holds Try.pinned (OpenSpec.ofChange producersOnceWrong)

/-- 'waystationlaw08.ProducersLong': WHATEVER THE INPUT: true; the input reads as it did. -/
def producersLongSpec : ChangeSpec := { name := "producersLong", fn := fun _ => fun
  | [] => { results := [.lit (.bool true)], args := [] }
  | _ => none }
def producersLongRow : OpenClaim := { program := "ytkdcgmloapmpkaa", sum := "f5d05178ee0a8a4210ea2685bc1adf6a6dd7c771d4ed802c161c480bf01dde31", func := "waystation/waystationlaw08.ProducersLong", spec := "producersLong", unfollowed := true, recurses := true, plainKeys := false, apart := false }
def ProducersLongSaid : Prop := producersLongRow.holds Try.pinned (OpenSpec.ofChange producersLongSpec)

/-- ITS FALSE NEIGHBOUR: 'it returns false'. Refute it at one input. -/
def producersLongWrong : ChangeSpec := { name := "producersLong", fn := fun _ => fun
  | [] => { results := [.lit (.bool false)], args := [] }
  | _ => none }
def ProducersLongWrongFalsely : Prop := producersLongRow.holds Try.pinned (OpenSpec.ofChange producersLongWrong)

/-- 'waystationlaw08.ProducersMakes': WHATEVER THE INPUT: true; the input reads as it did. -/
def producersMakesSpec : ChangeSpec := { name := "producersMakes", fn := fun _ => fun
  | [d] => { results := [.lit (.bool true)], args := [d] }
  | _ => none }
def producersMakesRow : OpenClaim := { program := "ytkdcgmloapmpkaa", sum := "f5d05178ee0a8a4210ea2685bc1adf6a6dd7c771d4ed802c161c480bf01dde31", func := "waystation/waystationlaw08.ProducersMakes", spec := "producersMakes", unfollowed := true, recurses := true, plainKeys := false, apart := false }
def ProducersMakesSaid : Prop := producersMakesRow.holds Try.pinned (OpenSpec.ofChange producersMakesSpec)

/-- ITS FALSE NEIGHBOUR: 'it returns false'. Refute it at one input. -/
def producersMakesWrong : ChangeSpec := { name := "producersMakes", fn := fun _ => fun
  | [d] => { results := [.lit (.bool false)], args := [d] }
  | _ => none }
def ProducersMakesWrongFalsely : Prop := producersMakesRow.holds Try.pinned (OpenSpec.ofChange producersMakesWrong)

/-- 'waystationlaw08.ProducersLines': WHATEVER THE INPUT: true; the input reads as it did. -/
def producersLinesSpec : ChangeSpec := { name := "producersLines", fn := fun _ => fun
  | [d] => { results := [.lit (.bool true)], args := [d] }
  | _ => none }
def producersLinesRow : OpenClaim := { program := "ytkdcgmloapmpkaa", sum := "f5d05178ee0a8a4210ea2685bc1adf6a6dd7c771d4ed802c161c480bf01dde31", func := "waystation/waystationlaw08.ProducersLines", spec := "producersLines", unfollowed := true, recurses := true, plainKeys := false, apart := false }
def ProducersLinesSaid : Prop := producersLinesRow.holds Try.pinned (OpenSpec.ofChange producersLinesSpec)

/-- ITS FALSE NEIGHBOUR: 'it returns false'. Refute it at one input. -/
def producersLinesWrong : ChangeSpec := { name := "producersLines", fn := fun _ => fun
  | [d] => { results := [.lit (.bool false)], args := [d] }
  | _ => none }
def ProducersLinesWrongFalsely : Prop := producersLinesRow.holds Try.pinned (OpenSpec.ofChange producersLinesWrong)

/-- 'waystationlaw08.ProducersOpens': WHATEVER THE INPUT: true; the input reads as it did. -/
def producersOpensSpec : ChangeSpec := { name := "producersOpens", fn := fun _ => fun
  | [d1, d2] => { results := [.lit (.bool true)], args := [d1, d2] }
  | _ => none }
def producersOpensRow : OpenClaim := { program := "ytkdcgmloapmpkaa", sum := "f5d05178ee0a8a4210ea2685bc1adf6a6dd7c771d4ed802c161c480bf01dde31", func := "waystation/waystationlaw08.ProducersOpens", spec := "producersOpens", unfollowed := true, recurses := true, plainKeys := false, apart := false }
def ProducersOpensSaid : Prop := producersOpensRow.holds Try.pinned (OpenSpec.ofChange producersOpensSpec)

/-- ITS FALSE NEIGHBOUR: 'it returns false'. Refute it at one input. -/
def producersOpensWrong : ChangeSpec := { name := "producersOpens", fn := fun _ => fun
  | [d1, d2] => { results := [.lit (.bool false)], args := [d1, d2] }
  | _ => none }
def ProducersOpensWrongFalsely : Prop := producersOpensRow.holds Try.pinned (OpenSpec.ofChange producersOpensWrong)

/-- 'waystationlaw08.ProducersPlays': WHATEVER THE INPUT: true; the input reads as it did. -/
def producersPlaysSpec : ChangeSpec := { name := "producersPlays", fn := fun _ => fun
  | [d1, d2] => { results := [.lit (.bool true)], args := [d1, d2] }
  | _ => none }
def producersPlaysRow : OpenClaim := { program := "ytkdcgmloapmpkaa", sum := "f5d05178ee0a8a4210ea2685bc1adf6a6dd7c771d4ed802c161c480bf01dde31", func := "waystation/waystationlaw08.ProducersPlays", spec := "producersPlays", unfollowed := true, recurses := true, plainKeys := false, apart := false }
def ProducersPlaysSaid : Prop := producersPlaysRow.holds Try.pinned (OpenSpec.ofChange producersPlaysSpec)

/-- ITS FALSE NEIGHBOUR: 'it returns false'. Refute it at one input. -/
def producersPlaysWrong : ChangeSpec := { name := "producersPlays", fn := fun _ => fun
  | [d1, d2] => { results := [.lit (.bool false)], args := [d1, d2] }
  | _ => none }
def ProducersPlaysWrongFalsely : Prop := producersPlaysRow.holds Try.pinned (OpenSpec.ofChange producersPlaysWrong)

/-- 'waystationlaw08.ProducersChecks': WHATEVER THE INPUT: true; the input reads as it did. -/
def producersChecksSpec : ChangeSpec := { name := "producersChecks", fn := fun _ => fun
  | [d1, d2] => { results := [.lit (.bool true)], args := [d1, d2] }
  | _ => none }
def producersChecksRow : OpenClaim := { program := "ytkdcgmloapmpkaa", sum := "f5d05178ee0a8a4210ea2685bc1adf6a6dd7c771d4ed802c161c480bf01dde31", func := "waystation/waystationlaw08.ProducersChecks", spec := "producersChecks", unfollowed := true, recurses := true, plainKeys := false, apart := false }
def ProducersChecksSaid : Prop := producersChecksRow.holds Try.pinned (OpenSpec.ofChange producersChecksSpec)

/-- ITS FALSE NEIGHBOUR: 'it returns false'. Refute it at one input. -/
def producersChecksWrong : ChangeSpec := { name := "producersChecks", fn := fun _ => fun
  | [d1, d2] => { results := [.lit (.bool false)], args := [d1, d2] }
  | _ => none }
def ProducersChecksWrongFalsely : Prop := producersChecksRow.holds Try.pinned (OpenSpec.ofChange producersChecksWrong)

/-- 'waystationlaw08.ProducersCopies': WHATEVER THE INPUT: true; the input reads as it did. -/
def producersCopiesSpec : ChangeSpec := { name := "producersCopies", fn := fun _ => fun
  | [d1, d2, d3] => { results := [.lit (.bool true)], args := [d1, d2, d3] }
  | _ => none }
def producersCopiesRow : OpenClaim := { program := "ytkdcgmloapmpkaa", sum := "f5d05178ee0a8a4210ea2685bc1adf6a6dd7c771d4ed802c161c480bf01dde31", func := "waystation/waystationlaw08.ProducersCopies", spec := "producersCopies", unfollowed := true, recurses := true, plainKeys := false, apart := false }
def ProducersCopiesSaid : Prop := producersCopiesRow.holds Try.pinned (OpenSpec.ofChange producersCopiesSpec)

/-- ITS FALSE NEIGHBOUR: 'it returns false'. Refute it at one input. -/
def producersCopiesWrong : ChangeSpec := { name := "producersCopies", fn := fun _ => fun
  | [d1, d2, d3] => { results := [.lit (.bool false)], args := [d1, d2, d3] }
  | _ => none }
def ProducersCopiesWrongFalsely : Prop := producersCopiesRow.holds Try.pinned (OpenSpec.ofChange producersCopiesWrong)

/- THE SECOND FORM. 'bulk': how many values and letters a reading holds, each counted each time it is reached (what is shared counts as often as it is met; a slice's spare places count too). A statement '..UptoSaid' is the law's where the arguments, and the package variables that the reading takes, are together of bulk at most 1048576: NARROWER than '..Said'. Prove '..Said' where nothing that the law and all that it calls make is longer than what came in: it says more and counts as full. Else prove '..UptoSaid'. A law counts once. -/
mutual
def uptoBulk {H : Type} : DataW H → Nat
  | .lit (.string bytes) => bytes.length + 1
  | .lit _ => 1
  | .nil => 1
  | .ptr d => uptoBulk d + 1
  | .slice elems spare => uptoBulkAll elems + uptoBulkAll spare + 1
  | .agg parts => uptoBulkAll parts + 1
  | .iface _ d => uptoBulk d + 1
  | .map entries => uptoBulkEntries entries + 1
  | .held _ => 1
def uptoBulkAll {H : Type} : List (DataW H) → Nat
  | [] => 0
  | d :: r => uptoBulk d + uptoBulkAll r
def uptoBulkEntries {H : Type} : List (Lit × DataW H) → Nat
  | [] => 0
  | x :: r => uptoBulkEntry x + uptoBulkEntries r
def uptoBulkEntry {H : Type} : Lit × DataW H → Nat
  | (.string bytes, d) => bytes.length + uptoBulk d + 1
  | (_, d) => uptoBulk d + 1
 end
def uptoSmall : (H : Type) → List (DataW H) → Bool := fun _ ds => decide (uptoBulkAll ds ≤ 1048576)
def OpenSpec.upto (s : _root_.Go.ChangeSpec) : _root_.Go.OpenSpec := { _root_.Go.OpenSpec.ofChange s with cond := some uptoSmall }

/-- 'waystationlaw09.VisibleViews', WHERE WHAT IT READS IS OF BULK AT MOST 1048576: true; the input reads as it did. -/
def visibleViewsUptoRow : OpenClaim := { program := "ytkdcgmloapmpkaa", sum := "f5d05178ee0a8a4210ea2685bc1adf6a6dd7c771d4ed802c161c480bf01dde31", func := "waystation/waystationlaw09.VisibleViews", spec := "visibleViews", unfollowed := true, recurses := true, plainKeys := false, apart := false, narrowed := true }
def VisibleViewsUptoSaid : Prop := visibleViewsUptoRow.holds Try.pinned (OpenSpec.upto visibleViewsSpec)

/-- 'waystationlaw09.VisibleGoods', WHERE WHAT IT READS IS OF BULK AT MOST 1048576: true; the input reads as it did. -/
def visibleGoodsUptoRow : OpenClaim := { program := "ytkdcgmloapmpkaa", sum := "f5d05178ee0a8a4210ea2685bc1adf6a6dd7c771d4ed802c161c480bf01dde31", func := "waystation/waystationlaw09.VisibleGoods", spec := "visibleGoods", unfollowed := true, recurses := true, plainKeys := false, apart := false, narrowed := true }
def VisibleGoodsUptoSaid : Prop := visibleGoodsUptoRow.holds Try.pinned (OpenSpec.upto visibleGoodsSpec)

/-- 'waystationlaw09.VisibleAll', WHERE WHAT IT READS IS OF BULK AT MOST 1048576: true; the input reads as it did. -/
def visibleAllUptoRow : OpenClaim := { program := "ytkdcgmloapmpkaa", sum := "f5d05178ee0a8a4210ea2685bc1adf6a6dd7c771d4ed802c161c480bf01dde31", func := "waystation/waystationlaw09.VisibleAll", spec := "visibleAll", unfollowed := true, recurses := true, plainKeys := false, apart := false, narrowed := true }
def VisibleAllUptoSaid : Prop := visibleAllUptoRow.holds Try.pinned (OpenSpec.upto visibleAllSpec)

/-- 'waystationlaw09.VisibleEnds', WHERE WHAT IT READS IS OF BULK AT MOST 1048576: true; the input reads as it did. -/
def visibleEndsUptoRow : OpenClaim := { program := "ytkdcgmloapmpkaa", sum := "f5d05178ee0a8a4210ea2685bc1adf6a6dd7c771d4ed802c161c480bf01dde31", func := "waystation/waystationlaw09.VisibleEnds", spec := "visibleEnds", unfollowed := true, recurses := true, plainKeys := false, apart := false, narrowed := true }
def VisibleEndsUptoSaid : Prop := visibleEndsUptoRow.holds Try.pinned (OpenSpec.upto visibleEndsSpec)

/-- 'waystationlaw09.VisibleGrows', WHERE WHAT IT READS IS OF BULK AT MOST 1048576: true; the input reads as it did. -/
def visibleGrowsUptoRow : OpenClaim := { program := "ytkdcgmloapmpkaa", sum := "f5d05178ee0a8a4210ea2685bc1adf6a6dd7c771d4ed802c161c480bf01dde31", func := "waystation/waystationlaw09.VisibleGrows", spec := "visibleGrows", unfollowed := true, recurses := true, plainKeys := false, apart := false, narrowed := true }
def VisibleGrowsUptoSaid : Prop := visibleGrowsUptoRow.holds Try.pinned (OpenSpec.upto visibleGrowsSpec)

/-- 'waystationlaw09.VisibleReads', WHERE WHAT IT READS IS OF BULK AT MOST 1048576: true; the input reads as it did. -/
def visibleReadsUptoRow : OpenClaim := { program := "ytkdcgmloapmpkaa", sum := "f5d05178ee0a8a4210ea2685bc1adf6a6dd7c771d4ed802c161c480bf01dde31", func := "waystation/waystationlaw09.VisibleReads", spec := "visibleReads", unfollowed := true, recurses := true, plainKeys := false, apart := false, narrowed := true }
def VisibleReadsUptoSaid : Prop := visibleReadsUptoRow.holds Try.pinned (OpenSpec.upto visibleReadsSpec)

/-- 'waystationlaw09.VisibleCopies', WHERE WHAT IT READS IS OF BULK AT MOST 1048576: true; the input reads as it did. -/
def visibleCopiesUptoRow : OpenClaim := { program := "ytkdcgmloapmpkaa", sum := "f5d05178ee0a8a4210ea2685bc1adf6a6dd7c771d4ed802c161c480bf01dde31", func := "waystation/waystationlaw09.VisibleCopies", spec := "visibleCopies", unfollowed := true, recurses := true, plainKeys := false, apart := false, narrowed := true }
def VisibleCopiesUptoSaid : Prop := visibleCopiesUptoRow.holds Try.pinned (OpenSpec.upto visibleCopiesSpec)

/-- 'waystationlaw08.ProducersWriters', WHERE WHAT IT READS IS OF BULK AT MOST 1048576: true; the input reads as it did. -/
def producersWritersUptoRow : OpenClaim := { program := "ytkdcgmloapmpkaa", sum := "f5d05178ee0a8a4210ea2685bc1adf6a6dd7c771d4ed802c161c480bf01dde31", func := "waystation/waystationlaw08.ProducersWriters", spec := "producersWriters", unfollowed := true, recurses := true, plainKeys := false, apart := false, narrowed := true }
def ProducersWritersUptoSaid : Prop := producersWritersUptoRow.holds Try.pinned (OpenSpec.upto producersWritersSpec)

/-- 'waystationlaw08.ProducersOnce', WHERE WHAT IT READS IS OF BULK AT MOST 1048576: true; the input reads as it did. -/
def producersOnceUptoRow : OpenClaim := { program := "ytkdcgmloapmpkaa", sum := "f5d05178ee0a8a4210ea2685bc1adf6a6dd7c771d4ed802c161c480bf01dde31", func := "waystation/waystationlaw08.ProducersOnce", spec := "producersOnce", unfollowed := true, recurses := true, plainKeys := false, apart := false, narrowed := true }
def ProducersOnceUptoSaid : Prop := producersOnceUptoRow.holds Try.pinned (OpenSpec.upto producersOnceSpec)

/-- 'waystationlaw08.ProducersLong', WHERE WHAT IT READS IS OF BULK AT MOST 1048576: true; the input reads as it did. -/
def producersLongUptoRow : OpenClaim := { program := "ytkdcgmloapmpkaa", sum := "f5d05178ee0a8a4210ea2685bc1adf6a6dd7c771d4ed802c161c480bf01dde31", func := "waystation/waystationlaw08.ProducersLong", spec := "producersLong", unfollowed := true, recurses := true, plainKeys := false, apart := false, narrowed := true }
def ProducersLongUptoSaid : Prop := producersLongUptoRow.holds Try.pinned (OpenSpec.upto producersLongSpec)

/-- 'waystationlaw08.ProducersMakes', WHERE WHAT IT READS IS OF BULK AT MOST 1048576: true; the input reads as it did. -/
def producersMakesUptoRow : OpenClaim := { program := "ytkdcgmloapmpkaa", sum := "f5d05178ee0a8a4210ea2685bc1adf6a6dd7c771d4ed802c161c480bf01dde31", func := "waystation/waystationlaw08.ProducersMakes", spec := "producersMakes", unfollowed := true, recurses := true, plainKeys := false, apart := false, narrowed := true }
def ProducersMakesUptoSaid : Prop := producersMakesUptoRow.holds Try.pinned (OpenSpec.upto producersMakesSpec)

/-- 'waystationlaw08.ProducersLines', WHERE WHAT IT READS IS OF BULK AT MOST 1048576: true; the input reads as it did. -/
def producersLinesUptoRow : OpenClaim := { program := "ytkdcgmloapmpkaa", sum := "f5d05178ee0a8a4210ea2685bc1adf6a6dd7c771d4ed802c161c480bf01dde31", func := "waystation/waystationlaw08.ProducersLines", spec := "producersLines", unfollowed := true, recurses := true, plainKeys := false, apart := false, narrowed := true }
def ProducersLinesUptoSaid : Prop := producersLinesUptoRow.holds Try.pinned (OpenSpec.upto producersLinesSpec)

/-- 'waystationlaw08.ProducersOpens', WHERE WHAT IT READS IS OF BULK AT MOST 1048576: true; the input reads as it did. -/
def producersOpensUptoRow : OpenClaim := { program := "ytkdcgmloapmpkaa", sum := "f5d05178ee0a8a4210ea2685bc1adf6a6dd7c771d4ed802c161c480bf01dde31", func := "waystation/waystationlaw08.ProducersOpens", spec := "producersOpens", unfollowed := true, recurses := true, plainKeys := false, apart := false, narrowed := true }
def ProducersOpensUptoSaid : Prop := producersOpensUptoRow.holds Try.pinned (OpenSpec.upto producersOpensSpec)

/-- 'waystationlaw08.ProducersPlays', WHERE WHAT IT READS IS OF BULK AT MOST 1048576: true; the input reads as it did. -/
def producersPlaysUptoRow : OpenClaim := { program := "ytkdcgmloapmpkaa", sum := "f5d05178ee0a8a4210ea2685bc1adf6a6dd7c771d4ed802c161c480bf01dde31", func := "waystation/waystationlaw08.ProducersPlays", spec := "producersPlays", unfollowed := true, recurses := true, plainKeys := false, apart := false, narrowed := true }
def ProducersPlaysUptoSaid : Prop := producersPlaysUptoRow.holds Try.pinned (OpenSpec.upto producersPlaysSpec)

/-- 'waystationlaw08.ProducersChecks', WHERE WHAT IT READS IS OF BULK AT MOST 1048576: true; the input reads as it did. -/
def producersChecksUptoRow : OpenClaim := { program := "ytkdcgmloapmpkaa", sum := "f5d05178ee0a8a4210ea2685bc1adf6a6dd7c771d4ed802c161c480bf01dde31", func := "waystation/waystationlaw08.ProducersChecks", spec := "producersChecks", unfollowed := true, recurses := true, plainKeys := false, apart := false, narrowed := true }
def ProducersChecksUptoSaid : Prop := producersChecksUptoRow.holds Try.pinned (OpenSpec.upto producersChecksSpec)

/-- 'waystationlaw08.ProducersCopies', WHERE WHAT IT READS IS OF BULK AT MOST 1048576: true; the input reads as it did. -/
def producersCopiesUptoRow : OpenClaim := { program := "ytkdcgmloapmpkaa", sum := "f5d05178ee0a8a4210ea2685bc1adf6a6dd7c771d4ed802c161c480bf01dde31", func := "waystation/waystationlaw08.ProducersCopies", spec := "producersCopies", unfollowed := true, recurses := true, plainKeys := false, apart := false, narrowed := true }
def ProducersCopiesUptoSaid : Prop := producersCopiesUptoRow.holds Try.pinned (OpenSpec.upto producersCopiesSpec)

end Rows
end Go.Proofs.Ytkdcgmloapmpkaa
