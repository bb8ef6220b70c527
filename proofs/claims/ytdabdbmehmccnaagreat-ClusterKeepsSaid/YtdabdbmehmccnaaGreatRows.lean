/-
  No cell of these rows narrows 'for every input' (looked for: loops, veiled, ifaces, maps, wideKeys, modest, calm, conditions, laid).
  DERIVED. THE GIVEN ROWS OF THIS SEAT. 8 by the template 'for every input the law returns true; each argument reads behind the call as it read before'; 0 by the template 'total and deterministic' (their statements: YtdabdbmehmccnaaGreatTotals.lean).
  GIVEN WITH THE SEED: the statements are not yours to turn. If you find one false, say at which input.
  Laid BY PROGRAM, IN A SANDBOX (cutbox-rows.mjs): the forced cells as the released guide's own fill.sh prints them over the translation 528997181dcc49fb… (all of the seat's roots in one cut). By AI agents, Wed Nov 11 2026. No macro, syntax, notation, axiom, sorry.
-/
import Derived.Test.YtdabdbmehmccnaaGreatChecked
import GoSem.Claim
import GoSem.ClaimJoined
import GoSem.ClaimMapViews
import Derived.JoinedTies
import Derived.KernelRfl
namespace Go.Proofs.YtdabdbmehmccnaaGreat
/- THE CELL 'sum', in the pinned program and in every row, IS THE sha256 OF THE DUMP (.gsa) THAT YtdabdbmehmccnaaGreatProg.lean LOADS. Nothing in Lean hashes anything: it is a label: what it is worth is what the hold of that sum in a sandbox is worth. -/
noncomputable def Tryz.pinned : Pinned := { name := "ytdabdbmehmccnaagreat", sum := "528997181dcc49fb422004360bc013677dcb4b19fce51c86072ba97056934fe0", checked := Tryz.checked }
namespace Rows
def none {H : Type} : Left H := { results := [], args := [] }

/-- 'waystationlaw12.ClusterKeeps': WHATEVER THE INPUT: true; the input reads as it did. -/
def clusterKeepsSpec : ChangeSpec := { name := "clusterKeeps", fn := fun _ => fun
  | [d1, d2] => { results := [.lit (.bool true)], args := [d1, d2] }
  | _ => none }
def clusterKeepsRow : OpenClaim := { program := "ytdabdbmehmccnaagreat", sum := "528997181dcc49fb422004360bc013677dcb4b19fce51c86072ba97056934fe0", func := "waystation/waystationlaw12.ClusterKeeps", spec := "clusterKeeps", unfollowed := true, recurses := true, plainKeys := false, apart := false }
def ClusterKeepsSaid : Prop := clusterKeepsRow.holds Tryz.pinned (OpenSpec.ofChange clusterKeepsSpec)

/-- ITS FALSE NEIGHBOUR: 'it returns false'. Refute it at one input. -/
def clusterKeepsWrong : ChangeSpec := { name := "clusterKeeps", fn := fun _ => fun
  | [d1, d2] => { results := [.lit (.bool false)], args := [d1, d2] }
  | _ => none }
def ClusterKeepsWrongFalsely : Prop := clusterKeepsRow.holds Tryz.pinned (OpenSpec.ofChange clusterKeepsWrong)

/-- 'waystationlaw12.ClusterBag': WHATEVER THE INPUT: true; the input reads as it did. -/
def clusterBagSpec : ChangeSpec := { name := "clusterBag", fn := fun _ => fun
  | [d1, d2] => { results := [.lit (.bool true)], args := [d1, d2] }
  | _ => none }
def clusterBagRow : OpenClaim := { program := "ytdabdbmehmccnaagreat", sum := "528997181dcc49fb422004360bc013677dcb4b19fce51c86072ba97056934fe0", func := "waystation/waystationlaw12.ClusterBag", spec := "clusterBag", unfollowed := true, recurses := true, plainKeys := false, apart := false }
def ClusterBagSaid : Prop := clusterBagRow.holds Tryz.pinned (OpenSpec.ofChange clusterBagSpec)

/-- ITS FALSE NEIGHBOUR: 'it returns false'. Refute it at one input. -/
def clusterBagWrong : ChangeSpec := { name := "clusterBag", fn := fun _ => fun
  | [d1, d2] => { results := [.lit (.bool false)], args := [d1, d2] }
  | _ => none }
def ClusterBagWrongFalsely : Prop := clusterBagRow.holds Tryz.pinned (OpenSpec.ofChange clusterBagWrong)

/-- 'waystationlaw12.ClusterCopies': WHATEVER THE INPUT: true; the input reads as it did. -/
def clusterCopiesSpec : ChangeSpec := { name := "clusterCopies", fn := fun _ => fun
  | [d1, d2, d3] => { results := [.lit (.bool true)], args := [d1, d2, d3] }
  | _ => none }
def clusterCopiesRow : OpenClaim := { program := "ytdabdbmehmccnaagreat", sum := "528997181dcc49fb422004360bc013677dcb4b19fce51c86072ba97056934fe0", func := "waystation/waystationlaw12.ClusterCopies", spec := "clusterCopies", unfollowed := true, recurses := true, plainKeys := false, apart := false }
def ClusterCopiesSaid : Prop := clusterCopiesRow.holds Tryz.pinned (OpenSpec.ofChange clusterCopiesSpec)

/-- ITS FALSE NEIGHBOUR: 'it returns false'. Refute it at one input. -/
def clusterCopiesWrong : ChangeSpec := { name := "clusterCopies", fn := fun _ => fun
  | [d1, d2, d3] => { results := [.lit (.bool false)], args := [d1, d2, d3] }
  | _ => none }
def ClusterCopiesWrongFalsely : Prop := clusterCopiesRow.holds Tryz.pinned (OpenSpec.ofChange clusterCopiesWrong)

/-- 'waystationlaw12.ClusterPlay': WHATEVER THE INPUT: true; the input reads as it did. -/
def clusterPlaySpec : ChangeSpec := { name := "clusterPlay", fn := fun _ => fun
  | [d1, d2] => { results := [.lit (.bool true)], args := [d1, d2] }
  | _ => none }
def clusterPlayRow : OpenClaim := { program := "ytdabdbmehmccnaagreat", sum := "528997181dcc49fb422004360bc013677dcb4b19fce51c86072ba97056934fe0", func := "waystation/waystationlaw12.ClusterPlay", spec := "clusterPlay", unfollowed := true, recurses := true, plainKeys := false, apart := false }
def ClusterPlaySaid : Prop := clusterPlayRow.holds Tryz.pinned (OpenSpec.ofChange clusterPlaySpec)

/-- ITS FALSE NEIGHBOUR: 'it returns false'. Refute it at one input. -/
def clusterPlayWrong : ChangeSpec := { name := "clusterPlay", fn := fun _ => fun
  | [d1, d2] => { results := [.lit (.bool false)], args := [d1, d2] }
  | _ => none }
def ClusterPlayWrongFalsely : Prop := clusterPlayRow.holds Tryz.pinned (OpenSpec.ofChange clusterPlayWrong)

/-- 'waystationlaw12.ClusterLeads': WHATEVER THE INPUT: true; the input reads as it did. -/
def clusterLeadsSpec : ChangeSpec := { name := "clusterLeads", fn := fun _ => fun
  | [d] => { results := [.lit (.bool true)], args := [d] }
  | _ => none }
def clusterLeadsRow : OpenClaim := { program := "ytdabdbmehmccnaagreat", sum := "528997181dcc49fb422004360bc013677dcb4b19fce51c86072ba97056934fe0", func := "waystation/waystationlaw12.ClusterLeads", spec := "clusterLeads", unfollowed := true, recurses := true, plainKeys := false, apart := false }
def ClusterLeadsSaid : Prop := clusterLeadsRow.holds Tryz.pinned (OpenSpec.ofChange clusterLeadsSpec)

/-- ITS FALSE NEIGHBOUR: 'it returns false'. Refute it at one input. -/
def clusterLeadsWrong : ChangeSpec := { name := "clusterLeads", fn := fun _ => fun
  | [d] => { results := [.lit (.bool false)], args := [d] }
  | _ => none }
def ClusterLeadsWrongFalsely : Prop := clusterLeadsRow.holds Tryz.pinned (OpenSpec.ofChange clusterLeadsWrong)

/-- 'waystationlaw12.ClusterSteps': WHATEVER THE INPUT: true; the input reads as it did. -/
def clusterStepsSpec : ChangeSpec := { name := "clusterSteps", fn := fun _ => fun
  | [d] => { results := [.lit (.bool true)], args := [d] }
  | _ => none }
def clusterStepsRow : OpenClaim := { program := "ytdabdbmehmccnaagreat", sum := "528997181dcc49fb422004360bc013677dcb4b19fce51c86072ba97056934fe0", func := "waystation/waystationlaw12.ClusterSteps", spec := "clusterSteps", unfollowed := true, recurses := true, plainKeys := false, apart := false }
def ClusterStepsSaid : Prop := clusterStepsRow.holds Tryz.pinned (OpenSpec.ofChange clusterStepsSpec)

/-- ITS FALSE NEIGHBOUR: 'it returns false'. Refute it at one input. -/
def clusterStepsWrong : ChangeSpec := { name := "clusterSteps", fn := fun _ => fun
  | [d] => { results := [.lit (.bool false)], args := [d] }
  | _ => none }
def ClusterStepsWrongFalsely : Prop := clusterStepsRow.holds Tryz.pinned (OpenSpec.ofChange clusterStepsWrong)

/-- 'waystationlaw12.ClusterMarks': WHATEVER THE INPUT: true; the input reads as it did. -/
def clusterMarksSpec : ChangeSpec := { name := "clusterMarks", fn := fun _ => fun
  | [d] => { results := [.lit (.bool true)], args := [d] }
  | _ => none }
def clusterMarksRow : OpenClaim := { program := "ytdabdbmehmccnaagreat", sum := "528997181dcc49fb422004360bc013677dcb4b19fce51c86072ba97056934fe0", func := "waystation/waystationlaw12.ClusterMarks", spec := "clusterMarks", unfollowed := true, recurses := true, plainKeys := false, apart := false }
def ClusterMarksSaid : Prop := clusterMarksRow.holds Tryz.pinned (OpenSpec.ofChange clusterMarksSpec)

/-- ITS FALSE NEIGHBOUR: 'it returns false'. Refute it at one input. -/
def clusterMarksWrong : ChangeSpec := { name := "clusterMarks", fn := fun _ => fun
  | [d] => { results := [.lit (.bool false)], args := [d] }
  | _ => none }
def ClusterMarksWrongFalsely : Prop := clusterMarksRow.holds Tryz.pinned (OpenSpec.ofChange clusterMarksWrong)

/-- 'waystationlaw12.ClusterNil': WHATEVER THE INPUT: true; the input reads as it did. -/
def clusterNilSpec : ChangeSpec := { name := "clusterNil", fn := fun _ => fun
  | [d1, d2] => { results := [.lit (.bool true)], args := [d1, d2] }
  | _ => none }
def clusterNilRow : OpenClaim := { program := "ytdabdbmehmccnaagreat", sum := "528997181dcc49fb422004360bc013677dcb4b19fce51c86072ba97056934fe0", func := "waystation/waystationlaw12.ClusterNil", spec := "clusterNil", unfollowed := true, recurses := true, plainKeys := false, apart := false }
def ClusterNilSaid : Prop := clusterNilRow.holds Tryz.pinned (OpenSpec.ofChange clusterNilSpec)

/-- ITS FALSE NEIGHBOUR: 'it returns false'. Refute it at one input. -/
def clusterNilWrong : ChangeSpec := { name := "clusterNil", fn := fun _ => fun
  | [d1, d2] => { results := [.lit (.bool false)], args := [d1, d2] }
  | _ => none }
def ClusterNilWrongFalsely : Prop := clusterNilRow.holds Tryz.pinned (OpenSpec.ofChange clusterNilWrong)

/- THE SECOND FORM. 'bulk': how many values and letters a reading holds, each counted each time it is reached (what is shared counts as often as it is met; a slice's spare places count too). A statement '..UptoSaid' is the law's where the arguments, and the package variables that the reading takes, are together of bulk at most 1048576: NARROWER than '..Said'. Prove '..Said' where nothing that the law and all that it calls make is longer than what came in: it says more and counts as full. Else prove '..UptoSaid'. A law counts once. -/
mutual
def uptoBulk {H : Type} : DataW H → Nat
  | .lit (.string bytes) => bytes.length + 1
  | .lit _ => 1
  | .nil => 1
  | .ptr d => uptoBulk d + 1
  | .slice elems spare => uptoBulkAll elems + uptoBulkAll spare + 1
  | .agg parts => uptoBulkAll parts + 1
  | .iface _ d => uptoBulk d + 1
  | .map entries => uptoBulkEntries entries + 1
  | .held _ => 1
def uptoBulkAll {H : Type} : List (DataW H) → Nat
  | [] => 0
  | d :: r => uptoBulk d + uptoBulkAll r
def uptoBulkEntries {H : Type} : List (Lit × DataW H) → Nat
  | [] => 0
  | x :: r => uptoBulkEntry x + uptoBulkEntries r
def uptoBulkEntry {H : Type} : Lit × DataW H → Nat
  | (.string bytes, d) => bytes.length + uptoBulk d + 1
  | (_, d) => uptoBulk d + 1
 end
def uptoSmall : (H : Type) → List (DataW H) → Bool := fun _ ds => decide (uptoBulkAll ds ≤ 1048576)
def OpenSpec.upto (s : _root_.Go.ChangeSpec) : _root_.Go.OpenSpec := { _root_.Go.OpenSpec.ofChange s with cond := some uptoSmall }

/-- 'waystationlaw12.ClusterKeeps', WHERE WHAT IT READS IS OF BULK AT MOST 1048576: true; the input reads as it did. -/
def clusterKeepsUptoRow : OpenClaim := { program := "ytdabdbmehmccnaagreat", sum := "528997181dcc49fb422004360bc013677dcb4b19fce51c86072ba97056934fe0", func := "waystation/waystationlaw12.ClusterKeeps", spec := "clusterKeeps", unfollowed := true, recurses := true, plainKeys := false, apart := false, narrowed := true }
def ClusterKeepsUptoSaid : Prop := clusterKeepsUptoRow.holds Tryz.pinned (OpenSpec.upto clusterKeepsSpec)

/-- 'waystationlaw12.ClusterBag', WHERE WHAT IT READS IS OF BULK AT MOST 1048576: true; the input reads as it did. -/
def clusterBagUptoRow : OpenClaim := { program := "ytdabdbmehmccnaagreat", sum := "528997181dcc49fb422004360bc013677dcb4b19fce51c86072ba97056934fe0", func := "waystation/waystationlaw12.ClusterBag", spec := "clusterBag", unfollowed := true, recurses := true, plainKeys := false, apart := false, narrowed := true }
def ClusterBagUptoSaid : Prop := clusterBagUptoRow.holds Tryz.pinned (OpenSpec.upto clusterBagSpec)

/-- 'waystationlaw12.ClusterCopies', WHERE WHAT IT READS IS OF BULK AT MOST 1048576: true; the input reads as it did. -/
def clusterCopiesUptoRow : OpenClaim := { program := "ytdabdbmehmccnaagreat", sum := "528997181dcc49fb422004360bc013677dcb4b19fce51c86072ba97056934fe0", func := "waystation/waystationlaw12.ClusterCopies", spec := "clusterCopies", unfollowed := true, recurses := true, plainKeys := false, apart := false, narrowed := true }
def ClusterCopiesUptoSaid : Prop := clusterCopiesUptoRow.holds Tryz.pinned (OpenSpec.upto clusterCopiesSpec)

/-- 'waystationlaw12.ClusterPlay', WHERE WHAT IT READS IS OF BULK AT MOST 1048576: true; the input reads as it did. -/
def clusterPlayUptoRow : OpenClaim := { program := "ytdabdbmehmccnaagreat", sum := "528997181dcc49fb422004360bc013677dcb4b19fce51c86072ba97056934fe0", func := "waystation/waystationlaw12.ClusterPlay", spec := "clusterPlay", unfollowed := true, recurses := true, plainKeys := false, apart := false, narrowed := true }
def ClusterPlayUptoSaid : Prop := clusterPlayUptoRow.holds Tryz.pinned (OpenSpec.upto clusterPlaySpec)

/-- 'waystationlaw12.ClusterLeads', WHERE WHAT IT READS IS OF BULK AT MOST 1048576: true; the input reads as it did. -/
def clusterLeadsUptoRow : OpenClaim := { program := "ytdabdbmehmccnaagreat", sum := "528997181dcc49fb422004360bc013677dcb4b19fce51c86072ba97056934fe0", func := "waystation/waystationlaw12.ClusterLeads", spec := "clusterLeads", unfollowed := true, recurses := true, plainKeys := false, apart := false, narrowed := true }
def ClusterLeadsUptoSaid : Prop := clusterLeadsUptoRow.holds Tryz.pinned (OpenSpec.upto clusterLeadsSpec)

/-- 'waystationlaw12.ClusterSteps', WHERE WHAT IT READS IS OF BULK AT MOST 1048576: true; the input reads as it did. -/
def clusterStepsUptoRow : OpenClaim := { program := "ytdabdbmehmccnaagreat", sum := "528997181dcc49fb422004360bc013677dcb4b19fce51c86072ba97056934fe0", func := "waystation/waystationlaw12.ClusterSteps", spec := "clusterSteps", unfollowed := true, recurses := true, plainKeys := false, apart := false, narrowed := true }
def ClusterStepsUptoSaid : Prop := clusterStepsUptoRow.holds Tryz.pinned (OpenSpec.upto clusterStepsSpec)

/-- 'waystationlaw12.ClusterMarks', WHERE WHAT IT READS IS OF BULK AT MOST 1048576: true; the input reads as it did. -/
def clusterMarksUptoRow : OpenClaim := { program := "ytdabdbmehmccnaagreat", sum := "528997181dcc49fb422004360bc013677dcb4b19fce51c86072ba97056934fe0", func := "waystation/waystationlaw12.ClusterMarks", spec := "clusterMarks", unfollowed := true, recurses := true, plainKeys := false, apart := false, narrowed := true }
def ClusterMarksUptoSaid : Prop := clusterMarksUptoRow.holds Tryz.pinned (OpenSpec.upto clusterMarksSpec)

/-- 'waystationlaw12.ClusterNil', WHERE WHAT IT READS IS OF BULK AT MOST 1048576: true; the input reads as it did. -/
def clusterNilUptoRow : OpenClaim := { program := "ytdabdbmehmccnaagreat", sum := "528997181dcc49fb422004360bc013677dcb4b19fce51c86072ba97056934fe0", func := "waystation/waystationlaw12.ClusterNil", spec := "clusterNil", unfollowed := true, recurses := true, plainKeys := false, apart := false, narrowed := true }
def ClusterNilUptoSaid : Prop := clusterNilUptoRow.holds Tryz.pinned (OpenSpec.upto clusterNilSpec)

end Rows
end Go.Proofs.YtdabdbmehmccnaaGreat
