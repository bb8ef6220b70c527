/-
  No cell of these rows narrows 'for every input' (looked for: loops, veiled, ifaces, maps, wideKeys, modest, calm, conditions, laid).
  DERIVED. THE GIVEN ROWS OF THIS SEAT. 8 by the template 'for every input the law returns true; each argument reads behind the call as it read before'; 0 by the template 'total and deterministic' (their statements: YtlpjgegbdmkmdaaGreatTotals.lean).
  GIVEN WITH THE SEED: the statements are not yours to turn. If you find one false, say at which input.
  Laid BY PROGRAM, IN A SANDBOX (cutbox-rows.mjs): the forced cells as the released guide's own fill.sh prints them over the translation acefcefa3e8e14ea… (all of the seat's roots in one cut). By AI agents, Wed Nov 11 2026. No macro, syntax, notation, axiom, sorry.
-/
import Derived.Test.YtlpjgegbdmkmdaaGreatChecked
import GoSem.Claim
import GoSem.ClaimJoined
import GoSem.ClaimMapViews
import Derived.JoinedTies
import Derived.KernelRfl
namespace Go.Proofs.YtlpjgegbdmkmdaaGreat
/- THE CELL 'sum', in the pinned program and in every row, IS THE sha256 OF THE DUMP (.gsa) THAT YtlpjgegbdmkmdaaGreatProg.lean LOADS. Nothing in Lean hashes anything: it is a label: what it is worth is what the hold of that sum in a sandbox is worth. -/
noncomputable def Tryz.pinned : Pinned := { name := "ytlpjgegbdmkmdaagreat", sum := "acefcefa3e8e14ea6323ef306d4a7ea1ecc0052c7e64beaa00a7efda46d8c3e5", checked := Tryz.checked }
namespace Rows
def none {H : Type} : Left H := { results := [], args := [] }

/-- 'waystationlaw11.ReplicaHigh': WHATEVER THE INPUT: true; the input reads as it did. -/
def replicaHighSpec : ChangeSpec := { name := "replicaHigh", fn := fun _ => fun
  | [d] => { results := [.lit (.bool true)], args := [d] }
  | _ => none }
def replicaHighRow : OpenClaim := { program := "ytlpjgegbdmkmdaagreat", sum := "acefcefa3e8e14ea6323ef306d4a7ea1ecc0052c7e64beaa00a7efda46d8c3e5", func := "waystation/waystationlaw11.ReplicaHigh", spec := "replicaHigh", unfollowed := true, recurses := true, plainKeys := false, apart := false }
def ReplicaHighSaid : Prop := replicaHighRow.holds Tryz.pinned (OpenSpec.ofChange replicaHighSpec)

/-- ITS FALSE NEIGHBOUR: 'it returns false'. Refute it at one input. -/
def replicaHighWrong : ChangeSpec := { name := "replicaHigh", fn := fun _ => fun
  | [d] => { results := [.lit (.bool false)], args := [d] }
  | _ => none }
def ReplicaHighWrongFalsely : Prop := replicaHighRow.holds Tryz.pinned (OpenSpec.ofChange replicaHighWrong)

/-- 'waystationlaw11.ReplicaLearns': WHATEVER THE INPUT: true; the input reads as it did. -/
def replicaLearnsSpec : ChangeSpec := { name := "replicaLearns", fn := fun _ => fun
  | [d1, d2] => { results := [.lit (.bool true)], args := [d1, d2] }
  | _ => none }
def replicaLearnsRow : OpenClaim := { program := "ytlpjgegbdmkmdaagreat", sum := "acefcefa3e8e14ea6323ef306d4a7ea1ecc0052c7e64beaa00a7efda46d8c3e5", func := "waystation/waystationlaw11.ReplicaLearns", spec := "replicaLearns", unfollowed := true, recurses := true, plainKeys := false, apart := false }
def ReplicaLearnsSaid : Prop := replicaLearnsRow.holds Tryz.pinned (OpenSpec.ofChange replicaLearnsSpec)

/-- ITS FALSE NEIGHBOUR: 'it returns false'. Refute it at one input. -/
def replicaLearnsWrong : ChangeSpec := { name := "replicaLearns", fn := fun _ => fun
  | [d1, d2] => { results := [.lit (.bool false)], args := [d1, d2] }
  | _ => none }
def ReplicaLearnsWrongFalsely : Prop := replicaLearnsRow.holds Tryz.pinned (OpenSpec.ofChange replicaLearnsWrong)

/-- 'waystationlaw11.ReplicaAppends': WHATEVER THE INPUT: true; the input reads as it did. -/
def replicaAppendsSpec : ChangeSpec := { name := "replicaAppends", fn := fun _ => fun
  | [d] => { results := [.lit (.bool true)], args := [d] }
  | _ => none }
def replicaAppendsRow : OpenClaim := { program := "ytlpjgegbdmkmdaagreat", sum := "acefcefa3e8e14ea6323ef306d4a7ea1ecc0052c7e64beaa00a7efda46d8c3e5", func := "waystation/waystationlaw11.ReplicaAppends", spec := "replicaAppends", unfollowed := true, recurses := true, plainKeys := false, apart := false }
def ReplicaAppendsSaid : Prop := replicaAppendsRow.holds Tryz.pinned (OpenSpec.ofChange replicaAppendsSpec)

/-- ITS FALSE NEIGHBOUR: 'it returns false'. Refute it at one input. -/
def replicaAppendsWrong : ChangeSpec := { name := "replicaAppends", fn := fun _ => fun
  | [d] => { results := [.lit (.bool false)], args := [d] }
  | _ => none }
def ReplicaAppendsWrongFalsely : Prop := replicaAppendsRow.holds Tryz.pinned (OpenSpec.ofChange replicaAppendsWrong)

/-- 'waystationlaw11.ReplicaServes': WHATEVER THE INPUT: true; the input reads as it did. -/
def replicaServesSpec : ChangeSpec := { name := "replicaServes", fn := fun _ => fun
  | [d1, d2] => { results := [.lit (.bool true)], args := [d1, d2] }
  | _ => none }
def replicaServesRow : OpenClaim := { program := "ytlpjgegbdmkmdaagreat", sum := "acefcefa3e8e14ea6323ef306d4a7ea1ecc0052c7e64beaa00a7efda46d8c3e5", func := "waystation/waystationlaw11.ReplicaServes", spec := "replicaServes", unfollowed := true, recurses := true, plainKeys := false, apart := false }
def ReplicaServesSaid : Prop := replicaServesRow.holds Tryz.pinned (OpenSpec.ofChange replicaServesSpec)

/-- ITS FALSE NEIGHBOUR: 'it returns false'. Refute it at one input. -/
def replicaServesWrong : ChangeSpec := { name := "replicaServes", fn := fun _ => fun
  | [d1, d2] => { results := [.lit (.bool false)], args := [d1, d2] }
  | _ => none }
def ReplicaServesWrongFalsely : Prop := replicaServesRow.holds Tryz.pinned (OpenSpec.ofChange replicaServesWrong)

/-- 'waystationlaw11.ReplicaProposes': WHATEVER THE INPUT: true; the input reads as it did. -/
def replicaProposesSpec : ChangeSpec := { name := "replicaProposes", fn := fun _ => fun
  | [d1, d2] => { results := [.lit (.bool true)], args := [d1, d2] }
  | _ => none }
def replicaProposesRow : OpenClaim := { program := "ytlpjgegbdmkmdaagreat", sum := "acefcefa3e8e14ea6323ef306d4a7ea1ecc0052c7e64beaa00a7efda46d8c3e5", func := "waystation/waystationlaw11.ReplicaProposes", spec := "replicaProposes", unfollowed := true, recurses := true, plainKeys := false, apart := false }
def ReplicaProposesSaid : Prop := replicaProposesRow.holds Tryz.pinned (OpenSpec.ofChange replicaProposesSpec)

/-- ITS FALSE NEIGHBOUR: 'it returns false'. Refute it at one input. -/
def replicaProposesWrong : ChangeSpec := { name := "replicaProposes", fn := fun _ => fun
  | [d1, d2] => { results := [.lit (.bool false)], args := [d1, d2] }
  | _ => none }
def ReplicaProposesWrongFalsely : Prop := replicaProposesRow.holds Tryz.pinned (OpenSpec.ofChange replicaProposesWrong)

/-- 'waystationlaw11.ReplicaTakes': WHATEVER THE INPUT: true; the input reads as it did. -/
def replicaTakesSpec : ChangeSpec := { name := "replicaTakes", fn := fun _ => fun
  | [d] => { results := [.lit (.bool true)], args := [d] }
  | _ => none }
def replicaTakesRow : OpenClaim := { program := "ytlpjgegbdmkmdaagreat", sum := "acefcefa3e8e14ea6323ef306d4a7ea1ecc0052c7e64beaa00a7efda46d8c3e5", func := "waystation/waystationlaw11.ReplicaTakes", spec := "replicaTakes", unfollowed := true, recurses := true, plainKeys := false, apart := false }
def ReplicaTakesSaid : Prop := replicaTakesRow.holds Tryz.pinned (OpenSpec.ofChange replicaTakesSpec)

/-- ITS FALSE NEIGHBOUR: 'it returns false'. Refute it at one input. -/
def replicaTakesWrong : ChangeSpec := { name := "replicaTakes", fn := fun _ => fun
  | [d] => { results := [.lit (.bool false)], args := [d] }
  | _ => none }
def ReplicaTakesWrongFalsely : Prop := replicaTakesRow.holds Tryz.pinned (OpenSpec.ofChange replicaTakesWrong)

/-- 'waystationlaw11.ReplicaCrashes': WHATEVER THE INPUT: true; the input reads as it did. -/
def replicaCrashesSpec : ChangeSpec := { name := "replicaCrashes", fn := fun _ => fun
  | [d1, d2, d3] => { results := [.lit (.bool true)], args := [d1, d2, d3] }
  | _ => none }
def replicaCrashesRow : OpenClaim := { program := "ytlpjgegbdmkmdaagreat", sum := "acefcefa3e8e14ea6323ef306d4a7ea1ecc0052c7e64beaa00a7efda46d8c3e5", func := "waystation/waystationlaw11.ReplicaCrashes", spec := "replicaCrashes", unfollowed := true, recurses := true, plainKeys := false, apart := false }
def ReplicaCrashesSaid : Prop := replicaCrashesRow.holds Tryz.pinned (OpenSpec.ofChange replicaCrashesSpec)

/-- ITS FALSE NEIGHBOUR: 'it returns false'. Refute it at one input. -/
def replicaCrashesWrong : ChangeSpec := { name := "replicaCrashes", fn := fun _ => fun
  | [d1, d2, d3] => { results := [.lit (.bool false)], args := [d1, d2, d3] }
  | _ => none }
def ReplicaCrashesWrongFalsely : Prop := replicaCrashesRow.holds Tryz.pinned (OpenSpec.ofChange replicaCrashesWrong)

/-- 'waystationlaw11.ReplicaNil': WHATEVER THE INPUT: true; the input reads as it did. -/
def replicaNilSpec : ChangeSpec := { name := "replicaNil", fn := fun _ => fun
  | [d] => { results := [.lit (.bool true)], args := [d] }
  | _ => none }
def replicaNilRow : OpenClaim := { program := "ytlpjgegbdmkmdaagreat", sum := "acefcefa3e8e14ea6323ef306d4a7ea1ecc0052c7e64beaa00a7efda46d8c3e5", func := "waystation/waystationlaw11.ReplicaNil", spec := "replicaNil", unfollowed := true, recurses := true, plainKeys := false, apart := false }
def ReplicaNilSaid : Prop := replicaNilRow.holds Tryz.pinned (OpenSpec.ofChange replicaNilSpec)

/-- ITS FALSE NEIGHBOUR: 'it returns false'. Refute it at one input. -/
def replicaNilWrong : ChangeSpec := { name := "replicaNil", fn := fun _ => fun
  | [d] => { results := [.lit (.bool false)], args := [d] }
  | _ => none }
def ReplicaNilWrongFalsely : Prop := replicaNilRow.holds Tryz.pinned (OpenSpec.ofChange replicaNilWrong)

/- THE SECOND FORM. 'bulk': how many values and letters a reading holds, each counted each time it is reached (what is shared counts as often as it is met; a slice's spare places count too). A statement '..UptoSaid' is the law's where the arguments, and the package variables that the reading takes, are together of bulk at most 1048576: NARROWER than '..Said'. Prove '..Said' where nothing that the law and all that it calls make is longer than what came in: it says more and counts as full. Else prove '..UptoSaid'. A law counts once. -/
mutual
def uptoBulk {H : Type} : DataW H → Nat
  | .lit (.string bytes) => bytes.length + 1
  | .lit _ => 1
  | .nil => 1
  | .ptr d => uptoBulk d + 1
  | .slice elems spare => uptoBulkAll elems + uptoBulkAll spare + 1
  | .agg parts => uptoBulkAll parts + 1
  | .iface _ d => uptoBulk d + 1
  | .map entries => uptoBulkEntries entries + 1
  | .held _ => 1
def uptoBulkAll {H : Type} : List (DataW H) → Nat
  | [] => 0
  | d :: r => uptoBulk d + uptoBulkAll r
def uptoBulkEntries {H : Type} : List (Lit × DataW H) → Nat
  | [] => 0
  | x :: r => uptoBulkEntry x + uptoBulkEntries r
def uptoBulkEntry {H : Type} : Lit × DataW H → Nat
  | (.string bytes, d) => bytes.length + uptoBulk d + 1
  | (_, d) => uptoBulk d + 1
 end
def uptoSmall : (H : Type) → List (DataW H) → Bool := fun _ ds => decide (uptoBulkAll ds ≤ 1048576)
def OpenSpec.upto (s : _root_.Go.ChangeSpec) : _root_.Go.OpenSpec := { _root_.Go.OpenSpec.ofChange s with cond := some uptoSmall }

/-- 'waystationlaw11.ReplicaHigh', WHERE WHAT IT READS IS OF BULK AT MOST 1048576: true; the input reads as it did. -/
def replicaHighUptoRow : OpenClaim := { program := "ytlpjgegbdmkmdaagreat", sum := "acefcefa3e8e14ea6323ef306d4a7ea1ecc0052c7e64beaa00a7efda46d8c3e5", func := "waystation/waystationlaw11.ReplicaHigh", spec := "replicaHigh", unfollowed := true, recurses := true, plainKeys := false, apart := false, narrowed := true }
def ReplicaHighUptoSaid : Prop := replicaHighUptoRow.holds Tryz.pinned (OpenSpec.upto replicaHighSpec)

/-- 'waystationlaw11.ReplicaLearns', WHERE WHAT IT READS IS OF BULK AT MOST 1048576: true; the input reads as it did. -/
def replicaLearnsUptoRow : OpenClaim := { program := "ytlpjgegbdmkmdaagreat", sum := "acefcefa3e8e14ea6323ef306d4a7ea1ecc0052c7e64beaa00a7efda46d8c3e5", func := "waystation/waystationlaw11.ReplicaLearns", spec := "replicaLearns", unfollowed := true, recurses := true, plainKeys := false, apart := false, narrowed := true }
def ReplicaLearnsUptoSaid : Prop := replicaLearnsUptoRow.holds Tryz.pinned (OpenSpec.upto replicaLearnsSpec)

/-- 'waystationlaw11.ReplicaAppends', WHERE WHAT IT READS IS OF BULK AT MOST 1048576: true; the input reads as it did. -/
def replicaAppendsUptoRow : OpenClaim := { program := "ytlpjgegbdmkmdaagreat", sum := "acefcefa3e8e14ea6323ef306d4a7ea1ecc0052c7e64beaa00a7efda46d8c3e5", func := "waystation/waystationlaw11.ReplicaAppends", spec := "replicaAppends", unfollowed := true, recurses := true, plainKeys := false, apart := false, narrowed := true }
def ReplicaAppendsUptoSaid : Prop := replicaAppendsUptoRow.holds Tryz.pinned (OpenSpec.upto replicaAppendsSpec)

/-- 'waystationlaw11.ReplicaServes', WHERE WHAT IT READS IS OF BULK AT MOST 1048576: true; the input reads as it did. -/
def replicaServesUptoRow : OpenClaim := { program := "ytlpjgegbdmkmdaagreat", sum := "acefcefa3e8e14ea6323ef306d4a7ea1ecc0052c7e64beaa00a7efda46d8c3e5", func := "waystation/waystationlaw11.ReplicaServes", spec := "replicaServes", unfollowed := true, recurses := true, plainKeys := false, apart := false, narrowed := true }
def ReplicaServesUptoSaid : Prop := replicaServesUptoRow.holds Tryz.pinned (OpenSpec.upto replicaServesSpec)

/-- 'waystationlaw11.ReplicaProposes', WHERE WHAT IT READS IS OF BULK AT MOST 1048576: true; the input reads as it did. -/
def replicaProposesUptoRow : OpenClaim := { program := "ytlpjgegbdmkmdaagreat", sum := "acefcefa3e8e14ea6323ef306d4a7ea1ecc0052c7e64beaa00a7efda46d8c3e5", func := "waystation/waystationlaw11.ReplicaProposes", spec := "replicaProposes", unfollowed := true, recurses := true, plainKeys := false, apart := false, narrowed := true }
def ReplicaProposesUptoSaid : Prop := replicaProposesUptoRow.holds Tryz.pinned (OpenSpec.upto replicaProposesSpec)

/-- 'waystationlaw11.ReplicaTakes', WHERE WHAT IT READS IS OF BULK AT MOST 1048576: true; the input reads as it did. -/
def replicaTakesUptoRow : OpenClaim := { program := "ytlpjgegbdmkmdaagreat", sum := "acefcefa3e8e14ea6323ef306d4a7ea1ecc0052c7e64beaa00a7efda46d8c3e5", func := "waystation/waystationlaw11.ReplicaTakes", spec := "replicaTakes", unfollowed := true, recurses := true, plainKeys := false, apart := false, narrowed := true }
def ReplicaTakesUptoSaid : Prop := replicaTakesUptoRow.holds Tryz.pinned (OpenSpec.upto replicaTakesSpec)

/-- 'waystationlaw11.ReplicaCrashes', WHERE WHAT IT READS IS OF BULK AT MOST 1048576: true; the input reads as it did. -/
def replicaCrashesUptoRow : OpenClaim := { program := "ytlpjgegbdmkmdaagreat", sum := "acefcefa3e8e14ea6323ef306d4a7ea1ecc0052c7e64beaa00a7efda46d8c3e5", func := "waystation/waystationlaw11.ReplicaCrashes", spec := "replicaCrashes", unfollowed := true, recurses := true, plainKeys := false, apart := false, narrowed := true }
def ReplicaCrashesUptoSaid : Prop := replicaCrashesUptoRow.holds Tryz.pinned (OpenSpec.upto replicaCrashesSpec)

/-- 'waystationlaw11.ReplicaNil', WHERE WHAT IT READS IS OF BULK AT MOST 1048576: true; the input reads as it did. -/
def replicaNilUptoRow : OpenClaim := { program := "ytlpjgegbdmkmdaagreat", sum := "acefcefa3e8e14ea6323ef306d4a7ea1ecc0052c7e64beaa00a7efda46d8c3e5", func := "waystation/waystationlaw11.ReplicaNil", spec := "replicaNil", unfollowed := true, recurses := true, plainKeys := false, apart := false, narrowed := true }
def ReplicaNilUptoSaid : Prop := replicaNilUptoRow.holds Tryz.pinned (OpenSpec.upto replicaNilSpec)

end Rows
end Go.Proofs.YtlpjgegbdmkmdaaGreat
