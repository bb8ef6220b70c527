/- The function ReplicaCrashes of waystationlaw11 returns true at every input, and what was handed in reads as before; no condition. -/
import Derived.WalkKit
import Derived.Lib.Hide
import Derived.Deep.QuietTactic
import Derived.BigQuiet
import Derived.StillTail
import Derived.OrdersIn
import Derived.RangeFuncNested
import Derived.RangeFuncBound
import Derived.RangeFuncCalls
import Derived.RangeFuncLeaves
import Derived.Deep.DeepFit
import Derived.Test.YtlpjgegbdmkmdaaGreatProg
import Derived.Test.YtlpjgegbdmkmdaaGreatRows
import Derived.ProofKit
import Derived.OpenShut
import Derived.Deep.Slices
import Derived.Below
import Derived.DefersIn
import Derived.RecoverIn
import Derived.Maps.RangeRun
import Derived.Deep.MidRow
import Derived.Scope
import Derived.ScopeJumps
import Derived.Test.YtlpjgegbdmkmdaaGreatBa00
import Derived.Test.YtlpjgegbdmkmdaaGreatBa01
import Derived.Test.YtlpjgegbdmkmdaaGreatBa02
import Derived.Test.YtlpjgegbdmkmdaaGreatBa03
import Derived.Test.YtlpjgegbdmkmdaaGreatBa04
import Derived.Test.YtlpjgegbdmkmdaaGreatBa05
import Derived.Test.YtlpjgegbdmkmdaaGreatBa06
import Derived.Test.YtlpjgegbdmkmdaaGreatBa07
import Derived.Test.YtlpjgegbdmkmdaaGreatBa08
import Derived.Test.YtlpjgegbdmkmdaaGreatBa09
import Derived.Test.YtlpjgegbdmkmdaaGreatBa10
import Derived.Test.YtlpjgegbdmkmdaaGreatBa11
import Derived.Test.YtlpjgegbdmkmdaaGreatBa12
import Derived.Test.YtlpjgegbdmkmdaaGreatBa13
import Derived.Test.YtlpjgegbdmkmdaaGreatBa14
import Derived.Test.YtlpjgegbdmkmdaaGreatBa15
import Derived.Test.YtlpjgegbdmkmdaaGreatBa16
import Derived.Test.YtlpjgegbdmkmdaaGreatBa17
import Derived.Test.YtlpjgegbdmkmdaaGreatBa18
import Derived.Test.YtlpjgegbdmkmdaaGreatBa19
import Derived.Test.YtlpjgegbdmkmdaaGreatBa20
import Derived.Test.YtlpjgegbdmkmdaaGreatBa21
import Derived.Test.YtlpjgegbdmkmdaaGreatBa22
import Derived.Test.YtlpjgegbdmkmdaaGreatBa23
import Derived.Test.YtlpjgegbdmkmdaaGreatBa24
import Derived.Test.YtlpjgegbdmkmdaaGreatBa25
import Derived.Test.YtlpjgegbdmkmdaaGreatBa26
import Derived.Test.YtlpjgegbdmkmdaaGreatBa27
import Derived.Test.YtlpjgegbdmkmdaaGreatKReplicaCrashes00
namespace Go.Proofs.YtlpjgegbdmkmdaaGreat
open Go Go.RowKit Go.Proofs Go.Ws Go.ChangeShapes Go.WideShapes Go.ChangeAt
set_option linter.unusedVariables false
set_option maxRecDepth 100000
theorem replicaCrashes_lifted (os : Os) (started : os.Started) (H : Type) (enc : TypeId × Value → H) :
    ReturnsInHanded {} Tryz.checked os 9 .any (Rows.replicaCrashesSpec.pre6 enc Tryz.prog Tryz.f9 Rows.replicaCrashesRow.domain false) (Rows.replicaCrashesSpec.post enc Tryz.prog Tryz.f9 false true false false) := by
  refine returnsInHanded_of_change (C := Tryz.checked) ownKn started (by kernel_rfl) Tryz.func9
    (ChangeSpec.witness6 (enc := enc) (C := Tryz.checked) false ⟨#[], #[.int .u8 0, .int .u8 0, .int .i64 0], []⟩ 8 (by kernel_rfl) (by kernel_rfl) (by kernel_rfl) (by kernel_rfl)) ?_
  intro W base args ds gs before hval0 hW hcnd _
  have hval : ∀ (j : Nat) t v, Tryz.f9.params[j]? = some t → args[j]? = some v → Value.okWide Tryz.prog W .any base t v := hval0
  have hW' := hW
  obtain ⟨p, q, hA0, hV, rfl, hfz, hnd⟩ := hW
  have hA : DataW.TrodAll enc Tryz.prog W 0 (fun _ => true) true Tryz.f9.params.toList args.toList ds p := hA0
  rw [Tryz.params9] at hA hval
  obtain ⟨v0, v1, v2, d0, d1, d2, p0, p1, p2, rfl, rfl, rfl, h0, h1, h2⟩ := trodAll_three hA
  obtain ⟨rfl, rfl⟩ := trodVars_none hV
  obtain ⟨a0, rfl, rfl, rfl, w0⟩ := open_int Tryz.underlying5 (hval 0 5 v0 rfl rfl) h0
  obtain ⟨a1, rfl, rfl, rfl, w1⟩ := open_int Tryz.underlying5 (hval 1 5 v1 rfl rfl) h1
  obtain ⟨a2, rfl, rfl, rfl, w2⟩ := open_int Tryz.underlying3 (hval 2 3 v2 rfl rfl) h2
  clear hA0 hval0
  refine (Fn.calls (crashes_calls a0 a1 a2 W (wf_u8 w0) (wf_u8 w1))).mono fun e W' hR => ?_
  obtain ⟨wz, hE0, hR⟩ := hR
  cases e with
  | returned v =>
    obtain ⟨rfl, hE⟩ := hR
    have bel := (Ext.trans hE hE0).below
    exact ⟨_, rfl, _, _, _, [], _, [], hW', trodAll_mk1 (shut_bool Tryz.underlying4 _), trodAll_mk3 (shut_int Tryz.underlying5 w0) (shut_int Tryz.underlying5 w1) (shut_int Tryz.underlying3 w2), rfl, bel.frame _, fun h => by cases h⟩
  | panicked c => exact hR.elim
  | outgrown => exact hR.elim
theorem replicaCrashes_closed : joinedFacts Tryz.prog 9 Tryz.f9 Rows.replicaCrashesSpec Rows.replicaCrashesRow = true :=
  joined_of (by kernel_rfl) laidOut mapsRow (by kernel_rfl) (by kernel_rfl) rfl stopsIs rfl stopKnobsIs (by kernel_rfl) (by kernel_rfl) (by kernel_rfl) (by kernel_rfl) (by kernel_rfl) (by kernel_rfl) (by kernel_rfl) (by kernel_rfl) (by kernel_rfl) (by kernel_rfl) (by kernel_rfl) (by kernel_rfl) (by kernel_rfl) (by rw [plainKeysIs]; rfl) rfl stopsHeardIs mayEnter (by rw [liftsFinal]; rfl) (by rw [makeIs]; rfl) (by kernel_rfl) (by kernel_rfl) (by kernel_rfl) (by kernel_rfl)
theorem replicaCrashes_holds : Rows.ReplicaCrashesSaid :=
  OpenClaim.holds_of_wide 9 Tryz.f9 rfl rfl rfl rfl rfl rfl rfl ⟨rfl, rfl, rfl, rfl, rfl⟩ rfl rfl rfl rfl rfl (by kernel_rfl) Tryz.func9 replicaCrashes_closed
    (of_decide_eq_true (by kernel_rfl)) (by unfold Func.isWrapper; first | (rw [if_pos (by decide +kernel)]; kernel_rfl) | (rw [if_neg (by decide +kernel)]; exact ⟨rfl, rfl⟩))
    (fun os started H enc _ => replicaCrashes_lifted os started H enc)
#print axioms replicaCrashes_holds
end Go.Proofs.YtlpjgegbdmkmdaaGreat
