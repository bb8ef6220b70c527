/- The function ReplicaLearns of waystationlaw11 returns true at every input, and what was handed in reads as before; no condition. -/
import Derived.Test.YtlpjgegbdmkmdaaGreatBa03
import Derived.Test.YtlpjgegbdmkmdaaGreatBa27
import Derived.Test.YtlpjgegbdmkmdaaGreatKReplicaLearns00
namespace Go.Proofs.YtlpjgegbdmkmdaaGreat
open Go Go.RowKit Go.Proofs Go.Ws Go.ChangeShapes Go.WideShapes Go.ChangeAt
set_option linter.unusedVariables false
set_option maxRecDepth 100000
theorem replicaLearns_lifted (os : Os) (started : os.Started) (H : Type) (enc : TypeId × Value → H) :
    ReturnsInHanded {} Tryz.checked os 4 .any (Rows.replicaLearnsSpec.pre6 enc Tryz.prog Tryz.f4 Rows.replicaLearnsRow.domain false) (Rows.replicaLearnsSpec.post enc Tryz.prog Tryz.f4 false true false false) := by
  refine returnsInHanded_of_change (C := Tryz.checked) ownKn started (by kernel_rfl) Tryz.func4
    (ChangeSpec.witness6 (enc := enc) (C := Tryz.checked) false ⟨#[], #[.int .i64 0, .slice none 0 0], []⟩ 8 (by kernel_rfl) (by kernel_rfl) (by kernel_rfl) (by kernel_rfl)) ?_
  intro W base args ds gs before hval0 hW hcnd _
  have hval : ∀ (j : Nat) t v, Tryz.f4.params[j]? = some t → args[j]? = some v → Value.okWide Tryz.prog W .any base t v := hval0
  have hW' := hW
  obtain ⟨p, q, hA0, hV, rfl, hfz, hnd⟩ := hW
  have hA : DataW.TrodAll enc Tryz.prog W 0 (fun _ => true) true Tryz.f4.params.toList args.toList ds p := hA0
  rw [Tryz.params4] at hA hval
  obtain ⟨v0, v1, d0, d1, p0, p1, rfl, rfl, rfl, h0, h1⟩ := trodAll_two hA
  obtain ⟨rfl, rfl⟩ := trodVars_none hV
  obtain ⟨a0, rfl, rfl, rfl, w0⟩ := open_int Tryz.underlying3 (hval 0 3 v0 rfl rfl) h0
  have lt1 : ∀ x ∈ p1, x.block < W.heap.size := by obtain ⟨m, hm⟩ := h1; exact DataW.trod_lt m _ _ _ hm
  have k1 := h1
  obtain ⟨l1, r1, i1⟩ := open_quads (hval 1 53 v1 rfl rfl) h1
  clear hA0 hval0
  refine (Fn.calls (learns_calls a0 l1 v1 W r1 i1)).mono fun e W' hR => ?_
  obtain ⟨wz, hE0, hR⟩ := hR
  cases e with
  | returned v =>
    obtain ⟨rfl, hE⟩ := hR
    have bel := (Ext.trans hE hE0).below
    exact ⟨_, rfl, _, _, _, [], _, [], hW', trodAll_mk1 (shut_bool Tryz.underlying4 _), trodAll_mk2 (shut_int Tryz.underlying3 w0) (Below.trod laidOut (by kernel_rfl) (of_decide_eq_true (by kernel_rfl)) k1 bel lt1), rfl, bel.frame _, fun h => by cases h⟩
  | panicked c => exact hR.elim
  | outgrown => exact hR.elim
theorem replicaLearns_closed : joinedFacts Tryz.prog 4 Tryz.f4 Rows.replicaLearnsSpec Rows.replicaLearnsRow = true :=
  joined_of (by kernel_rfl) laidOut mapsRow (by kernel_rfl) (by kernel_rfl) rfl stopsIs rfl stopKnobsIs (by kernel_rfl) (by kernel_rfl) (by kernel_rfl) (by kernel_rfl) (by kernel_rfl) (by kernel_rfl) (by kernel_rfl) (by kernel_rfl) (by kernel_rfl) (by kernel_rfl) (by kernel_rfl) (by kernel_rfl) (by kernel_rfl) (by rw [plainKeysIs]; rfl) rfl stopsHeardIs mayEnter (by rw [liftsFinal]; rfl) (by rw [makeIs]; rfl) (by kernel_rfl) (by kernel_rfl) (by kernel_rfl) (by kernel_rfl)
theorem replicaLearns_holds : Rows.ReplicaLearnsSaid :=
  OpenClaim.holds_of_wide 4 Tryz.f4 rfl rfl rfl rfl rfl rfl rfl ⟨rfl, rfl, rfl, rfl, rfl⟩ rfl rfl rfl rfl rfl (by kernel_rfl) Tryz.func4 replicaLearns_closed
    (of_decide_eq_true (by kernel_rfl)) (by unfold Func.isWrapper; first | (rw [if_pos (by decide +kernel)]; kernel_rfl) | (rw [if_neg (by decide +kernel)]; exact ⟨rfl, rfl⟩))
    (fun os started H enc _ => replicaLearns_lifted os started H enc)
#print axioms replicaLearns_holds
end Go.Proofs.YtlpjgegbdmkmdaaGreat
