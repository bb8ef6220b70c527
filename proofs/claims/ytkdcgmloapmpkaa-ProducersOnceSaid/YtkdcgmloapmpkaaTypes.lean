import Derived.Test.YtkdcgmloapmpkaaProg
import Derived.Test.YtkdcgmloapmpkaaFork
namespace Go.Ws
open Go Go.RowKit Go.Proofs
set_option linter.unusedVariables false

structure Opn where
  num : Int
  first : Int
  deriving DecidableEq, Inhabited
def Opn.cs (o : Opn) : List Value := [.int .i64 o.num, .int .i64 o.first]
theorem Opn.len (o : Opn) : o.cs.length = 2 := rfl
theorem Ent.len (o : Ent) : o.cs.length = 6 := rfl
theorem Rd.opn {w : World} {v : Value} {l : List Opn} (h : Rd Opn.cs 2 w v l) : ∃ A c, v = .slice A l.length c ∧ l.length ≤ c ∧ c ≤ 9223372036854775807 ∧
    Hid (∀ i, i < l.length → ∃ e b o, Hid (l[i]? = some e) ∧ A = some ⟨b, o, none⟩ ∧ b < w.heap.size ∧ w.cell? ⟨b, o + i * 2, none⟩ = some (.int .i64 e.num) ∧ w.cell? ⟨b, o + i * 2 + 1, none⟩ = some (.int .i64 e.first)) := by
  obtain ⟨A, c, h1, h2, h3, h4⟩ := h
  refine ⟨A, c, h1, h2, h3, fun i hi => ?_⟩
  have he : l[i]? = some l[i] := by simp [hi]
  rcases h4 with ⟨_, rfl⟩ | ⟨b, o, hA, hb, hr⟩
  · simp at hi
  · exact ⟨l[i], b, o, he, hA, hb, hr i _ he 0 _ rfl, hr i _ he 1 _ rfl⟩
abbrev ics (n : Int) : List Value := [.int .i64 n]
theorem Rd.int {w : World} {v : Value} {l : List Int} (h : Rd ics 1 w v l) : ∃ A c, v = .slice A l.length c ∧ l.length ≤ c ∧ c ≤ 9223372036854775807 ∧
    Hid (∀ i, i < l.length → ∃ e b o, Hid (l[i]? = some e) ∧ A = some ⟨b, o, none⟩ ∧ b < w.heap.size ∧ w.cell? ⟨b, o + i, none⟩ = some (.int .i64 e)) := by
  obtain ⟨A, c, h1, h2, h3, h4⟩ := h
  refine ⟨A, c, h1, h2, h3, fun i hi => ?_⟩
  have he : l[i]? = some l[i] := by simp [hi]
  rcases h4 with ⟨_, rfl⟩ | ⟨b, o, hA, hb, hr⟩
  · simp at hi
  · have := hr i _ he 0 _ rfl
    exact ⟨l[i], b, o, he, hA, hb, by simpa using this⟩
theorem infoOpn : (Try.prog.info? 68).map (fun i => (i.zero, i.size, i.bytes)) = some (some (.agg #[.int .i64 0, .int .i64 0]), 2, 16) := by kernel_rfl
theorem infoEnt : (Try.prog.info? 39).map (fun i => (i.zero, i.size, i.bytes)) = some (some (.agg #[.int .i64 0, .int .i64 0, .int .i64 0, .int .i64 0, .int .i64 0, .int .i64 0]), 6, 48) := by kernel_rfl
theorem infoInt : (Try.prog.info? 3).map (fun i => (i.zero, i.size, i.bytes)) = some (some (.int .i64 0), 1, 8) := by kernel_rfl
theorem infoI64 : (Try.prog.info? 2).map (fun i => (i.zero, i.size, i.bytes)) = some (some (.int .i64 0), 1, 8) := by kernel_rfl
theorem elemOpn : Elem Try.prog Opn.cs 2 61 68 16 := ⟨Opn.len, fun x u h => by simp [Opn.cs] at h; rcases h with rfl | rfl <;> rfl, Try.underlying61, by decide, _, infoOpn, rfl⟩
theorem elemEnt : Elem Try.prog Ent.cs 6 22 39 48 := ⟨Ent.len, fun x u h => by simp [Ent.cs] at h; rcases h with rfl | rfl | rfl | rfl | rfl | rfl <;> rfl, Try.underlying22, by decide, _, infoEnt, rfl⟩
theorem elemInt : Elem Try.prog ics 1 24 3 8 := ⟨fun _ => rfl, fun x u h => by simp [ics] at h; subst h; rfl, Try.underlying24, by decide, _, infoInt, rfl⟩
theorem elemI64 : Elem Try.prog ics 1 77 2 8 := ⟨fun _ => rfl, fun x u h => by simp [ics] at h; subst h; rfl, Try.underlying77, by decide, _, infoI64, rfl⟩
theorem eqGuardEnt (ox oy : Operand) (a b : Array Value) (w : World) : (eqGuard .neq 39 ox oy (.agg a) (.agg b)).run Try.prog w = .ok () w := by
  have hg : Try.prog.eqGuardType Try.prog.depth 39 = false := by kernel_rfl
  simp [eqGuard, program, Sem.run, hg]
set_option maxHeartbeats 1000000 in
theorem equalEnt (x y : Ent) (w : World) : (Op.equal 39 x.v y.v).run Try.prog w = .ok (decide (x = y)) w := by
  have hst : Try.prog.stoodInHeld 39 = false := by kernel_rfl
  have key : ∀ (t : TypeId), Try.prog.underlying t = some (.int .i64) → ∀ (a b : Int) (cs ds : Array Value) (i : Nat) (w : World), cs[i]? = some (.int .i64 a) → ds[i]? = some (.int .i64 b) →
      (part t cs i).run Try.prog w = .ok (.int .i64 a) w ∧ (part t ds i).run Try.prog w = .ok (.int .i64 b) w ∧ (Op.equalIn 9999 t (.int .i64 a) (.int .i64 b)).run Try.prog w = .ok (a == b) w :=
    fun t ht a b cs ds i w h1 h2 => ⟨part_int ht cs i _ w h1, part_int ht ds i _ w h2, equalIn_int ht 9998 a b w⟩
  obtain ⟨a0, a1, a2, a3, a4, a5⟩ := x
  obtain ⟨b0, b1, b2, b3, b4, b5⟩ := y
  have k0 := key 2 Try.underlying2 a0 b0 #[.int .i64 a0, .int .i64 a1, .int .i64 a2, .int .i64 a3, .int .i64 a4, .int .i64 a5] #[.int .i64 b0, .int .i64 b1, .int .i64 b2, .int .i64 b3, .int .i64 b4, .int .i64 b5] 0 w rfl rfl
  have k1 := key 3 Try.underlying3 a1 b1 #[.int .i64 a0, .int .i64 a1, .int .i64 a2, .int .i64 a3, .int .i64 a4, .int .i64 a5] #[.int .i64 b0, .int .i64 b1, .int .i64 b2, .int .i64 b3, .int .i64 b4, .int .i64 b5] 1 w rfl rfl
  have k2 := key 2 Try.underlying2 a2 b2 #[.int .i64 a0, .int .i64 a1, .int .i64 a2, .int .i64 a3, .int .i64 a4, .int .i64 a5] #[.int .i64 b0, .int .i64 b1, .int .i64 b2, .int .i64 b3, .int .i64 b4, .int .i64 b5] 2 w rfl rfl
  have k3 := key 2 Try.underlying2 a3 b3 #[.int .i64 a0, .int .i64 a1, .int .i64 a2, .int .i64 a3, .int .i64 a4, .int .i64 a5] #[.int .i64 b0, .int .i64 b1, .int .i64 b2, .int .i64 b3, .int .i64 b4, .int .i64 b5] 3 w rfl rfl
  have k4 := key 37 Try.underlying37 a4 b4 #[.int .i64 a0, .int .i64 a1, .int .i64 a2, .int .i64 a3, .int .i64 a4, .int .i64 a5] #[.int .i64 b0, .int .i64 b1, .int .i64 b2, .int .i64 b3, .int .i64 b4, .int .i64 b5] 4 w rfl rfl
  have k5 := key 2 Try.underlying2 a5 b5 #[.int .i64 a0, .int .i64 a1, .int .i64 a2, .int .i64 a3, .int .i64 a4, .int .i64 a5] #[.int .i64 b0, .int .i64 b1, .int .i64 b2, .int .i64 b3, .int .i64 b4, .int .i64 b5] 5 w rfl rfl
  unfold Op.equal Op.maxDepth
  rw [show (10000 : Nat) = 9999 + 1 from rfl, Op.equalIn]
  simp only [Sem.run_bind, run_underlying Try.underlying39, Result.andThen_ok, program, Sem.run, hst]
  by_cases h0 : a0 = b0
  rotate_left; · simp [k0, h0]
  subst h0
  by_cases h1 : a1 = b1
  rotate_left; · simp [k0, k1, h1]
  subst h1
  by_cases h2 : a2 = b2
  rotate_left; · simp [k0, k1, k2, h2]
  subst h2
  by_cases h3 : a3 = b3
  rotate_left; · simp [k0, k1, k2, k3, h3]
  subst h3
  by_cases h4 : a4 = b4
  rotate_left; · simp [k0, k1, k2, k3, k4, h4]
  subst h4
  by_cases h5 : a5 = b5
  rotate_left; · simp [k0, k1, k2, k3, k4, k5, h5]
  subst h5
  simp [k0, k1, k2, k3, k4, k5]
theorem neqEnt (x y : Ent) (w : World) : (binOp .neq 39 x.v y.v).run Try.prog w = .ok (.bool (decide (x ≠ y))) w := by
  have h := equalEnt x y w
  have e : binOp .neq 39 x.v y.v = (do pure (.bool (!(← Op.equal 39 x.v y.v)))) := rfl
  rw [e]
  simp only [Sem.run_bind, h, Result.andThen_ok, Sem.run_pure]
  rw [← decide_not]
abbrev OwnE := Own Ent.cs 6 39
abbrev OwnI := Own ics 1 3
end Go.Ws
