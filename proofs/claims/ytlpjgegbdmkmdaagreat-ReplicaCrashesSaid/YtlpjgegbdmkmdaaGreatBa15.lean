/- Lemmas for the statements of this layer (joined texts); no condition. -/
import Derived.Test.YtlpjgegbdmkmdaaGreatBa06
import Derived.Test.YtlpjgegbdmkmdaaGreatBa14
namespace Go.Ws
open Go Go.RowKit Go.Proofs
set_option maxHeartbeats 2000000
set_option maxRecDepth 100000
set_option linter.unusedVariables false
set_option linter.unusedSimpArgs false

/-! ### End and Cut -/
theorem mayFrom_ge : ∀ (l : List Ent) (p : Int), mayFrom p l = true → ∀ e ∈ l, p ≤ e.ep := by
  intro l
  induction l with
  | nil => intro p _ e he; cases he
  | cons x xs ih =>
    intro p h e he
    rw [mayFrom_cons] at h
    simp only [Bool.and_eq_true, decide_eq_true_eq] at h
    rcases List.mem_cons.1 he with rfl | he
    · exact h.1.1
    · have := ih x.ep h.2 e he; omega
theorem above_iff : ∀ (l : List Ent) (p ep : Int), mayFrom p l = true → ∀ (k : Nat) e, l[k]? = some e → (e.ep ≤ ep ↔ k < aboveE l ep) := by
  intro l
  induction l with
  | nil => intro p ep _ k e he; cases he
  | cons x xs ih =>
    intro p ep h k e he
    rw [mayFrom_cons] at h
    simp only [Bool.and_eq_true, decide_eq_true_eq] at h
    rw [aboveE_cons]
    by_cases hx : ep < x.ep
    · rw [if_pos hx]
      have : x.ep ≤ e.ep := by
        cases k with
        | zero => cases he; exact Int.le_refl _
        | succ k => exact mayFrom_ge xs x.ep h.2 e (List.mem_of_getElem? (by simpa using he))
      exact ⟨fun h => by omega, fun h => by omega⟩
    · rw [if_neg hx]
      cases k with
      | zero => cases he; exact ⟨fun _ => by omega, fun _ => by omega⟩
      | succ k =>
        have := ih x.ep ep h.2 k e (by simpa using he)
        rw [this]; omega
theorem above_le (l : List Ent) (ep : Int) : aboveE l ep ≤ l.length := by
  unfold aboveE
  exact (List.takeWhile_sublist _).length_le
theorem last_take {l : List Ent} {k : Nat} {e : Ent} (h : l[k]? = some e) : lastE (l.take (k + 1)) = e.ep := by
  have hk : k < l.length := (List.getElem?_eq_some_iff.1 h).1
  unfold lastE
  rw [List.getLast?_eq_getElem?, List.length_take, Nat.min_eq_left (by omega), List.getElem?_take, if_pos (by omega), Nat.add_sub_cancel, h]; rfl
theorem end7_calls (l : List Ent) (v : Value) (ep : Int) (w : World) (hl : RdE w v l) (hm : mayE l = true) : Pure Tryz.prog 81 #[v, .int .i64 ep] w (.tuple #[.int .i64 (lastE (l.take (aboveE l ep))), .int .i64 (aboveE l ep)]) := by
  obtain ⟨A0, c, rfl, hc, hcm, HR⟩ := hl.ent
  clear hl
  have hm1 : mayFrom 1 l = true := by unfold mayE at hm; rw [Bool.and_eq_true] at hm; exact hm.1
  have HI := Lib.hid (above_iff l 1 ep hm1)
  have hln := Lib.hid (above_le l ep)
  clear hm hm1
  refine Fn_of Tryz.func81 rfl (Nat.le_of_ble_eq_true rfl) ?_; intro A hd hA; simp only [ix, Nat.reduceAdd]; replace hA : A.tmps.size = 31 := hA
  repeat' (first | refine X_q ?_ | refine X_nil ?_ | refine W_seqk (fun K hK => ?_) | refine W_seqr ?_ | refine W_block ?_ | go_step)
  refine W_loops [0, 1, 6, 7, 8] (fun n vs w' => ∃ k : Nat, w' = w ∧ k + n = l.length ∧ vs = [.slice A0 l.length c, .int .i64 ep, .int .i64 (lastE (l.take (min k (aboveE l ep)))), .int .i64 ((min k (aboveE l ep) : Nat) : Int), .int .i64 k]) l.length hd hA (by decide) ⟨0, rfl, by omega, by simp [lastE]⟩ ?_
  clear hd hA A; intro n vs B w' hd hA _ ⟨k, hw, hk, hvs⟩; subst hw hvs
  simp only [List.zip_cons_cons, List.zip_nil_right, List.zip_nil_left]
  by_cases hlt : k < l.length
  · obtain ⟨e, b, o, HE, rfl, hb, c0, -⟩ := HR.out k hlt
    have hki : (k : Int) < l.length := by omega
    have HI1 := Lib.hid (HI.out k e HE.out)
    by_cases hle : e.ep ≤ ep
    · have hab : k < aboveE l ep := HI1.out.1 hle
      have HAB := Lib.hid hab
      clear hab
      repeat' (first | refine X_q ?_ | refine X_nil ?_ | refine W_seqk (fun K hK => ?_) | refine W_seqr ?_ | refine W_skip ?_ | refine W_block ?_ | refine W_tt ?_ | go_step)
      exact ⟨_, _, rfl, hd, hA, n - 1, by omega, k + 1, trivial, by omega, by rw [Nat.min_eq_left (show k + 1 ≤ aboveE l ep from HAB.out), last_take HE.out]; simp⟩
    · have hab : ¬ k < aboveE l ep := fun h => hle (HI1.out.2 h)
      have HAB := Lib.hid hab
      clear hab
      repeat' (first | refine X_q ?_ | refine X_nil ?_ | refine W_seqk (fun K hK => ?_) | refine W_seqr ?_ | refine W_skip ?_ | refine W_block ?_ | refine W_tt ?_ | refine W_ff ?_ | go_step)
      exact ⟨_, _, rfl, hd, hA, n - 1, by omega, k + 1, trivial, by omega, by rw [Nat.min_eq_right (show aboveE l ep ≤ k by have := HAB.out; omega), Nat.min_eq_right (show aboveE l ep ≤ k + 1 by have := HAB.out; omega)]; simp⟩
  · obtain rfl : k = l.length := by omega
    repeat' (first | refine X_q ?_ | refine X_nil ?_ | refine W_seqk (fun K hK => ?_) | refine W_seqr ?_ | refine W_ret ?_ | refine W_exit ?_ | refine W_ff ?_ | go_step)
    refine Body_ret2 (v := .int .i64 (lastE (l.take (min l.length (aboveE l ep))))) (v' := .int .i64 ((min l.length (aboveE l ep) : Nat) : Int)) hd ⟨?_, by simp⟩
    rw [Nat.min_eq_right hln.out]
theorem cut7_calls (l : List Ent) (v : Value) (ep m : Int) (w : World) (hl : RdE w v l) (hm : mayE l = true) (h0 : 0 ≤ m) : Pure Tryz.prog 83 #[v, .int .i64 ep, .int .i64 m] w (.int .i64 (min m (aboveE l ep : Int))) := by
  obtain ⟨A0, c, rfl, hc, hcm, HR⟩ := hl.ent
  clear hl
  have hm1 : mayFrom 1 l = true := by unfold mayE at hm; rw [Bool.and_eq_true] at hm; exact hm.1
  have HI := Lib.hid (above_iff l 1 ep hm1)
  have hln := Lib.hid (above_le l ep)
  clear hm hm1
  refine Fn_of Tryz.func83 rfl (Nat.le_of_ble_eq_true rfl) ?_; intro A hd hA; simp only [ix, Nat.reduceAdd]; replace hA : A.tmps.size = 30 := hA
  repeat' (first | refine X_q ?_ | refine X_nil ?_ | refine W_seqk (fun K hK => ?_) | refine W_seqr ?_ | refine W_block ?_ | go_step)
  refine W_loops [0, 1, 2, 7, 8] (fun n vs w' => ∃ k : Nat, w' = w ∧ k + n = l.length ∧ vs = [.slice A0 l.length c, .int .i64 ep, .int .i64 m, .int .i64 ((min k (aboveE l ep) : Nat) : Int), .int .i64 k] ∧ (k : Int) ≤ m) l.length hd hA (by decide) ⟨0, rfl, by omega, by simp, h0⟩ ?_
  clear hd hA A; intro n vs B w' hd hA _ ⟨k, hw, hk, hvs, hkm⟩; subst hw hvs
  simp only [List.zip_cons_cons, List.zip_nil_right, List.zip_nil_left]
  by_cases hlt : k < l.length
  · obtain ⟨e, b, o, HE, rfl, hb, c0, -⟩ := HR.out k hlt
    have hki : (k : Int) < l.length := by omega
    by_cases hkm2 : (k : Int) < m
    · have HI1 := Lib.hid (HI.out k e HE.out)
      by_cases hle : e.ep ≤ ep
      · have hab : k < aboveE l ep := HI1.out.1 hle
        have HAB := Lib.hid hab
        clear hab
        repeat' (first | refine X_gt ?_ | refine X_q ?_ | refine X_nil ?_ | refine W_seqk (fun K hK => ?_) | refine W_seqr ?_ | refine W_skip ?_ | refine W_block ?_ | refine W_tt ?_ | go_step)
        exact ⟨_, _, rfl, hd, hA, n - 1, by omega, k + 1, trivial, by omega, by rw [Nat.min_eq_left (show k + 1 ≤ aboveE l ep from HAB.out)]; simp, by omega⟩
      · have hab : ¬ k < aboveE l ep := fun h => hle (HI1.out.2 h)
        have HAB := Lib.hid hab
        clear hab
        repeat' (first | refine X_gt ?_ | refine X_q ?_ | refine X_nil ?_ | refine W_seqk (fun K hK => ?_) | refine W_seqr ?_ | refine W_skip ?_ | refine W_block ?_ | refine W_tt ?_ | refine W_ff ?_ | go_step)
        exact ⟨_, _, rfl, hd, hA, n - 1, by omega, k + 1, trivial, by omega, by rw [Nat.min_eq_right (show aboveE l ep ≤ k by have := HAB.out; omega), Nat.min_eq_right (show aboveE l ep ≤ k + 1 by have := HAB.out; omega)]; simp, by omega⟩
    · have hkm3 : (k : Int) = m := by omega
      have HKM := Lib.hid hkm3
      clear hkm3 hkm
      repeat' (first | refine X_gt ?_ | refine X_q ?_ | refine X_nil ?_ | refine W_seqk (fun K hK => ?_) | refine W_seqr ?_ | refine W_ret ?_ | refine W_exit ?_ | refine W_ff ?_ | go_step)
      refine Body_ret (v := .int .i64 ((min k (aboveE l ep) : Nat) : Int)) hd ⟨?_, by simp⟩
      rw [← HKM.out]; congr 1; omega
  · obtain rfl : k = l.length := by omega
    have hki : ¬ (l.length : Int) < l.length := by omega
    have HKM := Lib.hid hkm
    clear hkm
    repeat' (first | refine X_q ?_ | refine X_g ?_ | refine X_nil ?_ | refine W_seqk (fun K hK => ?_) | refine W_seqr ?_ | refine W_ret ?_ | refine W_exit ?_ | refine W_ff ?_ | go_step)
    refine Body_ret (v := .int .i64 ((min l.length (aboveE l ep) : Nat) : Int)) hd ⟨?_, by simp⟩
    congr 1; have := HKM.out; have := hln.out; omega
theorem right11_calls (self least : Int) (w : World) : Pure Tryz.prog 47 #[.int .i64 self, .int .i64 least] w (.bool (rightNew self least)) := by
  by_cases h1 : 0 ≤ self
  · by_cases h2 : self < 4
    · by_cases h3 : 1 ≤ least
      · by_cases h4 : least ≤ 4
        · have h : rightNew self least = true := by simp [rightNew, inB]; omega
          rw [h]
          refine Fn_of Tryz.func47 rfl (Nat.le_of_ble_eq_true rfl) ?_; intro A hd hA; simp only [ix, Nat.reduceAdd]; replace hA : A.tmps.size = 19 := hA
          repeat' (first | refine X_gt ?_ | refine X_q ?_ | refine X_nil ?_ | refine W_seqk (fun K hK => ?_) | refine W_seqr ?_ | refine W_ret ?_ | go_step)
          exact Body_ret hd ⟨rfl, by simp⟩
        · have h : rightNew self least = false := by simp [rightNew, inB]; omega
          rw [h]
          refine Fn_of Tryz.func47 rfl (Nat.le_of_ble_eq_true rfl) ?_; intro A hd hA; simp only [ix, Nat.reduceAdd]; replace hA : A.tmps.size = 19 := hA
          repeat' (first | refine X_gt ?_ | refine X_q ?_ | refine X_nil ?_ | refine W_seqk (fun K hK => ?_) | refine W_seqr ?_ | refine W_ret ?_ | go_step)
          exact Body_ret hd ⟨rfl, by simp⟩
      · have h : rightNew self least = false := by simp [rightNew, inB]; omega
        rw [h]
        refine Fn_of Tryz.func47 rfl (Nat.le_of_ble_eq_true rfl) ?_; intro A hd hA; simp only [ix, Nat.reduceAdd]; replace hA : A.tmps.size = 19 := hA
        repeat' (first | refine X_gt ?_ | refine X_q ?_ | refine X_g ?_ | refine X_nil ?_ | refine W_seqk (fun K hK => ?_) | refine W_seqr ?_ | refine W_ret ?_ | go_step)
        exact Body_ret hd ⟨rfl, by simp⟩
    · have h : rightNew self least = false := by simp [rightNew, inB]; omega
      rw [h]
      refine Fn_of Tryz.func47 rfl (Nat.le_of_ble_eq_true rfl) ?_; intro A hd hA; simp only [ix, Nat.reduceAdd]; replace hA : A.tmps.size = 19 := hA
      repeat' (first | refine X_gt ?_ | refine X_q ?_ | refine X_g ?_ | refine X_nil ?_ | refine W_seqk (fun K hK => ?_) | refine W_seqr ?_ | refine W_ret ?_ | go_step)
      exact Body_ret hd ⟨rfl, by simp⟩
  · have h : rightNew self least = false := by simp [rightNew, inB]; omega
    rw [h]
    refine Fn_of Tryz.func47 rfl (Nat.le_of_ble_eq_true rfl) ?_; intro A hd hA; simp only [ix, Nat.reduceAdd]; replace hA : A.tmps.size = 19 := hA
    repeat' (first | refine X_q ?_ | refine X_g ?_ | refine X_nil ?_ | refine W_seqk (fun K hK => ?_) | refine W_seqr ?_ | refine W_ret ?_ | go_step)
    exact Body_ret hd ⟨rfl, by simp⟩
end Go.Ws
namespace Go.Ws
open Go Go.RowKit Go.Proofs
set_option maxHeartbeats 2000000
set_option maxRecDepth 100000
set_option linter.unusedVariables false
set_option linter.unusedSimpArgs false

/-! ### The document's replica: a row of fifteen cells -/
abbrev RepS.cs (s : RepS) (uL uI uC : Value) : List Value := [.int .i64 s.self, .int .i64 s.least, .int .i64 s.role, .int .i64 s.epoch, uL, .int .i64 s.flushed, .int .i64 s.high, .int .i64 s.version, .int .i64 s.beg, uI, uC, .int .i64 (s.known 0), .int .i64 (s.known 1), .int .i64 (s.known 2), .int .i64 (s.known 3)]
abbrev RepS.v (s : RepS) (uL uI uC : Value) : Value := .agg #[.int .i64 s.self, .int .i64 s.least, .int .i64 s.role, .int .i64 s.epoch, uL, .int .i64 s.flushed, .int .i64 s.high, .int .i64 s.version, .int .i64 s.beg, uI, uC, .int .i64 (s.known 0), .int .i64 (s.known 1), .int .i64 (s.known 2), .int .i64 (s.known 3)]
def fenc (s : RepS) (uL uI uC : Value) : Nat → Value
  | 0 => .int .i64 s.self
  | 1 => .int .i64 s.least
  | 2 => .int .i64 s.role
  | 3 => .int .i64 s.epoch
  | 4 => uL
  | 5 => .int .i64 s.flushed
  | 6 => .int .i64 s.high
  | 7 => .int .i64 s.version
  | 8 => .int .i64 s.beg
  | 9 => uI
  | 10 => uC
  | 11 => .int .i64 (s.known 0)
  | 12 => .int .i64 (s.known 1)
  | 13 => .int .i64 (s.known 2)
  | _ => .int .i64 (s.known 3)
/-- A slice whose block is none of N's. -/
structure RdN {α : Type} (N : Nat → Prop) (enc : α → List Value) (k : Nat) (w : World) (u : Value) (l : List α) : Prop where
  rd : Rd enc k w u l
  nb : ∀ b, u.ownBlock = some b → ¬ N b
abbrev RdEN (N : Nat → Prop) := RdN N Ent.cs 6
abbrev RdIN (N : Nat → Prop) := RdN N (fun n : Int => [Value.int .i64 n]) 1
instance {α : Type} {N : Nat → Prop} {enc : α → List Value} {k : Nat} {w : World} {u : Value} {l : List α} : CoeOut (RdN N enc k w u l) (Rd enc k w u l) := ⟨RdN.rd⟩
theorem RdN.later {α : Type} {N : Nat → Prop} {enc : α → List Value} {k : Nat} {w w' : World} {u : Value} {l : List α} (h : RdN N enc k w u l) (hE : Ext w w') : RdN N enc k w' u l := ⟨h.rd.later hE, h.nb⟩
theorem RdN.nil {α : Type} {N : Nat → Prop} {enc : α → List Value} {k : Nat} (w : World) : RdN N enc k w (.slice none 0 0) [] := ⟨Rd.nil _, fun _ h => by cases h⟩
theorem RdN.int {N : Nat → Prop} {w : World} {v : Value} {l : List Int} (h : RdN N (fun n : Int => [Value.int .i64 n]) 1 w v l) : ∃ A c, v = .slice A l.length c ∧ l.length ≤ c ∧ c ≤ 9223372036854775807 ∧
    Hid (∀ i, i < l.length → ∃ e b o, Hid (l[i]? = some e) ∧ A = some ⟨b, o, none⟩ ∧ b < w.heap.size ∧ w.cell? ⟨b, o + i, none⟩ = some (.int .i64 e)) := h.rd.int
theorem RdN.ent {N : Nat → Prop} {w : World} {v : Value} {l : List Ent} (h : RdN N Ent.cs 6 w v l) : ∃ A c, v = .slice A l.length c ∧ l.length ≤ c ∧ c ≤ 9223372036854775807 ∧
    Hid (∀ i, i < l.length → ∃ e b o, Hid (l[i]? = some e) ∧ A = some ⟨b, o, none⟩ ∧ b < w.heap.size ∧ w.cell? ⟨b, o + i * 6, none⟩ = some (.int .i64 e.ep) ∧ w.cell? ⟨b, o + i * 6 + 1, none⟩ = some (.int .i64 e.id) ∧
      w.cell? ⟨b, o + i * 6 + 2, none⟩ = some (.int .i64 e.num) ∧ w.cell? ⟨b, o + i * 6 + 3, none⟩ = some (.int .i64 e.seq) ∧ w.cell? ⟨b, o + i * 6 + 4, none⟩ = some (.int .i64 e.kind) ∧ w.cell? ⟨b, o + i * 6 + 5, none⟩ = some (.int .i64 e.val)) := h.rd.ent
structure VR (N : Nat → Prop) (w : World) (uL uI uC : Value) (s : RepS) : Prop where
  rl : RdEN N w uL s.log
  ri : RdIN N w uI s.isr
  rc : RdIN N w uC s.counts
/-- The document's replica of this state. -/
def FV (N : Nat → Prop) (w : World) (v : Value) (s : RepS) : Prop := ∃ uL uI uC, v = s.v uL uI uC ∧ VR N w uL uI uC s
section
variable {w w' : World} {b : Nat} {E : TypeId} {uL uI uC : Value} {s s' : RepS} {v : Value} {N : Nat → Prop}
theorem VR.later (h : VR N w uL uI uC s) (hE : Ext w w') : VR N w' uL uI uC s := ⟨h.rl.later hE, h.ri.later hE, h.rc.later hE⟩
theorem cs_fenc {k : Nat} (hk : k < (s.cs uL uI uC).length) : (s.cs uL uI uC)[k]? = some (fenc s uL uI uC k) := by
  simp only [List.length_cons, List.length_nil] at hk
  obtain rfl | rfl | rfl | rfl | rfl | rfl | rfl | rfl | rfl | rfl | rfl | rfl | rfl | rfl | rfl : k = 0 ∨ k = 1 ∨ k = 2 ∨ k = 3 ∨ k = 4 ∨ k = 5 ∨ k = 6 ∨ k = 7 ∨ k = 8 ∨ k = 9 ∨ k = 10 ∨ k = 11 ∨ k = 12 ∨ k = 13 ∨ k = 14 := by omega
  all_goals rfl
theorem fbox2 (h : Blk w b E (s.cs uL uI uC).toArray.size (fun k => (s.cs uL uI uC).toArray.getD k undef)) : Blk w b E 15 (fenc s uL uI uC) :=
  h.congr (all15 ⟨rfl, rfl, rfl, rfl, rfl, rfl, rfl, rfl, rfl, rfl, rfl, rfl, rfl, rfl, rfl⟩)
theorem fcells (h : Blk w b E 15 (fenc s uL uI uC)) : b < w.heap.size ∧ w.cell? ⟨b, 0, none⟩ = some (.int .i64 s.self) ∧ w.cell? ⟨b, 1, none⟩ = some (.int .i64 s.least) ∧ w.cell? ⟨b, 2, none⟩ = some (.int .i64 s.role) ∧ w.cell? ⟨b, 3, none⟩ = some (.int .i64 s.epoch) ∧ w.cell? ⟨b, 4, none⟩ = some uL ∧
    w.cell? ⟨b, 5, none⟩ = some (.int .i64 s.flushed) ∧ w.cell? ⟨b, 6, none⟩ = some (.int .i64 s.high) ∧ w.cell? ⟨b, 7, none⟩ = some (.int .i64 s.version) ∧ w.cell? ⟨b, 8, none⟩ = some (.int .i64 s.beg) ∧ w.cell? ⟨b, 9, none⟩ = some uI ∧ w.cell? ⟨b, 10, none⟩ = some uC :=
  ⟨h.lt, h.cell (by omega), h.cell (by omega), h.cell (by omega), h.cell (by omega), h.cell (by omega), h.cell (by omega), h.cell (by omega), h.cell (by omega), h.cell (by omega), h.cell (by omega), h.cell (by omega)⟩
theorem fknown (h : Blk w b E 15 (fenc s uL uI uC)) (i : Nat) (hi : i < 4) : w.cell? ⟨b, 11 + i, none⟩ = some (.int .i64 (s.known i)) := by
  obtain rfl | rfl | rfl | rfl : i = 0 ∨ i = 1 ∨ i = 2 ∨ i = 3 := by omega
  all_goals exact h.cell (by omega)
/-- All of it, loaded. -/
theorem X_fload {P : Program} {Q : Post} {A : Act} {fl : List (Nat × Value)} {ops : Array Oper} {o : Oper} {rest : List (Oper × Nat)} {x : Operand} {t : TypeId} {d : Nat} {td : TypeDesc} (hb : Blk w b E 15 (fenc s uL uI uC))
    (h : wpX P ops Q rest (fr ((d, s.v uL uI uC) :: fl) A) w) (ho : o.op = .load t x := by rfl) (hd : o.dst = some d := by rfl) (hg : o.guard = none := by rfl)
    (hu : P.underlying t = some td := by kernel_rfl) (htd : td.isRow = true := by rfl) (hi : (P.info? t).map (·.size) = some 15 := by kernel_rfl)
    (hx : Is ((fr fl A).eval x) (.pointer (some ⟨b, 0, none⟩)) := by go_simp; exact Is.mk _) : wpX P ops Q ((o, 0) :: rest) (fr fl A) w :=
  X_loadall hb h ho hd hg hu htd hi hx
/-- All of it, stored. -/
theorem fput {g : Nat → Value} (h : Blk w b E 15 (put g 0 (s.v uL uI uC).cells.toList)) : Blk w b E 15 (fenc s uL uI uC) :=
  h.congr (all15 ⟨rfl, rfl, rfl, rfl, rfl, rfl, rfl, rfl, rfl, rfl, rfl, rfl, rfl, rfl, rfl⟩)
end
theorem new11_calls {N : Nat → Prop} (self least : Int) (w : World) : Ret Tryz.prog 14 #[.int .i64 self, .int .i64 least] w fun v w' => Ext w w' ∧ FV N w' v (RepS.init self least) := by
  refine Fn_of Tryz.func14 rfl (Nat.le_of_ble_eq_true rfl) ?_; intro A hd hA; simp only [ix, Nat.reduceAdd]; replace hA : A.tmps.size = 8 := hA
  repeat' (first | refine X_q ?_ | refine X_nil ?_ | refine W_seqk (fun K hK => ?_) | refine W_seqr ?_ | (refine X_s (fun x K hK => ?_); go_simp; refine hK _ _ (Ext.alloc _ _) ?_; clear hK K; refine X_al x ?_; generalize (World.later _ x).heap.size = bn; intro yn hn1 hn2 hn3 hn4 hn5; clear x) | go_step)
  have HB := Lib.hid (Blk.new hn5.out)
  have HE := Lib.hid (yn.ext)
  have hbw : w.heap.size ≤ bn := hn1
  obtain ⟨bo, hbo0⟩ : ∃ bo : Nat, bo = bn := ⟨_, rfl⟩
  subst hbo0
  generalize World.later w yn = W at *
  clear hn1 hn2 hn3 hn4 hn5 yn
  refine X_store (off := 0) HB.out (fun W1 hM1 hB1 => ?_)
  have HE1 := Lib.hid (Ext.fresh HE.out hM1 (fun k hk => by subst hk; omega))
  have HB1 := Lib.hid (fput (s := RepS.init self least) (uL := .slice none 0 0) (uI := .slice none 0 0) (uC := .slice none 0 0) hB1)
  clear hM1 hB1
  repeat' (first | refine X_nil ?_ | refine W_ret ?_ | go_step)
  exact Body_retcell1 (cs := (RepS.init self least).cs (.slice none 0 0) (.slice none 0 0) (.slice none 0 0)) hd ⟨HE1.out, _, _, _, rfl, RdN.nil _, RdN.nil _, RdN.nil _⟩ HB1.out (fun k hk => cs_fenc hk) Tryz.underlying33
end Go.Ws
namespace Go.Ws
open Go Go.RowKit Go.Proofs
set_option linter.unusedVariables false
set_option linter.unusedSimpArgs false

/-- A replica that was made since w, its blocks in F. -/
structure HR (w W : World) (b : Nat) (F : Nat → Prop) (s : RepS) : Prop where
  rep : Rep W b F s
  hi : ∀ k, F k → w.heap.size ≤ k ∧ k < W.heap.size
  ext : Ext w W
theorem HR.start {w W0 W : World} {b : Nat} {s : RepS} (hE : Ext w W0) (hE2 : Ext W0 W) (h : Rep W b (fun k => W0.heap.size ≤ k) s) : HR w W b (fun k => W0.heap.size ≤ k ∧ k < W.heap.size) s :=
  ⟨h.here, fun k hk => ⟨Nat.le_trans hE.size hk.1, hk.2⟩, Ext.trans hE hE2⟩
theorem HR.later {w W W' : World} {b : Nat} {F : Nat → Prop} {s : RepS} (h : HR w W b F s) (hE : Ext W W') : HR w W' b F s :=
  ⟨h.rep.later hE, fun k hk => ⟨(h.hi k hk).1, Nat.lt_of_lt_of_le (h.hi k hk).2 hE.size⟩, Ext.trans h.ext hE⟩
theorem HR.step {w W W' : World} {b : Nat} {F : Nat → Prop} {s s' : RepS} (h : HR w W b F s) (hM : Mod F W W') (hR : Rep W' b (fun k => F k ∨ W.heap.size ≤ k) s') :
    HR w W' b (fun k => (F k ∨ W.heap.size ≤ k) ∧ k < W'.heap.size) s' := by
  have hs := h.ext.size
  refine ⟨hR.here, fun k hk => ⟨?_, hk.2⟩, Ext.fresh h.ext hM (fun k hk => (h.hi k hk).1)⟩
  rcases hk.1 with h1 | h1
  · exact (h.hi k h1).1
  · omega
theorem HR.stepF {w W W' : World} {b : Nat} {F : Nat → Prop} {s s' : RepS} (h : HR w W b F s) (hM : Mod F W W') (hR : Rep W' b F s') : HR w W' b F s' :=
  ⟨hR, fun k hk => ⟨(h.hi k hk).1, Nat.lt_of_lt_of_le (h.hi k hk).2 hM.size⟩, Ext.fresh h.ext hM (fun k hk => (h.hi k hk).1)⟩
/-- Another replica's step. -/
theorem HR.beside {w W W' : World} {b : Nat} {F G : Nat → Prop} {s : RepS} (h : HR w W b F s) (hM : Mod G W W') (hG : ∀ k, G k → w.heap.size ≤ k) (hFG : ∀ k, F k → ¬ G k) : HR w W' b F s :=
  ⟨h.rep.mod hM hFG, fun k hk => ⟨(h.hi k hk).1, Nat.lt_of_lt_of_le (h.hi k hk).2 hM.size⟩, Ext.fresh h.ext hM hG⟩
end Go.Ws
namespace Go.Ws
open Go Go.RowKit Go.Proofs
set_option maxHeartbeats 2000000
set_option maxRecDepth 100000
set_option linter.unusedVariables false
set_option linter.unusedSimpArgs false

/-! ### A call of a replica -/
structure ActD where
  kind : Int
  n : Int
  near : Bool
  view : View
  ent : Ent
  fetch : Fetch
  reply : Reply
  list : List Int
/-- A call in memory: its cells, the three slices as they are. -/
structure ActV where
  act : ActD
  uI : Value
  uE : Value
  uL : Value
def ActD.cells (a : ActD) (uI uE uL : Value) : List Value := [.int .i64 a.kind, .int .i64 a.n, .bool a.near, .int .i64 a.view.leader, .int .i64 a.view.epoch, .int .i64 a.view.version, uI,
  .int .i64 a.ent.ep, .int .i64 a.ent.id, .int .i64 a.ent.num, .int .i64 a.ent.seq, .int .i64 a.ent.kind, .int .i64 a.ent.val,
  .int .i64 a.fetch.src, .int .i64 a.fetch.epoch, .int .i64 a.fetch.offset, .int .i64 a.fetch.last, .int .i64 a.fetch.flushed,
  .int .i64 a.reply.epoch, .int .i64 a.reply.base, .int .i64 a.reply.last, .bool a.reply.cut, .int .i64 a.reply.cutEpoch, .int .i64 a.reply.cutEnd, uE, .int .i64 a.reply.high, uL]
abbrev ActV.cs (a : ActV) : List Value := a.act.cells a.uI a.uE a.uL
abbrev ActD.v (a : ActD) (uI uE uL : Value) : Value := .agg #[.int .i64 a.kind, .int .i64 a.n, .bool a.near, .int .i64 a.view.leader, .int .i64 a.view.epoch, .int .i64 a.view.version, uI,
  .int .i64 a.ent.ep, .int .i64 a.ent.id, .int .i64 a.ent.num, .int .i64 a.ent.seq, .int .i64 a.ent.kind, .int .i64 a.ent.val,
  .int .i64 a.fetch.src, .int .i64 a.fetch.epoch, .int .i64 a.fetch.offset, .int .i64 a.fetch.last, .int .i64 a.fetch.flushed,
  .int .i64 a.reply.epoch, .int .i64 a.reply.base, .int .i64 a.reply.last, .bool a.reply.cut, .int .i64 a.reply.cutEpoch, .int .i64 a.reply.cutEnd, uE, .int .i64 a.reply.high, uL]
/-- Its slices can be read, their blocks none of N's. -/
structure ActR (N : Nat → Prop) (w : World) (uI uE uL : Value) (a : ActD) : Prop where
  ri : RdIN N w uI a.view.isr
  re : RdEN N w uE a.reply.entries
  rl : RdIN N w uL a.list
abbrev ActV.ok (N : Nat → Prop) (w : World) (a : ActV) : Prop := ActR N w a.uI a.uE a.uL a.act
theorem ActR.later {N : Nat → Prop} {w w' : World} {uI uE uL : Value} {a : ActD} (h : ActR N w uI uE uL a) (hE : Ext w w') : ActR N w' uI uE uL a := ⟨h.ri.later hE, h.re.later hE, h.rl.later hE⟩
def ActV.big (a : ActV) : Bool := decide (20 < a.act.view.isr.length) || decide (20 < a.act.reply.entries.length) || decide (20 < a.act.list.length)
def largeB (l : List ActV) : Bool := decide (40 < l.length) || l.any ActV.big
/-- What is read of an act of a list. -/
theorem Rd.act {w : World} {v : Value} {l : List ActV} (h : Rd ActV.cs 27 w v l) : ∃ A c, v = .slice A l.length c ∧ l.length ≤ c ∧ c ≤ 9223372036854775807 ∧
    Hid (∀ i, i < l.length → ∃ a b o, Hid (l[i]? = some a) ∧ A = some ⟨b, o, none⟩ ∧ b < w.heap.size ∧ Hid (∀ j u, (a.cs)[j]? = some u → w.cell? ⟨b, o + i * 27 + j, none⟩ = some u)) := by
  obtain ⟨A, c, h1, h2, h3, h4⟩ := h
  refine ⟨A, c, h1, h2, h3, fun i hi => ?_⟩
  have he : l[i]? = some l[i] := by simp [hi]
  rcases h4 with ⟨_, rfl⟩ | ⟨b, o, hA, hb, hr⟩
  · simp at hi
  · exact ⟨l[i], b, o, he, hA, hb, Lib.hid (hr i _ he)⟩
theorem large_calls {N : Nat → Prop} (l : List ActV) (v : Value) (w : World) (hl : Rd ActV.cs 27 w v l) (ho : ∀ a ∈ l, a.ok N w) : Pure Tryz.prog 11 #[v] w (.bool (largeB l)) := by
  have HO := Lib.hid ho
  clear ho
  obtain ⟨A0, c, rfl, hc, hcm, HR⟩ := hl.act
  by_cases h40 : l.length ≤ 40
  · have hi40 : ¬ (40 : Int) < l.length := by omega
    have hlb : largeB l = l.any ActV.big := by unfold largeB; rw [decide_eq_false (by omega)]; rfl
    rw [hlb]
    clear hlb
    refine Fn_of Tryz.func11 rfl (Nat.le_of_ble_eq_true rfl) ?_; intro A hd hA; simp only [ix, Nat.reduceAdd]; replace hA : A.tmps.size = 40 := hA
    repeat' (first | refine X_q ?_ | refine X_nil ?_ | refine W_seqk (fun K hK => ?_) | refine W_seqr ?_ | refine W_skip ?_ | refine W_block ?_ | refine W_ff ?_ | go_step)
    refine W_loops [0, 2, 3] (fun n vs w' => ∃ k : Nat, w' = w ∧ k + n = l.length ∧ vs = [.slice A0 l.length c, .bool false, .int .i64 k] ∧ (l.drop k).any ActV.big = l.any ActV.big) l.length hd hA (by decide) ⟨0, rfl, by omega, by simp, by simp⟩ ?_
    clear hd hA A; intro n vs B w' hd hA _ ⟨k, hw, hk, hvs, hm⟩; subst hw hvs
    simp only [List.zip_cons_cons, List.zip_nil_right, List.zip_nil_left]
    have HM := Lib.hid hm
    clear hm
    by_cases hlt : k < l.length
    · obtain ⟨a, b, o, HX, rfl, hb, HC⟩ := HR.out k hlt
      have hki : (k : Int) < l.length := by omega
      have hok := HO.out a (mem_of_get HX.out)
      have hdr : l.drop k = a :: l.drop (k + 1) := drop_at HX.out
      have HDR := Lib.hid hdr
      have HXX := Lib.hid HX
      obtain ⟨act, uI, uE, uL⟩ := a
      obtain ⟨A1, c1, h1, -⟩ := hok.ri.int
      obtain ⟨A2, c2, h2, -⟩ := hok.re.ent
      obtain ⟨A3, c3, h3, -⟩ := hok.rl.int
      simp only at h1 h2 h3
      subst h1 h2 h3
      have e6 := HC.out 6 _ rfl
      have e24 := HC.out 24 _ rfl
      have e26 := HC.out 26 _ rfl
      clear HX hok hdr HC
      by_cases g1 : act.view.isr.length ≤ 20
      · have g1i : ¬ (20 : Int) < act.view.isr.length := by omega
        by_cases g2 : act.reply.entries.length ≤ 20
        · have g2i : ¬ (20 : Int) < act.reply.entries.length := by omega
          by_cases g3 : act.list.length ≤ 20
          · have g3i : ¬ (20 : Int) < act.list.length := by omega
            repeat' (first | refine X_gt ?_ | refine X_q ?_ | refine X_nil ?_ | refine W_seqk (fun K hK => ?_) | refine W_seqr ?_ | refine W_skip ?_ | refine W_block ?_ | refine W_tt ?_ | refine W_ff ?_ | go_step)
            exact ⟨_, _, rfl, hd, hA, n - 1, by omega, k + 1, by simp, by omega, by simp, by rw [← HM.out, HDR.out, List.any_cons]; simp [ActV.big]; omega⟩
          · have g3i : (20 : Int) < act.list.length := by omega
            have ht : l.any ActV.big = true := by rw [← HM.out, HDR.out, List.any_cons]; simp [ActV.big]; omega
            have HT := Lib.hid ht
            clear ht
            repeat' (first | refine X_gt ?_ | refine X_q ?_ | refine X_nil ?_ | refine W_seqk (fun K hK => ?_) | refine W_seqr ?_ | refine W_ret ?_ | refine W_skip ?_ | refine W_block ?_ | refine W_tt ?_ | go_step)
            exact Body_ret hd ⟨by rw [HT.out], by simp⟩
        · have g2i : (20 : Int) < act.reply.entries.length := by omega
          have ht : l.any ActV.big = true := by rw [← HM.out, HDR.out, List.any_cons]; simp [ActV.big]; omega
          have HT := Lib.hid ht
          clear ht
          repeat' (first | refine X_gt ?_ | refine X_q ?_ | refine X_g ?_ | refine X_gf ?_ | refine X_nil ?_ | refine W_seqk (fun K hK => ?_) | refine W_seqr ?_ | refine W_ret ?_ | refine W_skip ?_ | refine W_block ?_ | refine W_tt ?_ | go_step)
          exact Body_ret hd ⟨by rw [HT.out], by simp⟩
      · have g1i : (20 : Int) < act.view.isr.length := by omega
        have ht : l.any ActV.big = true := by rw [← HM.out, HDR.out, List.any_cons]; simp [ActV.big]; omega
        have HT := Lib.hid ht
        clear ht
        repeat' (first | refine X_q ?_ | refine X_g ?_ | refine X_gf ?_ | refine X_nil ?_ | refine W_seqk (fun K hK => ?_) | refine W_seqr ?_ | refine W_ret ?_ | refine W_skip ?_ | refine W_block ?_ | refine W_tt ?_ | go_step)
        exact Body_ret hd ⟨by rw [HT.out], by simp⟩
    · have hki : ¬ (k : Int) < l.length := by omega
      have ht : l.any ActV.big = false := by rw [← HM.out, List.drop_eq_nil_of_le (by omega)]; rfl
      have HT := Lib.hid ht
      clear ht
      repeat' (first | refine X_q ?_ | refine X_nil ?_ | refine W_seqk (fun K hK => ?_) | refine W_seqr ?_ | refine W_ret ?_ | refine W_exit ?_ | refine W_ff ?_ | go_step)
      exact Body_ret hd ⟨by rw [HT.out], by simp⟩
  · have hi40 : (40 : Int) < l.length := by omega
    have hlb : largeB l = true := by unfold largeB; rw [decide_eq_true (by omega)]; rfl
    rw [hlb]
    refine Fn_of Tryz.func11 rfl (Nat.le_of_ble_eq_true rfl) ?_; intro A hd hA; simp only [ix, Nat.reduceAdd]; replace hA : A.tmps.size = 40 := hA
    repeat' (first | refine X_q ?_ | refine X_nil ?_ | refine W_seqk (fun K hK => ?_) | refine W_seqr ?_ | refine W_ret ?_ | refine W_tt ?_ | go_step)
    exact Body_ret hd ⟨rfl, by simp⟩
end Go.Ws
