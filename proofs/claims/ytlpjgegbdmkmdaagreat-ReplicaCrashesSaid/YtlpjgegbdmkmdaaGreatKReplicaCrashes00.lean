/- Lemmas for the statements of this layer (joined texts); no condition. -/
import Derived.WalkKit
import Derived.Lib.Hide
import Derived.Deep.QuietTactic
import Derived.BigQuiet
import Derived.StillTail
import Derived.OrdersIn
import Derived.RangeFuncNested
import Derived.RangeFuncBound
import Derived.RangeFuncCalls
import Derived.RangeFuncLeaves
import Derived.Deep.DeepFit
import Derived.Test.YtlpjgegbdmkmdaaGreatProg
import Derived.Test.YtlpjgegbdmkmdaaGreatRows
import Derived.ProofKit
import Derived.OpenShut
import Derived.Deep.Slices
import Derived.Below
import Derived.DefersIn
import Derived.RecoverIn
import Derived.Maps.RangeRun
import Derived.Deep.MidRow
import Derived.Scope
import Derived.ScopeJumps
import Derived.Test.YtlpjgegbdmkmdaaGreatBa00
import Derived.Test.YtlpjgegbdmkmdaaGreatBa01
import Derived.Test.YtlpjgegbdmkmdaaGreatBa02
import Derived.Test.YtlpjgegbdmkmdaaGreatBa03
import Derived.Test.YtlpjgegbdmkmdaaGreatBa04
import Derived.Test.YtlpjgegbdmkmdaaGreatBa05
import Derived.Test.YtlpjgegbdmkmdaaGreatBa06
import Derived.Test.YtlpjgegbdmkmdaaGreatBa07
import Derived.Test.YtlpjgegbdmkmdaaGreatBa08
import Derived.Test.YtlpjgegbdmkmdaaGreatBa09
import Derived.Test.YtlpjgegbdmkmdaaGreatBa10
import Derived.Test.YtlpjgegbdmkmdaaGreatBa11
import Derived.Test.YtlpjgegbdmkmdaaGreatBa12
import Derived.Test.YtlpjgegbdmkmdaaGreatBa13
import Derived.Test.YtlpjgegbdmkmdaaGreatBa14
import Derived.Test.YtlpjgegbdmkmdaaGreatBa15
import Derived.Test.YtlpjgegbdmkmdaaGreatBa16
import Derived.Test.YtlpjgegbdmkmdaaGreatBa17
import Derived.Test.YtlpjgegbdmkmdaaGreatBa18
import Derived.Test.YtlpjgegbdmkmdaaGreatBa19
import Derived.Test.YtlpjgegbdmkmdaaGreatBa20
import Derived.Test.YtlpjgegbdmkmdaaGreatBa21
import Derived.Test.YtlpjgegbdmkmdaaGreatBa22
import Derived.Test.YtlpjgegbdmkmdaaGreatBa23
import Derived.Test.YtlpjgegbdmkmdaaGreatBa24
import Derived.Test.YtlpjgegbdmkmdaaGreatBa25
import Derived.Test.YtlpjgegbdmkmdaaGreatBa26
import Derived.Test.YtlpjgegbdmkmdaaGreatBa27
namespace Go.Ws
open Go Go.RowKit Go.Proofs
set_option linter.unusedVariables false
set_option linter.unusedSimpArgs false

theorem HR.new {w W : World} {b : Nat} {F : Nat → Prop} {s : RepS} (h : HR w W b F s) {k : Nat} (hk : W.heap.size ≤ k) : ¬ F k := fun hf => by have := (h.hi k hf).2; omega
end Go.Ws
namespace Go.Ws
open Go Go.RowKit Go.Proofs
set_option maxHeartbeats 2000000
set_option maxRecDepth 100000
set_option linter.unusedVariables false
set_option linter.unusedSimpArgs false
/-! ### Lists of acts that a law builds -/
section
variable {w0 w w' : World} {v vs : Value} {l ys : List ActW}
theorem ActsAt.mod {F : Nat → Prop} (h : ActsAt w0 w v l) (hM : Mod F w w') (hF : ∀ a ∈ l, ∀ k, F k → ¬ a.uI.v.ownBlock = some k ∧ ¬ a.uE.v.ownBlock = some k ∧ ¬ a.uL.v.ownBlock = some k) (hv : ∀ k, v.ownBlock = some k → ¬ F k) : ActsAt w0 w' v l :=
  ⟨h.own.mod hM hv, fun a ha => ⟨⟨⟨(h.fit a ha).1.ri.rd.mod hM (fun k hk hf => (hF a ha k hf).1 hk), (h.fit a ha).1.ri.nb⟩, ⟨(h.fit a ha).1.re.rd.mod hM (fun k hk hf => (hF a ha k hf).2.1 hk), (h.fit a ha).1.re.nb⟩, ⟨(h.fit a ha).1.rl.rd.mod hM (fun k hk hf => (hF a ha k hf).2.2 hk), (h.fit a ha).1.rl.nb⟩⟩, (h.fit a ha).2⟩, h.new⟩
end
end Go.Ws
namespace Go.Ws
open Go Go.RowKit Go.Proofs
set_option maxHeartbeats 4000000
set_option maxRecDepth 100000
set_option linter.unusedVariables false
set_option linter.unusedSimpArgs false
theorem all4 {P : Nat → Prop} (h : P 0 ∧ P 1 ∧ P 2 ∧ P 3) : ∀ k, k < 4 → P k := by
  obtain ⟨h0, h1, h2, h3⟩ := h
  intro k hk
  obtain rfl | rfl | rfl | rfl : k = 0 ∨ k = 1 ∨ k = 2 ∨ k = 3 := by omega
  all_goals assumption
def crashV (e : Int) (A : Sl) : ActW := ⟨{ ActD.zero with kind := 1, view := ⟨0, e, e, [0]⟩ }, A, Sl.nil, Sl.nil⟩
/-- An act between: an entry is appended, or all is flushed. -/
def crashMid (a : ActW) : Prop := (∃ v, a = ⟨{ ActD.zero with kind := 2, ent := ⟨0, -1, 0, 0, 1, v⟩ }, Sl.nil, Sl.nil, Sl.nil⟩) ∨ a = ⟨{ ActD.zero with kind := 3 }, Sl.nil, Sl.nil, Sl.nil⟩
theorem crash_len {s : RepS} (hg : s.Good) (hl : s.log.length ≤ 40) (kp : Int) (h0 : 0 ≤ kp) : ((s.crash kp).1.log.length : Int) = if s.flushed + (if 100 < kp then 100 else kp) < s.log.length then s.flushed + (if 100 < kp then 100 else kp) else s.log.length := by
  obtain ⟨f0, f1⟩ := hg.fl
  unfold RepS.crash
  rw [if_neg (by omega)]
  simp only [List.length_take, gmin_eq]
  split <;> split <;> omega
theorem crash_learn {s : RepS} {kp : Int} (h0 : 0 ≤ kp) (he : s.epoch = 3) (hs : s.self = 0) : ((s.crash kp).1.learn ⟨0, 3, 9, [0]⟩).2 = 210 := by
  unfold RepS.crash
  rw [if_neg (by omega)]
  unfold RepS.learn
  rw [if_pos (by rfl), if_neg (by show ¬ (3 : Int) < s.epoch; omega), if_pos (by show (3 : Int) = s.epoch; omega)]
  unfold RepS.again
  rw [if_neg (by show ¬ (1 : Int) = 3; decide), if_pos rfl, if_neg (fun h => h.2 (by show (0 : Int) = s.self; omega))]
@[simp, go_sem] theorem run_stand3 (w : World) (a0 a1 a2 a3 a4 a5 a6 a7 a8 : Value) : (Instr.field 37 (.agg #[a0, a1, a2, a3, a4, a5, a6, a7, a8]) 3).run Tryz.prog w = .ok a3 w := by
  kernel_rfl
section
variable {P : Program} {ops : Array Oper} {Q : Post} {A : Act} {fl : List (Nat × Value)} {w : World} {G : Nat → Prop}
theorem quiet_aelem {o : Oper} {x : Operand} {t : TypeId} {b off : Nat} {td : TypeDesc} {a : ActV} (hc : ∀ j u, (a.cs)[j]? = some u → w.cell? ⟨b, off + j, none⟩ = some u) (ho : o.op = .load t x)
    (hu : P.underlying t = some td) (htd : td.isRow = true) (hs' : (P.info? t).map (·.size) = some 27) (hx : Is ((fr fl A).eval x) (.pointer (some ⟨b, off, none⟩))) : o.quietAt P (fr fl A) (Ext w) w (a.act.v a.uI a.uE a.uL) := by
  have := run_loadAt_mid (P := P) w b off t a.cs td hc hu htd hs'
  unfold Oper.quietAt execOp
  simp only [ho, hx.eq, this, Sem.run_bind, Result.andThen_ok, Sem.run_pure, Oper.quietUpon]
  exact ⟨trivial, rfl⟩
theorem Y_aelemr {o : Oper} {rest : List (Oper × Nat)} {x : Operand} {t : TypeId} {d b off : Nat} {td : TypeDesc} {a : ActV} (hb : b < w.heap.size) (hc : ∀ j u, (a.cs)[j]? = some u → w.cell? ⟨b, off + j, none⟩ = some u)
    (h : wpY G P ops Q rest (fr ((d, a.act.v a.uI a.uE a.uL) :: fl) A) w) (ho : o.op = .load t x := by rfl) (hd : o.dst = some d := by rfl) (hg : o.guard = none := by rfl)
    (hu : P.underlying t = some td := by kernel_rfl) (htd : td.isRow = true := by rfl) (hs' : (P.info? t).map (·.size) = some 27 := by kernel_rfl)
    (hx : Is ((fr fl A).eval x) (.pointer (some ⟨b, off, none⟩)) := by go_simp; exact Is.mk _) : wpY G P ops Q ((o, 3) :: rest) (fr fl A) w :=
  Y_r h hd hg fun X => quiet_aelem (fun j u hu => (World.cell?_of_block (X.2.block b hb (fun h => h))).trans (hc j u hu)) ho hu htd hs' hx
end
/-- The state amidst the acts. -/
def CrashSt (k : Nat) (s : RepS) : Prop := (k = 0 ∧ s = RepS.init 0 1) ∨ (0 < k ∧ s.epoch = 3 ∧ s.self = 0 ∧ s.log.length ≤ k)
theorem crash_first (A : Sl) : CrashSt 1 ((RepS.init 0 1).step ((crashV 3 A).act.atS (RepS.init 0 1))) := by
  have h1 : (crashV 3 A).act.atS (RepS.init 0 1) = (crashV 3 A).act := if_pos rfl
  rw [h1]
  exact .inr ⟨by omega, rfl, rfl, by show (0 : Nat) ≤ 1; omega⟩
theorem crash_next {k : Nat} {s : RepS} {a : ActW} (hk : 0 < k) (h : CrashSt k s) (ha : crashMid a) : CrashSt (k + 1) (s.step (a.act.atS s)) := by
  rcases h with ⟨h0, -⟩ | ⟨-, h1, h2, h3⟩
  · omega
  · rcases ha with ⟨v, rfl⟩ | rfl
    · have e1 : ActD.atS { ActD.zero with kind := 2, ent := ⟨0, -1, 0, 0, 1, v⟩ } s = { ActD.zero with kind := 2, ent := ⟨0, -1, 0, 0, 1, v⟩ } := if_pos rfl
      show CrashSt (k + 1) (s.step (ActD.atS { ActD.zero with kind := 2, ent := ⟨0, -1, 0, 0, 1, v⟩ } s))
      rw [e1]
      show CrashSt (k + 1) (s.app ⟨0, -1, 0, 0, 1, v⟩)
      unfold RepS.app
      split
      · exact .inr ⟨by omega, h1, h2, by simp; omega⟩
      · exact .inr ⟨by omega, h1, h2, by omega⟩
    · have e1 : ActD.atS { ActD.zero with kind := 3 } s = { ActD.zero with kind := 3 } := if_pos rfl
      show CrashSt (k + 1) (s.step (ActD.atS { ActD.zero with kind := 3 } s))
      rw [e1]
      show CrashSt (k + 1) s.flush
      unfold RepS.flush
      obtain ⟨c1, -, -, -, c2, -, -, c3, -⟩ := count_all ({ s with flushed := s.log.length } : RepS)
      exact .inr ⟨by omega, by rw [c3]; exact h1, by rw [c2]; exact h2, by rw [c1]; show s.log.length ≤ k + 1; omega⟩
theorem crashes_calls (n flushed keep : Int) (w : World) (hn : 0 ≤ n ∧ n ≤ 255) (hf : 0 ≤ flushed ∧ flushed ≤ 255) : Pure Tryz.prog 9 #[.int .u8 n, .int .u8 flushed, .int .i64 keep] w (.bool true) := by
  obtain ⟨n1, n2⟩ := hn
  obtain ⟨g1, g2⟩ := hf
  refine Fn_of Tryz.func9 rfl (Nat.le_of_ble_eq_true rfl) ?_; intro A hd hA; simp only [ix, Nat.reduceAdd]; replace hA : A.tmps.size = 126 := hA
  repeat' (first | refine X_q ?_ | refine X_nil ?_ | (refine X_var (fun yn bn hn1 hn2 hn3 hn4 hn5 => ?_)) | refine W_seqk (fun K hK => ?_) | refine W_seqr ?_ | refine W_block ?_ | (refine X_s (fun x K hK => ?_); go_simp; refine hK _ _ (Ext.alloc _ _) ?_; clear hK K; refine X_al x ?_; generalize (World.later _ x).heap.size = bn; intro yn hn1 hn2 hn3 hn4 hn5; clear x) | go_step)
  rename_i b1 y1 p1 p2 p3 p4 p5 y7 b7 r1 r2 r3 r4 r5
  have HI1 : Hid (RdI ((w.later y1).later y7) (.slice (some ⟨b1, 0, none⟩) 1 1) [0]) := Lib.hid ((RdI.built (N := fun _ => False) (xs := [0]) rfl p5.out (by simp [maxLen]) (fun h => h)).rd.later y7.ext)
  have HB7 := Lib.hid (Blk.new r5.out)
  have h17 : b1 < b7 := by omega
  have hw1 : w.heap.size ≤ b1 := p1
  have hE1 : Ext w ((w.later y1).later y7) := by simp
  have hb7 := HB7.out.lt
  have HE1 := Lib.hid hE1
  have hsz1 : ((w.later y1).later y7).heap.size ≤ bn := hn1
  clear p1 p2 p3 p4 p5 r1 r2 r3 r4 r5 hE1
  generalize World.later _ y7 = W1 at *
  have hA1 : ActsAt W1 (W1.later yn) (.slice (some ⟨bn, 0, none⟩) 1 1) [crashV 3 ⟨some ⟨b1, 0, none⟩, 1, 1⟩] := ActsAt.made (xs := [crashV 3 ⟨some ⟨b1, 0, none⟩, 1, 1⟩]) rfl hn5.out (by simp [maxLen]) (by omega) (fun a ha => by
    obtain rfl : a = _ := by simpa using ha
    exact ⟨⟨⟨HI1.out.later yn.ext, fun k hk h => by cases hk; have h' : b1 = bn := h; omega⟩, RdN.nil _, RdN.nil _⟩, by simp [crashV]⟩)
  have HX := Lib.hid hA1
  have HE2 := Lib.hid yn.ext
  clear hA1 hn1 hn2 hn3 hn4 hn5 hsz1 y1 y7
  refine W_loops [0, 1, 2, 6, 7, 8, 9] (fun j vs w' => ∃ (i : Nat) (u : Value) (mid : List ActW), Ext W1 w' ∧ i + j = 12 ∧ mid.length ≤ 2 * i ∧ (∀ a ∈ mid, crashMid a) ∧ vs = [.int .u8 n, .int .u8 flushed, .int .i64 keep, .bool false, .pointer (some ⟨b7, 0, none⟩), u, .int .u8 i] ∧ ActsAt W1 w' u (crashV 3 ⟨some ⟨b1, 0, none⟩, 1, 1⟩ :: mid)) 12 hd hA (by decide) ⟨0, _, [], HE2.out, by omega, by simp, by simp, by simp, HX.out⟩ ?_
  clear hd hA A HX HE2 yn; intro j vs B w' hd hA _ ⟨i, u, mid, hE, hi, hl, hmid, hvs, hX⟩; subst hvs
  have HX := Lib.hid hX
  have HMID := Lib.hid hmid
  obtain ⟨y, rfl⟩ := hE.get
  clear hX hE hmid
  obtain ⟨A4, m4, c4, rfl⟩ := own_slice HX.out.own
  have v0 := HB7.out.cell (k := 0) (by simp)
  have v1 := HB7.out.cell (k := 1) (by simp)
  have v2 := HB7.out.cell (k := 2) (by simp)
  have v3 := HB7.out.cell (k := 3) (by simp)
  simp at v0 v1 v2 v3
  simp only [List.zip_cons_cons, List.zip_nil_right, List.zip_nil_left]
  by_cases z1 : (i : Int) < n % 13
  · have hi12 : i < 12 := by omega
    have z1b : decide ((i : Int) < n % 13) = true := decide_eq_true z1
    by_cases z2 : (i : Int) = flushed % 13
    · have z2b : ((i : Int) == flushed % 13) = true := by simp [z2]
      have Z2 := Lib.hid z2
      clear z2
      repeat' (first | refine X_q ?_ | refine X_nil ?_ | refine W_seqk (fun K hK => ?_) | refine W_seqr ?_ | refine W_skip ?_ | refine W_block ?_ | (refine X_s (fun x K hK => ?_); go_simp; refine hK _ _ (Ext.alloc _ _) ?_; clear hK K; refine X_al x ?_; generalize (World.later _ x).heap.size = bn; intro yn hn1 hn2 hn3 hn4 hn5; clear x) | refine W_tt ?_ | go_step)
      refine X_acts (w0 := W1) (by simp) elemAct (HX.out.later yn.ext) (Rd.built (xs := [⟨{ ActD.zero with kind := 3 }, Sl.nil, Sl.nil, Sl.nil⟩]) hn2 hn3 rfl (by simp [maxLen])) (fun a ha => by
        obtain rfl : a = _ := by simpa using ha
        exact ActW.fit_plain _ _ rfl rfl rfl (by simp)) (by simp; omega) (by unfold maxLen; simp; omega) (fun y2 v' hO hM => ?_)
      have HO := Lib.hid hO
      clear hO hM
      clear hn1 hn2 hn3 hn4 hn5 yn
      obtain ⟨A5, m5, c5, rfl⟩ := own_slice HO.out.own
      repeat' (first | refine X_q ?_ | refine X_nil ?_ | refine W_seqr ?_ | (refine X_s (fun x K hK => ?_); go_simp; refine hK _ _ (Ext.alloc _ _) ?_; clear hK K; refine X_al x ?_; generalize (World.later _ x).heap.size = bn; intro yn hn1 hn2 hn3 hn4 hn5; clear x) | go_step)
      refine X_acts (w0 := W1) (by simp) elemAct (HO.out.later yn.ext) (Rd.built (xs := [⟨{ ActD.zero with kind := 2, ent := ⟨0, -1, 0, 0, 1, i⟩ }, Sl.nil, Sl.nil, Sl.nil⟩]) hn2 hn3 rfl (by simp [maxLen])) (fun a ha => by
        obtain rfl : a = _ := by simpa using ha
        exact ActW.fit_plain _ _ rfl rfl rfl (by simp)) (by simp; omega) (by unfold maxLen; simp; omega) (fun y3 v' hO hM => ?_)
      have HO2 := Lib.hid hO
      clear hO hM
      repeat' (first | refine X_q ?_ | refine X_nil ?_ | refine W_seqr ?_ | go_step)
      exact ⟨_, _, rfl, hd, hA, j - 1, by omega, i + 1, _, mid ++ [⟨{ ActD.zero with kind := 3 }, Sl.nil, Sl.nil, Sl.nil⟩] ++ [⟨{ ActD.zero with kind := 2, ent := ⟨0, -1, 0, 0, 1, i⟩ }, Sl.nil, Sl.nil, Sl.nil⟩], y3.ext, by omega, by simp; omega, (fun a ha => by
        simp only [List.mem_append, List.mem_singleton] at ha
        rcases ha with (ha | rfl) | rfl
        · exact HMID.out a ha
        · exact .inr rfl
        · exact .inl ⟨_, rfl⟩), by simp, HO2.out⟩
    · have z2b : ((i : Int) == flushed % 13) = false := by simp [z2]
      clear z2
      repeat' (first | refine X_q ?_ | refine X_nil ?_ | refine W_seqk (fun K hK => ?_) | refine W_seqr ?_ | refine W_skip ?_ | refine W_block ?_ | (refine X_s (fun x K hK => ?_); go_simp; refine hK _ _ (Ext.alloc _ _) ?_; clear hK K; refine X_al x ?_; generalize (World.later _ x).heap.size = bn; intro yn hn1 hn2 hn3 hn4 hn5; clear x) | refine W_tt ?_ | refine W_ff ?_ | go_step)
      refine X_acts (w0 := W1) (by simp) elemAct (HX.out.later yn.ext) (Rd.built (xs := [⟨{ ActD.zero with kind := 2, ent := ⟨0, -1, 0, 0, 1, i⟩ }, Sl.nil, Sl.nil, Sl.nil⟩]) hn2 hn3 rfl (by simp [maxLen])) (fun a ha => by
        obtain rfl : a = _ := by simpa using ha
        exact ActW.fit_plain _ _ rfl rfl rfl (by simp)) (by simp; omega) (by unfold maxLen; simp; omega) (fun y2 v' hO hM => ?_)
      have HO := Lib.hid hO
      clear hO hM
      repeat' (first | refine X_q ?_ | refine X_nil ?_ | refine W_seqr ?_ | go_step)
      exact ⟨_, _, rfl, hd, hA, j - 1, by omega, i + 1, _, mid ++ [⟨{ ActD.zero with kind := 2, ent := ⟨0, -1, 0, 0, 1, i⟩ }, Sl.nil, Sl.nil, Sl.nil⟩], y2.ext, by omega, by simp; omega, (fun a ha => by
        simp only [List.mem_append, List.mem_singleton] at ha
        rcases ha with ha | rfl
        · exact HMID.out a ha
        · exact .inl ⟨_, rfl⟩), by simp, HO.out⟩
  · have z1b : decide ((i : Int) < n % 13) = false := decide_eq_false z1
    clear z1
    repeat' (first | refine X_q ?_ | refine X_nil ?_ | refine W_seqk (fun K hK => ?_) | refine W_seqr ?_ | refine W_exit ?_ | (refine X_s (fun x K hK => ?_); go_simp; refine hK _ _ (Ext.alloc _ _) ?_; clear hK K; refine X_al x ?_; generalize (World.later _ x).heap.size = bn; intro yn hn1 hn2 hn3 hn4 hn5; clear x) | refine W_ff ?_ | go_step)
    have h4l := HX.out.own.lt
    have H4N := Lib.hid HX.out.new
    clear h4l
    refine X_acts (w0 := W1) (by simp) elemAct (HX.out.later yn.ext) (Rd.built (xs := [⟨{ ActD.zero with kind := 8, n := keep }, Sl.nil, Sl.nil, Sl.nil⟩, crashV 3 ⟨some ⟨b1, 0, none⟩, 1, 1⟩, ⟨{ ActD.zero with kind := 2, ent := ⟨0, -1, 0, 0, 1, 0⟩ }, Sl.nil, Sl.nil, Sl.nil⟩]) hn2 hn3 rfl (by simp [maxLen])) (fun a ha => by
      simp only [List.mem_cons, List.not_mem_nil, or_false] at ha
      rcases ha with rfl | rfl | rfl
      · exact ActW.fit_plain _ _ rfl rfl rfl (by simp)
      · exact ⟨⟨⟨HI1.out.later (by simp), fun k hk h => by cases hk; have := H4N.out b1 h; omega⟩, RdN.nil _, RdN.nil _⟩, by simp [crashV]⟩
      · exact ActW.fit_plain _ _ rfl rfl rfl (by simp)) (by simp; omega) (by unfold maxLen; simp; omega) (fun y2 v' hO hM => ?_)
    have HO := Lib.hid hO
    clear hO hM
    clear hn1 hn2 hn3 hn4 hn5 yn v0 v1 v2 v3 HX
    have HB72 := Lib.hid (HB7.out.later y2.ext)
    have hb72 := HB72.out.lt
    repeat' (first | refine X_q ?_ | refine X_nil ?_ | refine W_seqk (fun K hK => ?_) | refine W_seqr ?_ | go_step)
    refine X_store (off := 1) HB72.out (fun W2 hM2 hB2 => ?_)
    have HM2 := Lib.hid hM2
    have HB2 := Lib.hid hB2
    clear hM2 hB2
    have hb73 := HB2.out.lt
    repeat' (first | refine X_q ?_ | fail)
    refine X_store (off := 2) HB2.out (fun W3 hM3 hB3 => ?_)
    have HM3 := Lib.hid (Mod.trans HM2.out hM3 (H := (· = b7)) (fun _ _ h => h) (fun _ _ h => h))
    have HB3 : Hid (Blk W3 b7 42 4 (fun k => #[Value.int .i64 0, .int .i64 4, .int .i64 4, .slice (some ⟨b1, 0, none⟩) 1 1].getD k undef)) := Lib.hid (hB3.congr (all4 ⟨rfl, rfl, rfl, rfl⟩))
    obtain ⟨l9, hl9⟩ : ∃ l9, l9 = crashV 3 ⟨some ⟨b1, 0, none⟩, 1, 1⟩ :: mid ++ [⟨{ ActD.zero with kind := 8, n := keep }, Sl.nil, Sl.nil, Sl.nil⟩, crashV 3 ⟨some ⟨b1, 0, none⟩, 1, 1⟩, ⟨{ ActD.zero with kind := 2, ent := ⟨0, -1, 0, 0, 1, 0⟩ }, Sl.nil, Sl.nil, Sl.nil⟩] := ⟨_, rfl⟩
    have hsl : ∀ a ∈ l9, (a.uI = Sl.nil ∨ a.uI = ⟨some ⟨b1, 0, none⟩, 1, 1⟩) ∧ a.uE = Sl.nil ∧ a.uL = Sl.nil := by
      subst hl9
      intro a ha
      simp only [List.mem_append, List.mem_cons, List.not_mem_nil, or_false] at ha
      rcases ha with (rfl | ha) | rfl | rfl | rfl
      · exact ⟨.inr rfl, rfl, rfl⟩
      · rcases HMID.out a ha with ⟨x, rfl⟩ | rfl <;> exact ⟨.inl rfl, rfl, rfl⟩
      · exact ⟨.inl rfl, rfl, rfl⟩
      · exact ⟨.inr rfl, rfl, rfl⟩
      · exact ⟨.inl rfl, rfl, rfl⟩
    have hX3 : ActsAt w W3 v' l9 := by
      have h1 := HO.out
      rw [← hl9] at h1
      have h2 := h1.mod HM3.out (fun a ha k hk => by
        subst hk
        obtain ⟨e1, e2, e3⟩ := hsl a ha
        rw [e2, e3]
        refine ⟨fun h => ?_, fun h => (by cases h), fun h => (by cases h)⟩
        rcases e1 with e1 | e1 <;> rw [e1] at h <;> cases h
        exact absurd h17 (Nat.lt_irrefl _)) (fun k hk e => by subst e; have := HO.out.new _ hk; omega)
      exact ⟨h2.own, h2.fit, fun k hk => Nat.le_trans HE1.out.size (h2.new k hk)⟩
    have HX3 := Lib.hid hX3
    have HE3 : Hid (Ext w W3) := Lib.hid (Ext.fresh (Ext.trans HE1.out y2.ext) HM3.out (fun k hk => by subst hk; omega))
    have HI3 : Hid (RdI W3 (.slice (some ⟨b1, 0, none⟩) 1 1) [0]) := Lib.hid ((HI1.out.later y2.ext).mod HM3.out (fun k hk e => by cases hk; have h' : b1 = b7 := e; omega))
    have HL9 := Lib.hid hl9
    have H9N : Hid (∀ k, v'.ownBlock = some k → W1.heap.size ≤ k) := Lib.hid HO.out.new
    have hml : mid.length ≤ 24 := by omega
    clear hM3 hB3 hsl hX3 HM2 HB2 HM3 HB72 hb72 hb73 HO hl9
    have hb74 := HB3.out.lt
    have v0 := HB3.out.cell (k := 0) (by simp)
    have v1 := HB3.out.cell (k := 1) (by simp)
    have v2 := HB3.out.cell (k := 2) (by simp)
    have v3 := HB3.out.cell (k := 3) (by simp)
    simp at v0 v1 v2 v3
    obtain ⟨A6, m6, c6, rfl⟩ := own_slice HX3.out.own
    have hl9l : l9.length ≤ 28 := by rw [HL9.out]; simp; omega
    repeat' (first | refine X_q ?_ | refine X_nil ?_ | refine W_seqk (fun K hK => ?_) | refine W_seqr ?_ | (refine X_s (fun x K hK => ?_); go_simp; refine hK _ _ (Ext.alloc _ _) ?_; clear hK K; refine X_al x ?_; generalize (World.later _ x).heap.size = bn; intro yn hn1 hn2 hn3 hn4 hn5; clear x) | go_step)
    refine X_acts (w0 := w) (Ext.trans HE3.out yn.ext) elemAct (HX3.out.later yn.ext) (Rd.built (xs := [crashV 4 ⟨some ⟨b1, 0, none⟩, 1, 1⟩, ⟨{ ActD.zero with kind := 2, ent := ⟨0, -1, 0, 0, 1, 0⟩ }, Sl.nil, Sl.nil, Sl.nil⟩, ⟨{ ActD.zero with kind := 3 }, Sl.nil, Sl.nil, Sl.nil⟩]) hn2 hn3 rfl (by simp [maxLen])) (fun a ha => by
      simp only [List.mem_cons, List.not_mem_nil, or_false] at ha
      rcases ha with rfl | rfl | rfl
      · exact ⟨⟨⟨HI3.out.later yn.ext, fun k hk h => by cases hk; have := H9N.out b1 h; omega⟩, RdN.nil _, RdN.nil _⟩, by simp [crashV]⟩
      · exact ActW.fit_plain _ _ rfl rfl rfl (by simp)
      · exact ActW.fit_plain _ _ rfl rfl rfl (by simp)) (by simp; omega) (by unfold maxLen; simp; omega) (fun y3 v' hO hM => ?_)
    have HO := Lib.hid hO
    clear hO hM
    clear hn1 hn2 hn3 hn4 hn5 yn v0 v1 v2 v3 HX3 HB3 HI3 H9N hb74
    obtain ⟨l10, hl10⟩ : ∃ l10, l10 = l9 ++ [crashV 4 ⟨some ⟨b1, 0, none⟩, 1, 1⟩, ⟨{ ActD.zero with kind := 2, ent := ⟨0, -1, 0, 0, 1, 0⟩ }, Sl.nil, Sl.nil, Sl.nil⟩, ⟨{ ActD.zero with kind := 3 }, Sl.nil, Sl.nil, Sl.nil⟩] := ⟨_, rfl⟩
    have HL10 := Lib.hid hl10
    rw [← hl10] at HO
    clear hl10
    have hl10l : l10.length = mid.length + 7 := by rw [HL10.out, HL9.out]; simp
    obtain ⟨A7, m7, c7, rfl⟩ := own_slice HO.out.own
    obtain rfl : m7 = l10.length := by have := Rd.length HO.out.rd; omega
    have HLL := Lib.hid hl10l
    clear hl10l
    repeat' (first | refine X_pure Tryz.func18 (HO.out.play 0 1) ?_ | refine X_q ?_ | refine X_nil ?_ | refine W_seqk (fun K hK => ?_) | refine W_seqr ?_ | refine W_skip ?_ | refine W_ff ?_ | go_step)
    refine X_ret Tryz.func13 (repNew_ok 0 1 rfl) (fun r w1 hR => ?_)
    obtain ⟨b, rfl, hE4, hb4, hR4⟩ := hR
    have HH1 := Lib.hid (HR.start (Ext.refl (w.later y3)) hE4 hR4)
    clear hR4
    repeat' (first | refine X_q ?_ | refine X_nil ?_ | refine W_seqk (fun K hK => ?_) | refine W_seqr ?_ | go_step)
    refine X_ret Tryz.func14 (new11_calls (N := fun _ => True) 0 1 _) (fun r w2 hR => ?_)
    obtain ⟨hE5, oL, oI, oC, rfl, hVO⟩ := hR
    obtain ⟨D1, x1, rfl, -⟩ := hVO.rl.ent
    obtain ⟨D2, x2, rfl, -⟩ := hVO.ri.int
    obtain ⟨D3, x3, rfl, -⟩ := hVO.rc.int
    (skip); (first | (refine X_var (fun yn b12 hn1 hn2 hn3 hn4 hn5 => ?_)) | (refine X_s (fun x K hK => ?_); go_simp; refine hK _ _ (Ext.alloc _ _) ?_; clear hK K; refine X_al x ?_; generalize (World.later _ x).heap.size = b12; intro yn hn1 hn2 hn3 hn4 hn5; clear x)); have HBb12 := Lib.hid (Blk.new hn5.out); have HEb12 := Lib.hid yn.ext; have hlb12 : (World.heap w2).size ≤ b12 := hn1; generalize World.later w2 yn = W5 at *; clear hn1 hn2 hn3 hn4 hn5 yn
    have HB9 := Lib.hid (fbox2 HBb12.out)
    have HH3 := Lib.hid ((HH1.out.later hE5).later HEb12.out)
    have HV3 := Lib.hid (hVO.later HEb12.out)
    have hs1 := hE4.size
    have hs2 := hE5.size
    have hst : PlaySt (w.later y3) W5 b b12 _ (RepS.init 0 1) _ _ _ := ⟨HH3.out, ⟨good_init rfl, by show (0 : Int) ≤ 0 ∧ (0 : Int) ≤ _; decide⟩, HB9.out, HV3.out.less (fun _ _ => trivial), fun h => by have := h.2; omega, by omega⟩
    have HST := Lib.hid hst
    clear hst HBb12 HEb12 hE4 hE5 hVO hb4 HH1 HH3 HV3 HB9
    obtain ⟨A8, c8, e8, -, -, HRD⟩ := HO.out.rd.actV.act
    rw [List.length_map] at e8
    cases e8
    repeat' (first | refine X_q ?_ | refine X_nil ?_ | refine W_seqk (fun K hK => ?_) | refine W_seqr ?_ | refine W_block ?_ | go_step)
    have HHA := HO
    refine W_loops [2, 6, 8, 10, 11, 12, 13] (fun j vs w' => ∃ (k : Nat) (F : Nat → Prop) (s : RepS) (uL uI uC : Value), k + j = mid.length + 1 ∧ vs = [.int .i64 keep, .bool false, .slice A7 l10.length c7, .pointer (some ⟨b, 0, none⟩), .int .i64 0, .pointer (some ⟨b12, 0, none⟩), .int .i64 k] ∧ PlaySt (w.later y3) w' b b12 F s uL uI uC ∧ CrashSt k s) (mid.length + 1) hd hA (by decide) ⟨0, _, _, _, _, _, by omega, by simp, HST.out, .inl ⟨rfl, rfl⟩⟩ ?_
    clear hd hA B HST; intro j vs B w' hd hA _ ⟨k, F, s, uL, uI, uC, hkn, hvs, hS, hcs⟩; subst hvs
    have HS := Lib.hid hS
    have HCS := Lib.hid hcs
    obtain ⟨C1, q1, rfl, -⟩ := hS.vr.rl.ent
    obtain ⟨C2, q2, rfl, -⟩ := hS.vr.ri.int
    obtain ⟨C3, q3, rfl, -⟩ := hS.vr.rc.int
    clear hS hcs
    have hs12 := HS.out.blk.lt
    simp only [List.zip_cons_cons, List.zip_nil_right, List.zip_nil_left]
    by_cases hlt : k < mid.length + 1
    · have hki : (k : Int) < (l10.length : Int) - 6 := by have := HLL.out; omega
      have hkl : (k : Int) < l10.length := by omega
      have hlo : 7 ≤ l10.length := by have := HLL.out; omega
      have hlo2 : l10.length ≤ 40 := by have := HLL.out; omega
      obtain ⟨aV, ba, oa, HXA, hA7, hba, HC⟩ := HRD.out k (by rw [List.length_map]; omega)
      obtain ⟨a, haV, hga⟩ : ∃ a : ActW, aV = a.toV ∧ l10[k]? = some a := by
        have h1 := HXA.out
        rw [List.getElem?_map] at h1
        cases h2 : l10[k]? with
        | none => rw [h2] at h1; cases h1
        | some a => rw [h2] at h1; exact ⟨a, by simpa using h1.symm, rfl⟩
      subst haV
      have hmem : a ∈ l10 := mem_of_get hga
      have hnext : CrashSt (k + 1) (s.step (a.act.atS s)) ∧ a.toV.big = false := by
        rw [HL10.out, HL9.out] at hga
        by_cases hk0 : k = 0
        · subst hk0
          obtain rfl : _ = a := by simpa using hga
          rcases HCS.out with ⟨-, rfl⟩ | ⟨h, -⟩
          · exact ⟨crash_first _, rfl⟩
          · omega
        · have hm : a ∈ mid := by
            rw [List.append_assoc, List.cons_append, List.getElem?_cons, if_neg hk0, List.getElem?_append_left (by omega)] at hga
            exact mem_of_get hga
          have hcm := HMID.out a hm
          exact ⟨crash_next (by omega) HCS.out hcm, by rcases hcm with ⟨x, rfl⟩ | rfl <;> rfl⟩
      have HNX := Lib.hid hnext.1
      have HDOA : Hid (DoesOk a.toV) := Lib.hid (doesOk hnext.2 (HHA.out.fit a hmem).2)
      have HEW := Lib.hid HS.out.hr.ext
      have HCW : Hid (∀ j u, (a.toV.cs)[j]? = some u → w'.cell? ⟨ba, oa + k * 27 + j, none⟩ = some u) := Lib.hid (fun j u hu => (World.cell?_of_block (HEW.out.block ba hba (fun h => h))).trans (HC.out j u hu))
      have hbw : ba < w'.heap.size := Nat.lt_of_lt_of_le hba HEW.out.size
      have HACT : Hid (ActR (fun k => F k ∨ k = b12) w' a.uI.v a.uE.v a.uL.v a.act) := Lib.hid (((HHA.out.fit a hmem).1.wide (fun k hk => .inr (hk.elim (fun h => (HS.out.hr.hi k h).1) (fun e => by subst e; exact HS.out.lo)))).later HEW.out)
      clear HXA HC hmem hba hga hnext
      subst hA7
      repeat' (first | refine X_q ?_ | refine X_nil ?_ | refine W_seqk (fun K hK => ?_) | refine W_seqr ?_ | refine W_skip ?_ | refine W_block ?_ | refine W_tt ?_ | go_step)
      obtain ⟨G, hG⟩ : ∃ G : Nat → Prop, G = (fun k => F k ∨ k = b12) := ⟨_, rfl⟩
      have HGo : Hid (G b12) := Lib.hid (by subst hG; exact .inr rfl)
      have HFG : Hid (∀ k, F k → G k) := Lib.hid (fun k hk => by subst hG; exact .inl hk)
      clear hG
      refine W_drawG G [(0, 0), (1, 3), (2, 0), (3, 0), (4, 0), (5, 3), (6, 1), (7, 0), (8, 0), (9, 0), (10, 2)] (by kernel_rfl) (by kernel_rfl) ?_
      repeat' (first | refine Y_q ?_ | fail)
      refine Y_floadr HS.out.blk ?_ (hu := Tryz.underlying33)
      repeat' (first | refine Y_q ?_ | fail)
      refine Y_aelemr (a := a.toV) hbw HCW.out ?_ (hu := Tryz.underlying51)
      skip
      refine Y_ret Tryz.func16 (R := fun r W' => DoesR (w.later y3) w' b F (· = b12) (s.step (a.act.atS s)) r W') (fun x => Ret.mono (HDOA.out (w.later y3) _ b F (· = b12) s _ _ _ (HS.out.hr.later x.2) HS.out.fine (fun k hk => by subst hk; exact Nat.lt_of_lt_of_le hs12 x.2.size) (HS.out.vr.later x.2) (HACT.out.later x.2)) (fun r W' hR => ?_)) (fun r w4 hR => ?_)
      · obtain ⟨v1, h1, h2, F1, h3, h4, h5⟩ := hR
        exact ⟨⟨v1, h1, Mod.trans x.2 h2 (fun _ _ h => h.elim) (fun _ _ h => h), F1, h3, h4, fun k hk => (h5 k hk).imp id (fun h => Nat.le_trans x.2.size h)⟩, h2.mono (fun k _ hk => HFG.out k hk)⟩
      obtain ⟨v1, rfl, hM, F', hH, ⟨vL, vI, vC, rfl, hV⟩, hF'⟩ := hR
      obtain ⟨E1, z1, rfl, -⟩ := hV.rl.ent
      obtain ⟨E2, z2, rfl, -⟩ := hV.ri.int
      obtain ⟨E3, z3, rfl, -⟩ := hV.rc.int
      have hn12 : ¬ F' b12 := fun hk => (hF' b12 hk).elim HS.out.nf (fun h1 => by omega)
      have HB4 := Lib.hid (HS.out.blk.mod hM HS.out.nf)
      have HH4 := Lib.hid hH
      have HV4 := Lib.hid hV
      have HFI := Lib.hid (fine_step HS.out.fine (a.act.atS s))
      clear hM hH hV hF' HCW HACT HDOA hbw
      repeat' (first | refine Y_q ?_ | fail)
      refine Y_store (off := 0) HB4.out HGo.out (fun W6 hM6 hG6 hB6 => ?_)
      have HM6 := Lib.hid hM6
      have HB6 := Lib.hid (fput hB6)
      clear hM6 hG6 hB6
      repeat' (first | refine Y_nil ?_)
      repeat' (first | refine X_q ?_ | refine X_nil ?_ | refine W_seqr ?_ | go_step)
      exact ⟨_, _, rfl, hd, hA, j - 1, by omega, k + 1, F', _, _, _, _, by omega, by simp, ⟨HH4.out.beside HM6.out (fun k hk => by subst hk; exact HS.out.lo) (fun k hk e => hn12 (e ▸ hk)), HFI.out, HB6.out, HV4.out.mod HM6.out (fun k hk => .inr hk), hn12, HS.out.lo⟩, HNX.out⟩
    · have hkk : k = mid.length + 1 := by omega
      have hki : ¬ (k : Int) < (l10.length : Int) - 6 := by have := HLL.out; omega
      have hlo : 7 ≤ l10.length := by have := HLL.out; omega
      have hlo2 : l10.length ≤ 40 := by have := HLL.out; omega
      obtain ⟨-, hce, hcs, hcl⟩ : 0 < k ∧ s.epoch = 3 ∧ s.self = 0 ∧ s.log.length ≤ k := by
        rcases HCS.out with ⟨h, -⟩ | h
        · omega
        · exact h
      have HG := Lib.hid HS.out.fine.good
      have hll : s.log.length ≤ 40 := by omega
      have HCC := Lib.hid (And.intro hce (And.intro hcs hcl))
      clear hkk hce hcs hcl
      repeat' (first | refine X_q ?_ | refine X_nil ?_ | refine W_seqk (fun K hK => ?_) | refine W_seqr ?_ | refine W_exit ?_ | refine W_ff ?_ | go_step)
      refine X_ret Tryz.func17 (log_calls HS.out.hr.rep HG.out.ne (by omega)) (fun r w5 hR => ?_)
      obtain ⟨hE5, hO5, -⟩ := hR
      obtain ⟨E1, z1, rfl, -⟩ := (hO5.rd Ent.len).ent
      have HH5 := Lib.hid (HS.out.hr.later hE5)
      clear hO5 hE5
      repeat' (first | refine X_q ?_ | fail)
      refine X_ret Tryz.func15 (standing_rep HH5.out.rep HG.out.ne (by have := HG.out.ilen; omega) (by have := HG.out.ilen; omega)) (fun r w6 hR => ?_)
      obtain ⟨hE6, u1, u2, u3, rfl, k1, k2, k3, -⟩ := hR
      obtain ⟨K1, kk1, rfl, -⟩ := k1.int
      obtain ⟨K2, kk2, rfl, -⟩ := k2.int
      obtain ⟨K3, kk3, rfl, -⟩ := k3.int
      clear k1 k2 k3
      have HH6 := Lib.hid (HH5.out.later hE6)
      simp only [Stand.v]
      have hst : s.stand.flushed = s.flushed := by unfold RepS.stand; split <;> rfl
      clear hE6
      have hfl := HG.out.fl
      by_cases hA0 : 0 < keep
      · by_cases hB0 : 100 < keep
        · repeat' (first | refine X_q ?_ | refine X_nil ?_ | refine W_seqk (fun K hK => ?_) | refine W_seqr ?_ | go_step)
          have hc2 : (s.crash keep).2 = 0 := by unfold RepS.crash; rw [if_neg (by omega)]
          refine X_ret Tryz.func19 (crash_rep HH6.out.rep HG.out.ne HG.out.len HG.out.fl.1 HG.out.fl.2 keep) (fun r w7 hR => ?_)
          rw [hc2] at hR
          obtain ⟨rfl, hM7, hR7⟩ := hR
          have HH7 := Lib.hid (HH6.out.step hM7 hR7)
          have HG7 := Lib.hid (good_crash HG.out keep)
          have hlen := crash_len HG.out hll keep (by omega)
          have HLRN := Lib.hid (crash_learn (s := s) (kp := keep) (by omega) HCC.out.1 HCC.out.2.1)
          clear hM7 hR7 hc2
          simp only [if_pos hB0] at hlen
          generalize (s.crash keep).1 = s1 at *
          repeat' (first | refine X_gt ?_ | refine X_q ?_ | refine X_nil ?_ | refine W_seqk (fun K hK => ?_) | refine W_seqr ?_ | go_step)
          refine X_ret Tryz.func17 (log_calls HH7.out.rep HG7.out.ne (by have := HG7.out.len; omega)) (fun r w8 hR => ?_)
          obtain ⟨hE8, hO8, -⟩ := hR
          obtain ⟨E2, z2, rfl, -⟩ := (hO8.rd Ent.len).ent
          have HH8 := Lib.hid (HH7.out.later hE8)
          clear hO8 hE8
          repeat' (first | refine X_gt ?_ | refine X_q ?_ | (refine X_s (fun x K hK => ?_); go_simp; refine hK _ _ (Ext.alloc _ _) ?_; clear hK K; refine X_al x ?_; generalize (World.later _ x).heap.size = bn; intro yn hn1 hn2 hn3 hn4 hn5; clear x) | fail)
          have HH9 := Lib.hid (HH8.out.later yn.ext)
          refine X_ret Tryz.func20 (learn_calls (x := ⟨0, 3, 9, [0]⟩) HH9.out.rep HG7.out.ne ⟨_, rfl, (RdI.built (N := fun _ => False) (xs := [0]) rfl hn5.out (by simp [maxLen]) (fun h => h)).rd⟩ (fun p q r u hu k hk hf => by cases hu; cases hk; exact HH8.out.new hn1 hf)) (fun r w9 hR => ?_)
          rw [HLRN.out] at hR
          obtain ⟨rfl, hM9, hR9⟩ := hR
          have HEND := Lib.hid (HH9.out.step hM9 hR9).ext
          clear hM9 hR9
          repeat' (first | refine X_gpure Tryz.func12 (fun _ => known11_calls) ?_ | refine X_gt ?_ | refine X_q ?_ | refine X_nil ?_ | refine W_ret ?_ | go_step)
          exact Body_ret hd ⟨rfl, Ext.trans y3.ext HEND.out⟩
        · repeat' (first | refine X_q ?_ | refine X_nil ?_ | refine W_seqk (fun K hK => ?_) | refine W_seqr ?_ | go_step)
          have hc2 : (s.crash keep).2 = 0 := by unfold RepS.crash; rw [if_neg (by omega)]
          refine X_ret Tryz.func19 (crash_rep HH6.out.rep HG.out.ne HG.out.len HG.out.fl.1 HG.out.fl.2 keep) (fun r w7 hR => ?_)
          rw [hc2] at hR
          obtain ⟨rfl, hM7, hR7⟩ := hR
          have HH7 := Lib.hid (HH6.out.step hM7 hR7)
          have HG7 := Lib.hid (good_crash HG.out keep)
          have hlen := crash_len HG.out hll keep (by omega)
          have HLRN := Lib.hid (crash_learn (s := s) (kp := keep) (by omega) HCC.out.1 HCC.out.2.1)
          clear hM7 hR7 hc2
          simp only [if_neg hB0] at hlen
          generalize (s.crash keep).1 = s1 at *
          repeat' (first | refine X_gt ?_ | refine X_q ?_ | refine X_nil ?_ | refine W_seqk (fun K hK => ?_) | refine W_seqr ?_ | go_step)
          refine X_ret Tryz.func17 (log_calls HH7.out.rep HG7.out.ne (by have := HG7.out.len; omega)) (fun r w8 hR => ?_)
          obtain ⟨hE8, hO8, -⟩ := hR
          obtain ⟨E2, z2, rfl, -⟩ := (hO8.rd Ent.len).ent
          have HH8 := Lib.hid (HH7.out.later hE8)
          clear hO8 hE8
          repeat' (first | refine X_gt ?_ | refine X_q ?_ | (refine X_s (fun x K hK => ?_); go_simp; refine hK _ _ (Ext.alloc _ _) ?_; clear hK K; refine X_al x ?_; generalize (World.later _ x).heap.size = bn; intro yn hn1 hn2 hn3 hn4 hn5; clear x) | fail)
          have HH9 := Lib.hid (HH8.out.later yn.ext)
          refine X_ret Tryz.func20 (learn_calls (x := ⟨0, 3, 9, [0]⟩) HH9.out.rep HG7.out.ne ⟨_, rfl, (RdI.built (N := fun _ => False) (xs := [0]) rfl hn5.out (by simp [maxLen]) (fun h => h)).rd⟩ (fun p q r u hu k hk hf => by cases hu; cases hk; exact HH8.out.new hn1 hf)) (fun r w9 hR => ?_)
          rw [HLRN.out] at hR
          obtain ⟨rfl, hM9, hR9⟩ := hR
          have HEND := Lib.hid (HH9.out.step hM9 hR9).ext
          clear hM9 hR9
          repeat' (first | refine X_gpure Tryz.func12 (fun _ => known11_calls) ?_ | refine X_gt ?_ | refine X_q ?_ | refine X_nil ?_ | refine W_ret ?_ | go_step)
          exact Body_ret hd ⟨rfl, Ext.trans y3.ext HEND.out⟩
      · repeat' (first | refine X_q ?_ | refine X_nil ?_ | refine W_seqk (fun K hK => ?_) | refine W_seqr ?_ | go_step)
        have hc2 : (s.crash 0).2 = 0 := by unfold RepS.crash; rw [if_neg (by omega)]
        refine X_ret Tryz.func19 (crash_rep HH6.out.rep HG.out.ne HG.out.len HG.out.fl.1 HG.out.fl.2 0) (fun r w7 hR => ?_)
        rw [hc2] at hR
        obtain ⟨rfl, hM7, hR7⟩ := hR
        have HH7 := Lib.hid (HH6.out.step hM7 hR7)
        have HG7 := Lib.hid (good_crash HG.out 0)
        have hlen := crash_len HG.out hll 0 (by omega)
        have HLRN := Lib.hid (crash_learn (s := s) (kp := 0) (by omega) HCC.out.1 HCC.out.2.1)
        clear hM7 hR7 hc2
        simp only [show ¬ (100 : Int) < 0 by decide, if_false, Int.add_zero] at hlen
        generalize (s.crash 0).1 = s1 at *
        repeat' (first | refine X_gt ?_ | refine X_q ?_ | refine X_nil ?_ | refine W_seqk (fun K hK => ?_) | refine W_seqr ?_ | go_step)
        refine X_ret Tryz.func17 (log_calls HH7.out.rep HG7.out.ne (by have := HG7.out.len; omega)) (fun r w8 hR => ?_)
        obtain ⟨hE8, hO8, -⟩ := hR
        obtain ⟨E2, z2, rfl, -⟩ := (hO8.rd Ent.len).ent
        have HH8 := Lib.hid (HH7.out.later hE8)
        clear hO8 hE8
        repeat' (first | refine X_gt ?_ | refine X_q ?_ | (refine X_s (fun x K hK => ?_); go_simp; refine hK _ _ (Ext.alloc _ _) ?_; clear hK K; refine X_al x ?_; generalize (World.later _ x).heap.size = bn; intro yn hn1 hn2 hn3 hn4 hn5; clear x) | fail)
        have HH9 := Lib.hid (HH8.out.later yn.ext)
        refine X_ret Tryz.func20 (learn_calls (x := ⟨0, 3, 9, [0]⟩) HH9.out.rep HG7.out.ne ⟨_, rfl, (RdI.built (N := fun _ => False) (xs := [0]) rfl hn5.out (by simp [maxLen]) (fun h => h)).rd⟩ (fun p q r u hu k hk hf => by cases hu; cases hk; exact HH8.out.new hn1 hf)) (fun r w9 hR => ?_)
        rw [HLRN.out] at hR
        obtain ⟨rfl, hM9, hR9⟩ := hR
        have HEND := Lib.hid (HH9.out.step hM9 hR9).ext
        clear hM9 hR9
        repeat' (first | refine X_gpure Tryz.func12 (fun _ => known11_calls) ?_ | refine X_gt ?_ | refine X_q ?_ | refine X_nil ?_ | refine W_ret ?_ | go_step)
        exact Body_ret hd ⟨rfl, Ext.trans y3.ext HEND.out⟩
end Go.Ws
