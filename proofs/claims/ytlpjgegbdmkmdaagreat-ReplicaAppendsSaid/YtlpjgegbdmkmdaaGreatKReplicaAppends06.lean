/- Lemmas for the statement ReplicaAppends (joined texts); no condition. -/
import Derived.Test.YtlpjgegbdmkmdaaGreatKReplicaAppends05
namespace Go.Ws
open Go Go.RowKit Go.Proofs
set_option maxHeartbeats 2000000
set_option maxRecDepth 100000
set_option linter.unusedVariables false
set_option linter.unusedSimpArgs false

theorem eqlSlE (a : Option Addr) (n c : Nat) (w : World) : (binOp .eql 29 (.slice a n c) (.slice none 0 0)).run Tryz.prog w = .ok (.bool a.isNone) w := by
  cases a <;> rfl
theorem cloneE_calls {w : World} {v : Value} {l : List Ent} (hl : RdE w v l) (hn : l.length ≤ 1000000) : Ret Tryz.prog 46 #[v] w fun v' w' => Ext w w' ∧ OwnE w' v' l ∧ ∀ b, v'.ownBlock = some b → w.heap.size ≤ b := by
  have hl0 := Lib.hid hl
  obtain ⟨A0, c, rfl, hc, hcm, HA⟩ := hl
  clear HA
  cases A0 with
  | none =>
    have hl1 : l = [] := by
      obtain ⟨A', c', h1, _, _, h4⟩ := hl0.out
      cases h1
      rcases h4 with ⟨_, h⟩ | ⟨b, o, h, _⟩
      · exact h
      · cases h
    subst hl1
    have g := fun w => eqlSlE none 0 c w
    refine Fn_of Tryz.func46 rfl (Nat.le_of_ble_eq_true rfl) ?_; intro A hd hA; simp only [ix, Nat.reduceAdd]; replace hA : A.tmps.size = 8 := hA
    repeat' (first | refine X_q ?_ | refine X_nil ?_ | refine W_seqk (fun K hK => ?_) | refine W_seqr ?_ | refine W_ret ?_ | refine W_tt ?_ | go_step)
    exact Body_ret hd ⟨by simp, Own.nil _, by intro b hb; cases hb⟩
  | some a =>
    have g := fun w => eqlSlE (some a) l.length c w
    refine Fn_of Tryz.func46 rfl (Nat.le_of_ble_eq_true rfl) ?_; intro A hd hA; simp only [ix, Nat.reduceAdd]; replace hA : A.tmps.size = 8 := hA
    repeat' (first | refine X_q ?_ | refine X_nil ?_ | refine W_seqk (fun K hK => ?_) | refine W_seqr ?_ | refine W_skip ?_ | (refine X_s (fun x K hK => ?_); go_simp; refine hK _ _ (Ext.alloc _ _) ?_; clear hK K; refine X_al x ?_; generalize (World.later _ x).heap.size = bn; intro yn hn1 hn2 hn3 hn4 hn5; clear x) | refine W_ff ?_ | go_step)
    refine X_append (xs := []) elemEnt (Own.empty hn5.out) (hl0.out.later (by simp)) (by simp; omega) (by unfold maxLen; simp; omega) (fun v' W' hM hO hF _ => ?_)
    repeat' (first | refine X_q ?_ | refine X_nil ?_ | refine W_ret ?_ | go_step)
    refine Body_ret hd ⟨Ext.fresh yn.2 hM (fun b hb => by cases hb; exact hn1), hO, fun b hb => ?_⟩
    have hs : w.heap.size ≤ (w.later yn).heap.size := yn.2.size
    rcases hF with h | ⟨g, h, hg⟩
    · rw [h] at hb; cases hb; exact hn1
    · rw [h] at hb; cases hb; omega
theorem log_calls {w : World} {b : Nat} {F : Nat → Prop} {s : RepS} (h : Rep w b F s) (hs : s.least ≠ 0) (hn : s.log.length ≤ 1000000) : Ret Tryz.prog 17 #[.pointer (some ⟨b, 0, none⟩)] w fun v' w' => Ext w w' ∧ OwnE w' v' s.log ∧ ∀ b, v'.ownBlock = some b → w.heap.size ≤ b := by
  have HP := Lib.hid h
  obtain ⟨uL, uI, uC, h, hf⟩ := h.ex
  have H := Lib.hid h
  obtain ⟨hlt, -, -, -, -, -, -, -, -, d12, -, -⟩ := h.cells
  obtain ⟨A1, c1, rfl, -⟩ := h.rdL.ent
  clear h hf
  refine Fn_of Tryz.func17 rfl (Nat.le_of_ble_eq_true rfl) ?_; intro A hd hA; simp only [ix, Nat.reduceAdd]; replace hA : A.tmps.size = 10 := hA
  repeat' (first | refine X_pure Tryz.func33 (none_of (HP.out.later (by simp)) hs) ?_ | refine X_q ?_ | refine X_nil ?_ | refine W_seqk (fun K hK => ?_) | refine W_seqr ?_ | refine W_skip ?_ | refine W_ff ?_ | go_step)
  refine X_ret Tryz.func46 (cloneE_calls H.out.rdL hn) (fun r w1 hR => ?_)
  repeat' (first | refine X_q ?_ | refine X_nil ?_ | refine W_ret ?_ | go_step)
  exact Body_ret hd hR
/-- What it asks. -/
structure Fetch where
  src : Int
  epoch : Int
  offset : Int
  last : Int
  flushed : Int
abbrev Fetch.cs (f : Fetch) : List Value := [.int .i64 f.src, .int .i64 f.epoch, .int .i64 f.offset, .int .i64 f.last, .int .i64 f.flushed]
abbrev Fetch.v (f : Fetch) : Value := .agg #[.int .i64 f.src, .int .i64 f.epoch, .int .i64 f.offset, .int .i64 f.last, .int .i64 f.flushed]
def RepS.asks (s : RepS) : Fetch := ⟨s.self, s.epoch, s.log.length, lastE s.log, s.flushed⟩
theorem ask_ok {w : World} {b : Nat} {F : Nat → Prop} {s : RepS} (h : Rep w b F s) (hs : s.least ≠ 0) (hm : mayE s.log = true) (hr : s.role = 2) : Ret Tryz.prog 22 #[.pointer (some ⟨b, 0, none⟩)] w fun v w' => v = .tuple #[s.asks.v, .int .i64 0] ∧ Ext w w' := by
  have HP := Lib.hid h
  obtain ⟨uL, uI, uC, h, hf⟩ := h.ex
  have H := Lib.hid h
  obtain ⟨hlt, -, -, -, -, d8, -, d10, d11, d12, d13, -⟩ := h.cells
  obtain ⟨A1, c1, rfl, -⟩ := h.rdL.ent
  clear h hf
  have hrb : (s.role == 2) = true := by simp [hr]
  refine Fn_ofD Tryz.func22 rfl (Nat.le_of_ble_eq_true rfl) ?_; intro A hd hA; simp only [ix, Nat.reduceAdd]; replace hA : A.tmps.size = 38 := hA
  repeat' (first | refine X_nil ?_ | refine W_seqk (fun K hK => ?_) | refine W_seqr ?_ | (refine X_s (fun x K hK => ?_); go_simp; refine hK _ _ (Ext.alloc _ _) ?_; clear hK K; refine X_al x ?_; generalize (World.later _ x).heap.size = bn; intro yn hn1 hn2 hn3 hn4 hn5; clear x) | go_step)
  rename_i bv yv p1 p2 p3 p4 p5
  refine X_defc (be := bn) hd hA (fun W hE => by unfold execOp caughtD; go_simp) ?_; have hbe := Lib.hid (Blk.one hn5.out); clear hd hA A; intro A hd hA
  have hbv := Lib.hid (Blk.new p5.out)
  repeat' (first | refine X_pure Tryz.func33 (none_of (HP.out.later (by simp)) hs) ?_ | refine X_pure Tryz.func50 (must_ok _) ?_ | refine X_q ?_ | refine X_nil ?_ | refine W_seqk (fun K hK => ?_) | refine W_seqr ?_ | go_step)
  have hne : bv ≠ bn := by have := hbv.out.lt; omega
  obtain ⟨G, hG⟩ : ∃ G : Nat → Prop, G = (fun k => k = bv ∨ k = bn) := ⟨_, rfl⟩
  have hGb : ¬ G b := by subst hG; simp; omega
  have HGv : Hid (G bv) := Lib.hid (by subst hG; exact .inl rfl)
  have HGn : Hid (G bn) := Lib.hid (by subst hG; exact .inr rfl)
  have HGw : Hid (∀ k, G k → w.heap.size ≤ k) := Lib.hid (by subst hG; intro k hk; rcases hk with rfl | rfl <;> omega)
  clear hG
  have HE := Lib.hid (by simp : Ext w ((w.later yv).later yn))
  have HX := Lib.hid (hbv.out.later yn.2)
  clear hbv
  refine W_drawG G [(0, 0), (1, 0), (2, 0), (3, 0), (4, 0), (5, 0), (6, 0), (7, 0), (8, 0), (9, 0), (10, 0), (11, 0), (12, 0), (13, 0), (15, 0), (16, 0), (17, 0), (18, 0), (14, 1), (19, 2), (20, 0), (21, 2), (22, 0), (23, 2), (24, 0), (25, 2), (26, 0), (27, 2), (28, 0), (29, 2), (30, 2)] (by kernel_rfl) (by kernel_rfl) ?_
  repeat' (first | refine Y_pure Tryz.func59 (fun x => rlast_calls (HP.out.later (by simp)) hm) ?_ | refine Y_q ?_ | fail)
  refine Y_store (off := 0) HX.out HGv.out (fun W1 hM hG1 hB => ?_)
  have HBE := Lib.hid (hbe.out.mod hM (fun h => hne h.symm)); have HX := Lib.hid hB; have HMG := Lib.hid hG1; clear hM hB hG1 hbe
  repeat' (first | refine Y_q ?_ | fail)
  refine Y_store (off := 0) HX.out HGv.out (fun W2 hM hG1 hB => ?_)
  have HBE := Lib.hid (HBE.out.mod hM (fun h => hne h.symm)); have HX := Lib.hid hB; have HMG := Lib.hid (HMG.out.transG hG1); clear hM hB hG1
  repeat' (first | refine Y_q ?_ | fail)
  refine Y_store (off := 1) HX.out HGv.out (fun W3 hM hG1 hB => ?_)
  have HBE := Lib.hid (HBE.out.mod hM (fun h => hne h.symm)); have HX := Lib.hid hB; have HMG := Lib.hid (HMG.out.transG hG1); clear hM hB hG1
  repeat' (first | refine Y_q ?_ | fail)
  refine Y_store (off := 2) HX.out HGv.out (fun W4 hM hG1 hB => ?_)
  have HBE := Lib.hid (HBE.out.mod hM (fun h => hne h.symm)); have HX := Lib.hid hB; have HMG := Lib.hid (HMG.out.transG hG1); clear hM hB hG1
  repeat' (first | refine Y_q ?_ | fail)
  refine Y_store (off := 3) HX.out HGv.out (fun W5 hM hG1 hB => ?_)
  have HBE := Lib.hid (HBE.out.mod hM (fun h => hne h.symm)); have HX := Lib.hid hB; have HMG := Lib.hid (HMG.out.transG hG1); clear hM hB hG1
  repeat' (first | refine Y_q ?_ | fail)
  refine Y_store (off := 4) HX.out HGv.out (fun W6 hM hG1 hB => ?_)
  have HBE := Lib.hid (HBE.out.mod hM (fun h => hne h.symm)); have HX := Lib.hid hB; have HMG := Lib.hid (HMG.out.transG hG1); clear hM hB hG1
  skip
  refine Y_store (off := 0) HBE.out HGn.out (fun W7 hM hG1 hB => ?_)
  have HX := Lib.hid (HX.out.mod hM hne); have HBE := Lib.hid hB; have HMG := Lib.hid (HMG.out.transG hG1); clear hM hB hG1
  repeat' (first | refine Y_nil ?_)
  repeat' (first | refine W_ret ?_ | go_step)
  refine End_ok2r (cs := s.asks.cs) hd (HBE.out.congr (g' := fun _ => .int .i64 0) (fun k hk => by obtain rfl : k = 0 := (by omega); rfl)) HX.out ?_ ⟨rfl, Ext.fresh HE.out HMG.out HGw.out⟩ Tryz.underlying47
  intro k hk
  simp only [List.length_cons, List.length_nil] at hk
  obtain rfl | rfl | rfl | rfl | rfl : k = 0 ∨ k = 1 ∨ k = 2 ∨ k = 3 ∨ k = 4 := by omega
  all_goals rfl
theorem ask_no {w : World} {b : Nat} {F : Nat → Prop} {s : RepS} (h : Rep w b F s) (hs : s.least ≠ 0) (hr : s.role ≠ 2) : Ret Tryz.prog 22 #[.pointer (some ⟨b, 0, none⟩)] w fun v w' => v = .tuple #[(Fetch.mk 0 0 0 0 0).v, .int .i64 211] ∧ Ext w w' := by
  have HP := Lib.hid h
  obtain ⟨uL, uI, uC, h, hf⟩ := h.ex
  obtain ⟨hlt, -, -, -, -, d8, -, d10, d11, d12, d13, -⟩ := h.cells
  clear h hf
  have hrb : (s.role == 2) = false := by simp [hr]
  refine Fn_ofD Tryz.func22 rfl (Nat.le_of_ble_eq_true rfl) ?_; intro A hd hA; simp only [ix, Nat.reduceAdd]; replace hA : A.tmps.size = 38 := hA
  repeat' (first | refine X_nil ?_ | refine W_seqk (fun K hK => ?_) | refine W_seqr ?_ | (refine X_s (fun x K hK => ?_); go_simp; refine hK _ _ (Ext.alloc _ _) ?_; clear hK K; refine X_al x ?_; generalize (World.later _ x).heap.size = bn; intro yn hn1 hn2 hn3 hn4 hn5; clear x) | go_step)
  rename_i bv yv p1 p2 p3 p4 p5
  refine X_defc (be := bn) hd hA (fun W hE => by unfold execOp caughtD; go_simp) ?_; have hbe := Lib.hid (Blk.one hn5.out); clear hd hA A; intro A hd hA
  have hne : bv ≠ bn := by omega
  have hbv := Lib.hid ((Blk.new p5.out).later yn.2)
  repeat' (first | refine X_pure Tryz.func33 (none_of (HP.out.later (by simp)) hs) ?_ | refine X_pure Tryz.func50 (must_ok 1) ?_ | refine X_q ?_ | refine X_nil ?_ | refine W_seqk (fun K hK => ?_) | refine W_seqr ?_ | go_step)
  refine X_die Tryz.func50 (must_no 211) (fun c w' hC => ?_)
  obtain ⟨rfl, hE⟩ := hC
  refine End_no2r (cs := (Fetch.mk 0 0 0 0 0).cs) hd (hbe.out.later hE) (hbv.out.later hE) ?_ hne (fun W1 hM => ⟨rfl, Ext.fresh (Ext.trans (by simp) hE : Ext w w') hM (fun k hk => by subst hk; omega)⟩) Tryz.underlying47
  intro k hk
  simp only [List.length_cons, List.length_nil] at hk
  obtain rfl | rfl | rfl | rfl | rfl : k = 0 ∨ k = 1 ∨ k = 2 ∨ k = 3 ∨ k = 4 := by omega
  all_goals rfl
end Go.Ws
namespace Go.Ws
open Go Go.RowKit Go.Proofs
set_option maxHeartbeats 2000000
set_option maxRecDepth 100000
set_option linter.unusedVariables false
set_option linter.unusedSimpArgs false

/-- The first state. -/
def RepS.init (self least : Int) : RepS := ⟨self, least, 1, 0, [], 0, 0, 0, 0, [], [], fun _ => 0⟩
def rightNew (self least : Int) : Bool := inB self 0 3 && inB least 1 4
theorem repNew_ok {w : World} (self least : Int) (h : rightNew self least = true) : Ret Tryz.prog 13 #[.int .i64 self, .int .i64 least] w fun v w' => ∃ b, v = .tuple #[.pointer (some ⟨b, 0, none⟩), .int .i64 0] ∧ Ext w w' ∧ w.heap.size ≤ b ∧ Rep w' b (fun k => w.heap.size ≤ k) (RepS.init self least) := by
  simp only [rightNew, Bool.and_eq_true] at h
  obtain ⟨h1, h2⟩ := h
  have h3 : 1 ≤ least := by simp [inB] at h2; omega
  have h4 : least ≤ 4 := by simp [inB] at h2; omega
  have h3b : ¬ least < 1 := by omega
  have h4b : ¬ 4 < least := by omega
  refine Fn_of Tryz.func13 rfl (Nat.le_of_ble_eq_true rfl) ?_; intro A hd hA; simp only [ix, Nat.reduceAdd]; replace hA : A.tmps.size = 21 := hA
  repeat' (first | refine X_q ?_ | refine X_nil ?_ | refine W_seqk (fun K hK => ?_) | refine W_seqr ?_ | go_step)
  refine W_scope ?_
  repeat' (first | refine X_pure Tryz.func32 (h1 ▸ broker_calls self _) ?_ | refine X_gt ?_ | refine X_q ?_ | refine X_nil ?_ | refine W_seqk (fun K hK => ?_) | refine W_seqr ?_ | refine W_ret ?_ | refine W_skip ?_ | (refine X_s (fun x K hK => ?_); go_simp; refine hK _ _ (Ext.alloc _ _) ?_; clear hK K; refine X_al x ?_; generalize (World.later _ x).heap.size = bn; intro yn hn1 hn2 hn3 hn4 hn5; clear x) | refine W_ff ?_ | go_step)
  refine Body_ret2 hd ⟨_, rfl, by simp, by first | assumption | omega, _, _, _, ⟨(Blk.new hn5.out).congr (all15 (by refine ⟨?_, ?_, ?_, ?_, ?_, ?_, ?_, ?_, ?_, ?_, ?_, ?_, ?_, ?_, ?_⟩ <;> rfl)), Own.nil _, Rd.nil _, Rd.nil _, by simp [Value.ownBlock], by simp [Value.ownBlock], by simp [Value.ownBlock], by intro k hk; cases hk⟩, ?_⟩
  rintro k (rfl | hk | hk | hk)
  · first | assumption | omega
  · cases hk
  · cases hk
  · cases hk
theorem repNew_no {w : World} (self least : Int) (h : rightNew self least = false) : Pure Tryz.prog 13 #[.int .i64 self, .int .i64 least] w (.tuple #[.pointer none, .int .i64 2]) := by
  by_cases h1 : inB self 0 3 = true
  · have h2 : ¬ (1 ≤ least ∧ least ≤ 4) := fun h2 => by rw [rightNew, h1, Bool.true_and] at h; simp [inB] at h; omega
    by_cases h3 : least < 1
    · refine Fn_of Tryz.func13 rfl (Nat.le_of_ble_eq_true rfl) ?_; intro A hd hA; simp only [ix, Nat.reduceAdd]; replace hA : A.tmps.size = 21 := hA
      repeat' (first | refine X_q ?_ | refine X_nil ?_ | refine W_seqk (fun K hK => ?_) | refine W_seqr ?_ | go_step)
      refine W_scopeF 0 rfl ?_
      repeat' (first | refine X_pure Tryz.func32 (h1 ▸ broker_calls self _) ?_ | refine X_gt ?_ | refine X_q ?_ | refine X_g ?_ | refine X_nil ?_ | refine W_seqk (fun K hK => ?_) | refine W_seqr ?_ | refine W_tt ?_ | go_step)
      refine W_goto ?_
      refine And.intro rfl ?_
      repeat' (first | refine X_q ?_ | refine X_nil ?_ | refine W_seqk (fun K hK => ?_) | refine W_seqr ?_ | refine W_ret ?_ | refine W_skip ?_ | go_step)
      exact Body_ret2 hd ⟨rfl, by simp⟩
    · have h4 : 4 < least := by omega
      refine Fn_of Tryz.func13 rfl (Nat.le_of_ble_eq_true rfl) ?_; intro A hd hA; simp only [ix, Nat.reduceAdd]; replace hA : A.tmps.size = 21 := hA
      repeat' (first | refine X_q ?_ | refine X_nil ?_ | refine W_seqk (fun K hK => ?_) | refine W_seqr ?_ | go_step)
      refine W_scopeF 0 rfl ?_
      repeat' (first | refine X_pure Tryz.func32 (h1 ▸ broker_calls self _) ?_ | refine X_gt ?_ | refine X_q ?_ | refine X_nil ?_ | refine W_seqk (fun K hK => ?_) | refine W_seqr ?_ | refine W_tt ?_ | go_step)
      refine W_goto ?_
      refine And.intro rfl ?_
      repeat' (first | refine X_q ?_ | refine X_nil ?_ | refine W_seqk (fun K hK => ?_) | refine W_seqr ?_ | refine W_ret ?_ | refine W_skip ?_ | go_step)
      exact Body_ret2 hd ⟨rfl, by simp⟩
  · have h1f : inB self 0 3 = false := by simpa using h1
    refine Fn_of Tryz.func13 rfl (Nat.le_of_ble_eq_true rfl) ?_; intro A hd hA; simp only [ix, Nat.reduceAdd]; replace hA : A.tmps.size = 21 := hA
    repeat' (first | refine X_q ?_ | refine X_nil ?_ | refine W_seqk (fun K hK => ?_) | refine W_seqr ?_ | go_step)
    refine W_scopeF 0 rfl ?_
    repeat' (first | refine X_pure Tryz.func32 (h1f ▸ broker_calls self _) ?_ | refine X_q ?_ | refine X_g ?_ | refine X_nil ?_ | refine W_seqk (fun K hK => ?_) | refine W_seqr ?_ | refine W_tt ?_ | go_step)
    refine W_goto ?_
    refine And.intro rfl ?_
    repeat' (first | refine X_q ?_ | refine X_nil ?_ | refine W_seqk (fun K hK => ?_) | refine W_seqr ?_ | refine W_ret ?_ | refine W_skip ?_ | go_step)
    exact Body_ret2 hd ⟨rfl, by simp⟩
def RepS.crash (s : RepS) (keep : Int) : RepS × Int :=
  if keep < 0 then (s, 2) else
    let n := gmin (s.log.length : Int) (s.flushed + gmin keep 4096)
    ({ s with version := 0, beg := 0, isr := [], counts := [], known := fun _ => 0, log := s.log.take n.toNat, flushed := n, high := gmin s.high n, role := 1 }, 0)
theorem crash_ok {w : World} {b : Nat} {F : Nat → Prop} {s : RepS} (h : Rep w b F s) (hs : s.least ≠ 0) (hl : s.log.length ≤ 4096) (hf0 : 0 ≤ s.flushed) (hf1 : s.flushed ≤ s.log.length) (keep : Int) (hk : 0 ≤ keep) :
    Ret Tryz.prog 19 #[.pointer (some ⟨b, 0, none⟩), .int .i64 keep] w fun r w' => r = .int .i64 0 ∧ Mod F w w' ∧ Rep w' b (fun k => F k ∨ w.heap.size ≤ k) (s.crash keep).1 := by
  refine h.tight (R := fun r _ => r = .int .i64 0) ?_
  intro F h hFW
  have hFb := Lib.hid h.own
  have HFW := Lib.hid hFW
  clear hFW
  have HP := Lib.hid h
  obtain ⟨uL, uI, uC, h, hf⟩ := h.ex
  have H := Lib.hid h
  have HFF := Lib.hid hf
  obtain ⟨hlt, -, -, -, -, d8, -, d10, d11, d12, d13, d14⟩ := h.cells
  obtain ⟨A1, c1, rfl, hc1, hc2, -⟩ := h.rdL.ent
  have HLT := Lib.hid h.lt
  clear h hf
  obtain ⟨n, hn⟩ : ∃ n : Nat, (n : Int) = gmin (s.log.length : Int) (s.flushed + gmin keep 4096) := by
    refine ⟨(gmin (s.log.length : Int) (s.flushed + gmin keep 4096)).toNat, ?_⟩
    rw [gmin_eq, gmin_eq]; omega
  have hnl : n ≤ s.log.length := by rw [gmin_eq, gmin_eq] at hn; omega
  have hcr : (s.crash keep).1 = { s with version := 0, beg := 0, isr := [], counts := [], known := fun _ => 0, log := s.log.take n, flushed := n, high := gmin s.high n, role := 1 } := by
    unfold RepS.crash
    rw [if_neg (by omega)]
    simp only [← hn]
    rfl
  rw [hcr]
  clear hcr
  have hnn : (if (s.flushed + if 4096 < keep then 4096 else keep) < (s.log.length : Int) then s.flushed + if 4096 < keep then 4096 else keep else (s.log.length : Int)) = (n : Int) := by rw [hn]; unfold gmin; rfl
  clear hn
  have hnc : n ≤ c1 := by omega
  have hk0 : ¬ keep < 0 := by omega
  have hkb : decide (0 ≤ keep) = true := by simpa using hk
  refine Fn_ofD Tryz.func19 rfl (Nat.le_of_ble_eq_true rfl) ?_; intro A hd hA; simp only [ix, Nat.reduceAdd]; replace hA : A.tmps.size = 56 := hA
  repeat' (first | refine X_nil ?_ | refine W_seqk (fun K hK => ?_) | refine W_seqr ?_ | (refine X_s (fun x K hK => ?_); go_simp; refine hK _ _ (Ext.alloc _ _) ?_; clear hK K; refine X_al x ?_; generalize (World.later _ x).heap.size = bn; intro yn hn1 hn2 hn3 hn4 hn5; clear x) | go_step)
  refine X_defc (be := bn) hd hA (fun W hE => by unfold execOp caughtD; go_simp) ?_; have hbe := Lib.hid (Blk.one hn5.out); clear hd hA A; intro A hd hA
  repeat' (first | refine X_pure Tryz.func33 (none_of (HP.out.later (by simp)) hs) ?_ | refine X_pure Tryz.func50 (must_ok _) ?_ | refine X_q ?_ | refine X_nil ?_ | refine W_seqk (fun K hK => ?_) | refine W_seqr ?_ | go_step)
  refine W_draw (by kernel_rfl) (by kernel_rfl) ?_
  repeat' (first | refine X_q ?_ | refine X_niln ?_ | refine W_seqk (fun K hK => ?_) | refine W_seqr ?_ | go_step)
  refine X_ret Tryz.func46 (cloneE_calls ((H.out.rdL.take n hnl).later (by simp)) (by simp; omega)) (fun r w1 hR => ?_)
  have HR := Lib.hid hR
  obtain ⟨y1, rfl⟩ := hR.1.get
  clear hR
  repeat' (first | refine X_q ?_ | fail)
  have HY := Lib.hid (And.intro hn1 (And.intro y1.2 (Ext.trans yn.2 y1.2)))
  have HN2 := Lib.hid hn2
  have HBE := Lib.hid (hbe.out.later y1.2)
  have HA0 := Lib.hid (H.out.later (Ext.trans yn.2 y1.2))
  obtain ⟨Ar, mr, cr, rfl⟩ := own_slice HR.out.2.1
  have hfr : ∀ k, (Value.slice Ar mr cr).ownBlock = some k → w.heap.size ≤ k := fun k hk => Nat.le_trans yn.2.size (HR.out.2.2 k hk)
  have HFR := Lib.hid hfr
  clear hfr hbe hn1 hn2 hn3 hn4 hn5
  refine X_store (off := 12) HA0.out.blk (fun W1 hM1 hB1 => ?_)
  have HA1 := Lib.hid (HA0.out.putL hM1 hB1 (HR.out.2.1.mod hM1 (fun k hk he => by subst he; have := HFR.out _ hk; omega)) (fun hk => by have := HFR.out _ hk; omega) (fun k hk => ⟨fun h => by have := HFR.out _ hk; have := HLT.out k (.inr (.inr (.inl h))); omega, fun h => by have := HFR.out _ hk; have := HLT.out k (.inr (.inr (.inr h))); omega⟩))
  have HM := Lib.hid (Mod.trans HY.out.2.2 hM1 (fun _ _ h => h.elim) (fun _ _ h => h) : Mod (· = b) w W1)
  have HBE := Lib.hid (HBE.out.mod hM1 (fun h => by have := HY.out.1; omega))
  clear hM1 hB1
  obtain ⟨hlt1, -, -, -, -, -, -, -, -, -, e13, e14⟩ := HA1.out.cells
  have hmin : (if (n : Int) < s.high then (n : Int) else s.high) = gmin s.high n := rfl
  repeat' (first | refine X_q ?_ | refine X_nil ?_ | refine W_seqk (fun K hK => ?_) | refine W_seqr ?_ | go_step)
  refine X_store (off := 13) HA1.out.blk (fun W2 hM2 hB2 => ?_)
  have HA2 := Lib.hid (HA1.out.putFlu hM2 hB2)
  have HM := Lib.hid (HM.out.transG hM2)
  have HBE := Lib.hid (HBE.out.mod hM2 (fun h => by have := HY.out.1; omega))
  clear hM2 hB2
  repeat' (first | refine X_q ?_ | fail)
  refine X_store (off := 14) HA2.out.blk (fun W3 hM3 hB3 => ?_)
  have HA3 := Lib.hid (HA2.out.putHigh hM3 hB3)
  have HM := Lib.hid (HM.out.transG hM3)
  have HBE := Lib.hid (HBE.out.mod hM3 (fun h => by have := HY.out.1; omega))
  clear hM3 hB3
  repeat' (first | refine X_q ?_ | refine X_nil ?_ | refine W_seqk (fun K hK => ?_) | refine W_seqr ?_ | go_step)
  refine X_store (off := 10) HA3.out.blk (fun W4 hM4 hB4 => ?_)
  have HA4 := Lib.hid (HA3.out.putRole hM4 hB4)
  have HM := Lib.hid (HM.out.transG hM4)
  have HBE := Lib.hid (HBE.out.mod hM4 (fun h => by have := HY.out.1; omega))
  clear hM4 hB4
  repeat' (first | refine X_q ?_ | fail)
  refine X_store (off := 0) HA4.out.blk (fun W5 hM5 hB5 => ?_)
  have HA5 := Lib.hid (HA4.out.putBare hM5 hB5)
  have HM := Lib.hid (HM.out.transG hM5)
  have HBE := Lib.hid (HBE.out.mod hM5 (fun h => by have := HY.out.1; omega))
  clear hM5 hB5
  repeat' (first | refine X_nil ?_ | refine W_seqk (fun K hK => ?_) | refine W_seqr ?_ | go_step)
  refine X_store (off := 0) HBE.out (fun W6 hM6 hB6 => ?_)
  have HA6 := Lib.hid (HA5.out.mod hM6 (fun k hk he => by subst he; have := HY.out.1; rcases hk with h | h | h | h; (have := HY.out.1; omega); (have := HR.out.2.2 _ h; have := HN2.out; omega); cases h; cases h))
  have HB6 := Lib.hid hB6
  have HM6 := Lib.hid hM6
  clear hM6 hB6
  repeat' (first | refine X_nil ?_ | refine W_ret ?_ | go_step)
  refine End_ok1 hd (HB6.out.congr (g' := fun _ => .int .i64 0) (fun k hk => by obtain rfl : k = 0 := (by omega); rfl)) ⟨rfl, ?_, _, _, _, HA6.out, ?_⟩
  · exact Mod.trans HM.out HM6.out (fun k _ h => by subst h; exact hFb.out) (fun k hk h => by subst h; have := HY.out.1; omega)
  · rintro k (rfl | hk | hk | hk)
    · exact .inl hFb.out
    · exact .inr (HFR.out k hk)
    · cases hk
    · cases hk
end Go.Ws
namespace Go.Ws
open Go Go.RowKit Go.Proofs
set_option linter.unusedVariables false
set_option linter.unusedSimpArgs false

/-! ### The plain law of what is kept of an ID -/
def highB (l : List Ent) (i : Int) : Int := l.foldl (fun n e => if e.id = i then max n e.num else n) 0
def markB (l : List Ent) (i : Int) : Int := l.foldl (fun n e => if e.id = i ∧ 1 < e.kind then max n e.num else n) 0
def nextB (l : List Ent) (i num : Int) : Int := l.foldl (fun n e => if e.id = i ∧ e.num = num ∧ e.kind = 1 then max n (e.seq + 1) else n) 0
theorem gmax_eq (a b : Int) : gmax a b = max a b := by unfold gmax; rw [Int.max_def]; split <;> split <;> omega
theorem highB_snoc (l : List Ent) (e : Ent) (i : Int) : highB (l ++ [e]) i = if e.id = i then max (highB l i) e.num else highB l i := by simp [highB, List.foldl_append]
theorem markB_snoc (l : List Ent) (e : Ent) (i : Int) : markB (l ++ [e]) i = if e.id = i ∧ 1 < e.kind then max (markB l i) e.num else markB l i := by simp [markB, List.foldl_append]
theorem nextB_snoc (l : List Ent) (e : Ent) (i num : Int) : nextB (l ++ [e]) i num = if e.id = i ∧ e.num = num ∧ e.kind = 1 then max (nextB l i num) (e.seq + 1) else nextB l i num := by simp [nextB, List.foldl_append]
theorem wr_high (l : List Ent) (i : Int) : (wrOf l i).high = highB l i := by
  induction l using snocInd with
  | h0 => rfl
  | hs l e ih =>
    rw [wrOf_snoc, highB_snoc]
    by_cases hi : e.id = i
    · rw [if_pos hi, if_pos hi, ← ih, ← gmax_eq]
      unfold Wr.step
      split <;> rfl
    · rw [if_neg hi, if_neg hi, ih]
theorem wr_marked (l : List Ent) (i : Int) : (∀ e ∈ l, 1 ≤ e.kind) → (wrOf l i).marked = markB l i := by
  induction l using snocInd with
  | h0 => intro _; rfl
  | hs l e ih =>
    intro hk
    have ih := ih (fun x hx => hk x (by simp [hx]))
    have he := hk e (by simp)
    rw [wrOf_snoc, markB_snoc]
    by_cases hi : e.id = i
    · rw [if_pos hi]
      unfold Wr.step
      by_cases h1 : e.kind ≠ 1
      · rw [if_pos h1, if_pos ⟨hi, by omega⟩, ← ih, ← gmax_eq]
      · have h2 : ¬ (e.id = i ∧ 1 < e.kind) := fun h => by have := h.2; omega
        rw [if_neg h1, if_neg h2, ← ih]
    · rw [if_neg hi, if_neg (fun h => hi h.1), ih]
theorem wr_next (l : List Ent) (i num : Int) : ((wrOf l i).next num).getD 0 = nextB l i num := by
  induction l using snocInd with
  | h0 => rfl
  | hs l e ih =>
    rw [wrOf_snoc, nextB_snoc]
    by_cases hi : e.id = i
    · rw [if_pos hi]
      unfold Wr.step
      by_cases h1 : e.kind ≠ 1
      · rw [if_pos h1, if_neg (fun h => h1 h.2.2), ← ih]
      · rw [if_neg h1]
        simp only [upd]
        by_cases hn : num = e.num
        · subst hn
          rw [if_pos rfl, if_pos ⟨hi, rfl, by omega⟩, ← ih, ← gmax_eq]; rfl
        · rw [if_neg hn, if_neg (fun h => hn h.2.1.symm), ih]
    · rw [if_neg hi, if_neg (fun h => hi h.1), ih]
end Go.Ws
namespace Go.Ws
open Go Go.RowKit Go.Proofs
set_option maxHeartbeats 2000000
set_option maxRecDepth 100000
set_option linter.unusedVariables false
set_option linter.unusedSimpArgs false

abbrev RdO := Rd Opn.cs 2
/-- What the document says of an ID, as a value. -/
abbrev wrV (h n m : Int) (u : Value) : Value := .agg #[.int .i64 h, .int .i64 n, .int .i64 m, u]
def otherB (os : List Opn) (num : Int) : Bool := os.any fun o => o.num != num
theorem rother_calls (os : List Opn) (u : Value) (h n m num : Int) (w : World) (hu : RdO w u os) :
    Pure Tryz.prog 108 #[wrV h n m u, .int .i64 num] w (.bool (otherB os num)) := by
  obtain ⟨A1, c1, rfl, hc1, hcm1, HR1⟩ := hu.opn
  clear hu
  refine Fn_of Tryz.func108 rfl (Nat.le_of_ble_eq_true rfl) ?_; intro A hd hA; simp only [ix, Nat.reduceAdd]; replace hA : A.tmps.size = 21 := hA
  repeat' (first | refine X_q ?_ | refine X_nil ?_ | refine W_seqk (fun K hK => ?_) | refine W_seqr ?_ | refine W_block ?_ | (refine X_s (fun x K hK => ?_); go_simp; refine hK _ _ (Ext.alloc _ _) ?_; clear hK K; refine X_al x ?_; generalize (World.later _ x).heap.size = bn; intro yn hn1 hn2 hn3 hn4 hn5; clear x) | go_step)
  refine W_loops [1, 2, 5] (fun n vs w' => ∃ k : Nat, w' = w.later yn ∧ k + n = os.length ∧ vs = [.int .i64 num, .pointer (some ⟨bn, 0, none⟩), .int .i64 k] ∧ otherB (os.take k) num = false) os.length hd hA (by decide) ⟨0, rfl, by omega, by simp, by simp [otherB]⟩ ?_
  clear hd hA A; intro n2 vs B w' hd hA _ ⟨k, hw, hk, hvs, hm⟩; subst hw hvs
  simp only [List.zip_cons_cons, List.zip_nil_right, List.zip_nil_left]
  have Hm := Lib.hid hm; clear hm
  by_cases hlt : k < os.length
  · obtain ⟨x, b1, o1, HX, rfl, hb1, d0, d1⟩ := HR1.out k hlt
    repeat' (first | refine X_q ?_ | refine X_nil ?_ | refine W_seqk (fun K hK => ?_) | refine W_seqr ?_ | refine W_ret ?_ | refine W_skip ?_ | refine W_block ?_ | refine W_tt ?_ | refine W_test (fun hc => ?_) (fun hc => ?_) | go_step)
    · refine Body_ret hd ⟨congrArg Value.bool ?_, by simp⟩
      simp at hc
      simp [otherB]
      exact ⟨x, mem_of_get HX.out, hc⟩
    · refine ⟨_, _, rfl, hd, hA, n2 - 1, by omega, k + 1, trivial, by omega, by simp, ?_⟩
      have := Hm.out
      unfold otherB at *
      rw [take_snoc HX.out, List.any_append, this]
      simpa using hc
  · repeat' (first | refine X_q ?_ | refine X_nil ?_ | refine W_seqk (fun K hK => ?_) | refine W_seqr ?_ | refine W_ret ?_ | refine W_exit ?_ | refine W_ff ?_ | go_step)
    obtain rfl : k = os.length := by omega
    refine Body_ret hd ⟨congrArg Value.bool ?_, by simp⟩
    have := Hm.out
    rw [List.take_length] at this
    simp [this]
/-- The cells of an api.Writer. -/
abbrev wrG (h n m : Int) (u : Value) : Nat → Value := fun k => (#[.int .i64 h, .int .i64 n, .int .i64 m, u] : Array Value).getD k undef
theorem wrG_put0 {W : World} {b : Nat} {E : TypeId} {h n m h' : Int} {u : Value} (B : Blk W b E 4 (put (wrG h n m u) 0 [.int .i64 h'])) : Blk W b E 4 (wrG h' n m u) := B.congr fun k hk => by
  rw [put_one]; obtain rfl | rfl | rfl | rfl : k = 0 ∨ k = 1 ∨ k = 2 ∨ k = 3 := by omega
  all_goals rfl
theorem wrG_put1 {W : World} {b : Nat} {E : TypeId} {h n m h' : Int} {u : Value} (B : Blk W b E 4 (put (wrG h n m u) 1 [.int .i64 h'])) : Blk W b E 4 (wrG h h' m u) := B.congr fun k hk => by
  rw [put_one]; obtain rfl | rfl | rfl | rfl : k = 0 ∨ k = 1 ∨ k = 2 ∨ k = 3 := by omega
  all_goals rfl
theorem wrG_put2 {W : World} {b : Nat} {E : TypeId} {h n m h' : Int} {u : Value} (B : Blk W b E 4 (put (wrG h n m u) 2 [.int .i64 h'])) : Blk W b E 4 (wrG h n h' u) := B.congr fun k hk => by
  rw [put_one]; obtain rfl | rfl | rfl | rfl : k = 0 ∨ k = 1 ∨ k = 2 ∨ k = 3 := by omega
  all_goals rfl
/-- Its cells, read. -/
theorem Blk.wr {W : World} {b : Nat} {E : TypeId} {h n m : Int} {u : Value} (B : Blk W b E 4 (wrG h n m u)) : b < W.heap.size ∧ W.cell? ⟨b, 0, none⟩ = some (.int .i64 h) ∧ W.cell? ⟨b, 1, none⟩ = some (.int .i64 n) ∧ W.cell? ⟨b, 2, none⟩ = some (.int .i64 m) ∧ W.cell? ⟨b, 3, none⟩ = some u :=
  ⟨B.lt, B.cell (k := 0) (by omega), B.cell (k := 1) (by omega), B.cell (k := 2) (by omega), B.cell (k := 3) (by omega)⟩
theorem slice_of1 {W : World} {α : Type} {en : α → List Value} {k : Nat} {v : Value} {xs : List α} (h : Rd en k W v xs) : ∃ A n c, v = .slice A n c := by obtain ⟨A, c, h, _⟩ := h; exact ⟨_, _, _, h⟩
theorem highB_take {l : List Ent} {k : Nat} {e : Ent} (id : Int) (h : l[k]? = some e) : highB (l.take (k + 1)) id = if e.id = id then max (highB (l.take k) id) e.num else highB (l.take k) id := by rw [take_snoc h, highB_snoc]
theorem markB_take {l : List Ent} {k : Nat} {e : Ent} (id : Int) (h : l[k]? = some e) : markB (l.take (k + 1)) id = if e.id = id ∧ 1 < e.kind then max (markB (l.take k) id) e.num else markB (l.take k) id := by rw [take_snoc h, markB_snoc]
theorem nextB_take {l : List Ent} {k : Nat} {e : Ent} (id num : Int) (h : l[k]? = some e) : nextB (l.take (k + 1)) id num = if e.id = id ∧ e.num = num ∧ e.kind = 1 then max (nextB (l.take k) id num) (e.seq + 1) else nextB (l.take k) id num := by rw [take_snoc h, nextB_snoc]
theorem rwriter_calls (l : List Ent) (v : Value) (id : Int) (w : World) (hl : RdE w v l) (hn : l.length ≤ 1000000) (hr : ∀ e ∈ l, rightB e = true) :
    Ret Tryz.prog 107 #[v, .int .i64 id] w fun r w' => ∃ u, r = wrV (highB l id) (nextB l id (highB l id)) (markB l id) u ∧ Ext w w' ∧ RdO w' u (opensB l id) := by
  have hl0 := Lib.hid hl
  have HRT := Lib.hid hr
  obtain ⟨A0, c, rfl, hc, hcm, HR⟩ := hl.ent
  clear hl hr
  refine Fn_of Tryz.func107 rfl (Nat.le_of_ble_eq_true rfl) ?_; intro A hd hA; simp only [ix, Nat.reduceAdd]; replace hA : A.tmps.size = 91 := hA
  repeat' (first | refine X_q ?_ | refine X_nil ?_ | refine W_seqk (fun K hK => ?_) | refine W_seqr ?_ | (refine X_s (fun x K hK => ?_); go_simp; refine hK _ _ (Ext.alloc _ _) ?_; clear hK K; refine X_al x ?_; generalize (World.later _ x).heap.size = bn; intro yn hn1 hn2 hn3 hn4 hn5; clear x) | go_step)
  rename Nat => b4
  rename Later w => y4
  have g4 : Blk (w.later y4) b4 177 4 _ := Blk.new hn5.out
  have hb4 := hn1
  have hl4 := hn2
  clear hn1 hn2 hn3 hn4 hn5
  refine X_ret Tryz.func135 (opens_calls l _ id _ (hl0.out.later (by simp)) hn) (fun u w1 hR => ?_)
  obtain ⟨hE1, hO, hF⟩ := hR
  obtain ⟨A9, n9, c9, rfl⟩ := slice_of1 (hO.rd Opn.len)
  obtain ⟨y1, rfl⟩ := hE1.get
  have HO := Lib.hid (hO.rd Opn.len)
  have HOl := Lib.hid hO.lt
  have HF := Lib.hid hF
  clear hO hF hE1
  repeat' (first | refine X_q ?_ | refine X_nil ?_ | (refine X_var (fun yn bn hn1 hn2 hn3 hn4 hn5 => ?_)) | refine W_seqk (fun K hK => ?_) | refine W_seqr ?_ | refine W_block ?_ | go_step)
  rename Nat => b5
  rename Later _ => y5
  have hW0 : Ext w (((w.later y4).later y1).later y5) := by simp
  have hlt4 : b4 < b5 := by have : (w.later y4).heap.size ≤ ((w.later y4).later y1).heap.size := y1.2.size; omega
  have hFU : ∀ b, (Value.slice A9 n9 c9).ownBlock = some b → b ≠ b5 := fun b hb => by have := HOl.out b hb; omega
  have HF4 : Hid (∀ b, (Value.slice A9 n9 c9).ownBlock = some b → b ≠ b4) := Lib.hid (fun b hb => by have := HF.out b hb; omega)
  have g5 : Blk (((w.later y4).later y1).later y5) b5 177 4 (wrG 0 0 0 (.slice A9 n9 c9)) := Blk.new hn5.out
  have G4 : Hid (Blk (((w.later y4).later y1).later y5) b4 177 4 _) := Lib.hid (((g4.later y1.2).later y5.2))
  have HO1 : Hid (RdO (((w.later y4).later y1).later y5) (.slice A9 n9 c9) (opensB l id)) := Lib.hid (HO.out.later y5.2)
  generalize ((w.later y4).later y1).later y5 = W0 at *
  have G5 := Lib.hid g5
  clear g5 g4 HO HOl HF hn1 hn2 hn3 hn4 hn5 y5
  refine W_loops [0, 1, 4, 5, 6] (fun n vs W => ∃ k : Nat, Mod (fun j => j = b5) W0 W ∧ k + n = l.length ∧ vs = [.slice A0 l.length c, .int .i64 id, .pointer (some ⟨b4, 0, none⟩), .pointer (some ⟨b5, 0, none⟩), .int .i64 k] ∧
    Blk W b5 177 4 (wrG (highB (l.take k) id) 0 (markB (l.take k) id) (.slice A9 n9 c9))) l.length hd hA (by decide) ⟨0, Mod.refl _ _, by omega, by simp, by simpa [highB, markB] using G5.out⟩ ?_
  clear hd hA A; intro n2 vs B W hd hA _ ⟨k, hM, hk, hvs, hB⟩; subst hvs
  simp only [List.zip_cons_cons, List.zip_nil_right, List.zip_nil_left]
  have HM := Lib.hid hM
  have hE : Ext w W := Ext.fresh hW0 hM (fun i hi => by omega)
  have GB := Lib.hid hB
  obtain ⟨r5, r0, r1, r2, r3⟩ := hB.wr
  clear hM hB
  by_cases hlt : k < l.length
  · obtain ⟨e, b, o, HE, rfl, hb, c0, c1, c2, c3, c4, c5⟩ := HR.out k hlt
    have hbb : b ≠ b5 := by omega
    rw [← cell?_mod hE hb (fun h => h)] at c0 c1 c2 c3 c4 c5
    have hbW : b < W.heap.size := Nat.lt_of_lt_of_le hb hE.size
    have HEW := Lib.hid hE
    clear hE
    repeat' (first | refine X_q ?_ | refine X_nil ?_ | refine W_seqk (fun K hK => ?_) | refine W_seqr ?_ | refine W_skip ?_ | refine W_block ?_ | refine W_exit ?_ | refine W_tt ?_ | refine W_test (fun hc => ?_) (fun hc => ?_) | go_step)
    · have hid : e.id ≠ id := by simpa using hc
      refine ⟨_, _, rfl, hd, hA, n2 - 1, by omega, k + 1, HM.out, by omega, by simp, ?_⟩
      rw [highB_take id HE.out, markB_take id HE.out, if_neg hid, if_neg (fun h => hid h.1)]
      exact GB.out
    have hid : e.id = id := by simpa using hc
    clear hc
    refine W_draw (by kernel_rfl) (by kernel_rfl) ?_
    repeat' (first | refine X_q ?_ | fail)
    refine X_store (off := 0) GB.out (fun W1 hM1 hB1 => ?_)
    have GB1 := Lib.hid (wrG_put0 hB1)
    have HM1 := Lib.hid (Mod.trans HM.out hM1 (fun _ _ h => h) (fun _ _ h => h))
    clear r5 r0 r1 r2 r3
    obtain ⟨r5, r0, r1, r2, r3⟩ := GB1.out.wr
    rw [← cell?_mod hM1 hbW hbb] at c0 c1 c2 c3 c4 c5
    have hbW1 : b < W1.heap.size := Nat.lt_of_lt_of_le hbW hM1.size
    clear hM1 hB1 hbW
    repeat' (first | refine X_q ?_ | refine X_niln ?_ | refine X_nil ?_ | refine W_seqk (fun K hK => ?_) | refine W_seqr ?_ | refine W_skip ?_ | refine W_test (fun hc => ?_) (fun hc => ?_) | go_step)
    · have hk1 : 1 < e.kind := by simpa using hc
      refine W_draw (by kernel_rfl) (by kernel_rfl) ?_
      repeat' (first | refine X_q ?_ | fail)
      refine X_store (off := 2) GB1.out (fun W2 hM2 hB2 => ?_)
      have GB2 := Lib.hid (wrG_put2 hB2)
      have HM2 := Lib.hid (Mod.trans HM1.out hM2 (fun _ _ h => h) (fun _ _ h => h))
      repeat' (first | refine X_q ?_ | refine X_niln ?_ | refine X_nil ?_ | refine W_seqr ?_ | go_step)
      refine ⟨_, _, rfl, hd, hA, n2 - 1, by omega, k + 1, HM2.out, by omega, by simp, ?_⟩
      rw [highB_take id HE.out, markB_take id HE.out, if_pos hid, if_pos ⟨hid, hk1⟩, ← gmax_eq, ← gmax_eq]
      exact GB2.out
    · have hk1 : ¬ 1 < e.kind := by simpa using hc
      refine ⟨_, _, rfl, hd, hA, n2 - 1, by omega, k + 1, HM1.out, by omega, by simp, ?_⟩
      rw [highB_take id HE.out, markB_take id HE.out, if_pos hid, if_neg (fun h => hk1 h.2), ← gmax_eq]
      exact GB1.out
  · obtain rfl : k = l.length := by omega
    rw [List.take_length] at GB r0 r2
    have HEW := Lib.hid hE
    clear hE
    repeat' (first | refine X_q ?_ | refine X_nil ?_ | refine W_seqk (fun K hK => ?_) | refine W_seqr ?_ | refine W_block ?_ | refine W_exit ?_ | refine W_ff ?_ | go_step)
    have HM0 := HM
    have GB0 := GB
    clear r5 r0 r1 r2 r3 HM GB
    generalize hH : highB l id = H at *
    generalize hMk : markB l id = M at *
    refine W_loops [0, 1, 4, 5, 7] (fun n vs W => ∃ k : Nat, Mod (fun j => j = b5) W0 W ∧ k + n = l.length ∧ vs = [.slice A0 l.length c, .int .i64 id, .pointer (some ⟨b4, 0, none⟩), .pointer (some ⟨b5, 0, none⟩), .int .i64 k] ∧
      Blk W b5 177 4 (wrG H (nextB (l.take k) id H) M (.slice A9 n9 c9))) l.length hd hA (by decide) ⟨0, HM0.out, by omega, by simp, by simpa [nextB] using GB0.out⟩ ?_
    clear hd hA B HM0 GB0 HEW; intro n2 vs B W hd hA _ ⟨k, hM, hk, hvs, hB⟩; subst hvs
    simp only [List.zip_cons_cons, List.zip_nil_right, List.zip_nil_left]
    have HM := Lib.hid hM
    have hE : Ext w W := Ext.fresh hW0 hM (fun i hi => by omega)
    have GB := Lib.hid hB
    obtain ⟨r5, r0, r1, r2, r3⟩ := hB.wr
    clear hM hB
    by_cases hlt : k < l.length
    · obtain ⟨e, b, o, HE, rfl, hb, c0, c1, c2, c3, c4, c5⟩ := HR.out k hlt
      have hbb : b ≠ b5 := by omega
      rw [← cell?_mod hE hb (fun h => h)] at c0 c1 c2 c3 c4 c5
      have hbW : b < W.heap.size := Nat.lt_of_lt_of_le hb hE.size
      have HEW := Lib.hid hE
      have hsq := right_bounds (HRT.out e (mem_of_get HE.out))
      have hs1 : 0 ≤ e.seq := hsq.2.2.1
      have hs2 : e.seq ≤ 2147483647 := hsq.2.2.2.1
      clear hE hsq
      refine W_seqk (fun K hK => ?_)
      repeat' (first | refine X_q ?_ | refine X_nil ?_ | refine W_seqk (fun K hK => ?_) | refine W_seqr ?_ | refine W_skip ?_ | refine W_block ?_ | refine W_tt ?_ | go_step)
      refine W_draw (by kernel_rfl) (by kernel_rfl) ?_
      repeat' (first | refine X_d (fun vb hvb => ?_) | refine X_q ?_ | refine X_g ?_ | refine X_niln ?_ | refine X_nil ?_ | refine W_seqr ?_ | refine W_skip ?_ | refine W_test (fun hc => ?_) (fun hc => ?_) | go_step)
      · have hq : e.id = id ∧ e.num = H ∧ e.kind = 1 := by
          have h3 := hc
          repeat cases ‹Eqn _ _›
          simp at h3
          exact ⟨h3.1.1, h3.1.2, h3.2⟩
        clear hc hvb
        refine W_draw (by kernel_rfl) (by kernel_rfl) ?_
        repeat' (first | refine X_q ?_ | fail)
        refine X_store (off := 1) GB.out (fun W1 hM1 hB1 => ?_)
        have GB1 := Lib.hid (wrG_put1 hB1)
        have HM1 := Lib.hid (Mod.trans HM.out hM1 (fun _ _ h => h) (fun _ _ h => h))
        repeat' (first | refine X_q ?_ | refine X_niln ?_ | refine X_nil ?_ | refine W_seqr ?_ | go_step)
        refine ⟨_, _, rfl, hd, hA, n2 - 1, by omega, k + 1, HM1.out, by omega, by simp, ?_⟩
        rw [nextB_take id H HE.out, if_pos hq, ← gmax_eq]
        exact GB1.out
      · have hq : ¬ (e.id = id ∧ e.num = H ∧ e.kind = 1) := by
          rintro ⟨q1, q2, q3⟩
          have h3 := hc
          repeat cases ‹Eqn _ _›
          simp [q1, q2, q3] at h3
        refine ⟨_, _, rfl, hd, hA, n2 - 1, by omega, k + 1, HM.out, by omega, by simp, ?_⟩
        rw [nextB_take id H HE.out, if_neg hq]
        exact GB.out
    · obtain rfl : k = l.length := by omega
      rw [List.take_length] at GB r1
      have hE4 : ∀ j, j = b5 → j ≠ b4 := fun j hj => by omega
      have HEW := Lib.hid hE
      have HO2 := Lib.hid (HO1.out.mod HM.out (fun b hb h => hFU b hb h))
      have GG4 := Lib.hid (G4.out.mod HM.out (by omega))
      have HFU := Lib.hid hFU
      clear hE hFU
      repeat' (first | refine X_q ?_ | refine X_nil ?_ | refine W_seqk (fun K hK => ?_) | refine W_seqr ?_ | refine W_exit ?_ | refine W_ff ?_ | go_step)
      refine X_store (off := 0) GG4.out (fun W1 hM1 hB1 => ?_)
      repeat' (first | refine X_nil ?_ | refine W_ret ?_ | go_step)
      refine Body_retcell1 (cs := [.int .i64 H, .int .i64 (nextB l id H), .int .i64 M, .slice A9 n9 c9]) hd ⟨_, rfl, Ext.fresh HEW.out hM1 (fun i hi => by omega), HO2.out.mod hM1 (fun b hb h => HF4.out b hb h)⟩ hB1 (fun k hk => ?_) Tryz.underlying177
      have hk : k < 4 := hk
      rw [put_in k (by simpa [Value.cells] using hk) (by omega)]
      obtain rfl | rfl | rfl | rfl : k = 0 ∨ k = 1 ∨ k = 2 ∨ k = 3 := by omega
      all_goals rfl
end Go.Ws
namespace Go.Ws
open Go Go.RowKit Go.Proofs
set_option maxHeartbeats 2000000
set_option maxRecDepth 100000
set_option linter.unusedVariables false
set_option linter.unusedSimpArgs false

/-- Behind Append: what the writer says. -/
def wrNo (H N M : Int) (O : Bool) (e : Ent) : Int :=
  if 1 < e.kind then (if e.num ≤ M then 183 else if e.num < H then 181 else if O = true then 181 else 0)
  else if e.num ≤ M then 181 else if e.num < H then 181 else if O = true then 182
  else if e.num = H then (if e.seq < N then 183 else if N < e.seq then 184 else 0)
  else (if e.seq < 0 then 183 else if 0 < e.seq then 184 else 0)
theorem wrNo_cases {H N M : Int} {O : Bool} {e : Ent} {r : Int} (h : wrNo H N M O e = r) :
    (1 < e.kind ∧ e.num ≤ M ∧ r = 183) ∨ (1 < e.kind ∧ ¬ e.num ≤ M ∧ e.num < H ∧ r = 181) ∨ (1 < e.kind ∧ ¬ e.num ≤ M ∧ ¬ e.num < H ∧ O = true ∧ r = 181) ∨ (1 < e.kind ∧ ¬ e.num ≤ M ∧ ¬ e.num < H ∧ O = false ∧ r = 0) ∨
    (¬ 1 < e.kind ∧ e.num ≤ M ∧ r = 181) ∨ (¬ 1 < e.kind ∧ ¬ e.num ≤ M ∧ e.num < H ∧ r = 181) ∨ (¬ 1 < e.kind ∧ ¬ e.num ≤ M ∧ ¬ e.num < H ∧ O = true ∧ r = 182) ∨
    (¬ 1 < e.kind ∧ ¬ e.num ≤ M ∧ ¬ e.num < H ∧ O = false ∧ e.num = H ∧ e.seq < N ∧ r = 183) ∨ (¬ 1 < e.kind ∧ ¬ e.num ≤ M ∧ ¬ e.num < H ∧ O = false ∧ e.num = H ∧ ¬ e.seq < N ∧ N < e.seq ∧ r = 184) ∨ (¬ 1 < e.kind ∧ ¬ e.num ≤ M ∧ ¬ e.num < H ∧ O = false ∧ e.num = H ∧ ¬ e.seq < N ∧ ¬ N < e.seq ∧ r = 0) ∨
    (¬ 1 < e.kind ∧ ¬ e.num ≤ M ∧ ¬ e.num < H ∧ O = false ∧ e.num ≠ H ∧ e.seq < 0 ∧ r = 183) ∨ (¬ 1 < e.kind ∧ ¬ e.num ≤ M ∧ ¬ e.num < H ∧ O = false ∧ e.num ≠ H ∧ ¬ e.seq < 0 ∧ 0 < e.seq ∧ r = 184) ∨ (¬ 1 < e.kind ∧ ¬ e.num ≤ M ∧ ¬ e.num < H ∧ O = false ∧ e.num ≠ H ∧ ¬ e.seq < 0 ∧ ¬ 0 < e.seq ∧ r = 0) := by
  subst h
  unfold wrNo
  by_cases h1 : 1 < e.kind
  · by_cases h2 : e.num ≤ M
    · exact .inl ⟨h1, h2, by rw [if_pos h1, if_pos h2]⟩
    · by_cases h3 : e.num < H
      · exact .inr (.inl ⟨h1, h2, h3, by rw [if_pos h1, if_neg h2, if_pos h3]⟩)
      · rcases Bool.eq_false_or_eq_true O with hO | hO
        · exact .inr (.inr (.inl ⟨h1, h2, h3, hO, by rw [if_pos h1, if_neg h2, if_neg h3, if_pos hO]⟩))
        · exact .inr (.inr (.inr (.inl ⟨h1, h2, h3, hO, by rw [if_pos h1, if_neg h2, if_neg h3, if_neg (by simp [hO])]⟩)))
  · by_cases h2 : e.num ≤ M
    · exact .inr (.inr (.inr (.inr (.inl ⟨h1, h2, by rw [if_neg h1, if_pos h2]⟩))))
    · by_cases h3 : e.num < H
      · exact .inr (.inr (.inr (.inr (.inr (.inl ⟨h1, h2, h3, by rw [if_neg h1, if_neg h2, if_pos h3]⟩)))))
      · rcases Bool.eq_false_or_eq_true O with hO | hO
        · exact .inr (.inr (.inr (.inr (.inr (.inr (.inl ⟨h1, h2, h3, hO, by rw [if_neg h1, if_neg h2, if_neg h3, if_pos hO]⟩))))))
        · by_cases h4 : e.num = H
          · by_cases h5 : e.seq < N
            · exact .inr (.inr (.inr (.inr (.inr (.inr (.inr (.inl ⟨h1, h2, h3, hO, h4, h5, by rw [if_neg h1, if_neg h2, if_neg h3, if_neg (by simp [hO]), if_pos h4, if_pos h5]⟩)))))))
            · by_cases h6 : N < e.seq
              · exact .inr (.inr (.inr (.inr (.inr (.inr (.inr (.inr (.inl ⟨h1, h2, h3, hO, h4, h5, h6, by rw [if_neg h1, if_neg h2, if_neg h3, if_neg (by simp [hO]), if_pos h4, if_neg h5, if_pos h6]⟩))))))))
              · exact .inr (.inr (.inr (.inr (.inr (.inr (.inr (.inr (.inr (.inl ⟨h1, h2, h3, hO, h4, h5, h6, by rw [if_neg h1, if_neg h2, if_neg h3, if_neg (by simp [hO]), if_pos h4, if_neg h5, if_neg h6]⟩)))))))))
          · by_cases h7 : e.seq < 0
            · exact .inr (.inr (.inr (.inr (.inr (.inr (.inr (.inr (.inr (.inr (.inl ⟨h1, h2, h3, hO, h4, h7, by rw [if_neg h1, if_neg h2, if_neg h3, if_neg (by simp [hO]), if_neg h4, if_pos h7]⟩))))))))))
            · by_cases h8 : 0 < e.seq
              · exact .inr (.inr (.inr (.inr (.inr (.inr (.inr (.inr (.inr (.inr (.inr (.inl ⟨h1, h2, h3, hO, h4, h7, h8, by rw [if_neg h1, if_neg h2, if_neg h3, if_neg (by simp [hO]), if_neg h4, if_neg h7, if_pos h8]⟩)))))))))))
              · exact .inr (.inr (.inr (.inr (.inr (.inr (.inr (.inr (.inr (.inr (.inr (.inr (⟨h1, h2, h3, hO, h4, h7, h8, by rw [if_neg h1, if_neg h2, if_neg h3, if_neg (by simp [hO]), if_neg h4, if_neg h7, if_neg h8]⟩))))))))))))
/-- The document's Check. -/
def checkNo (l : List Ent) (e : Ent) : Int :=
  if appendNo l e ≠ 0 then appendNo l e else if e.id < 0 then 0
  else wrNo (highB l e.id) (nextB l e.id (highB l e.id)) (markB l e.id) (otherB (opensB l e.id) e.num) e
theorem rcheck_calls (l : List Ent) (v : Value) (e : Ent) (w : World) (hl : RdE w v l) (hn : l.length ≤ 1000000) (hr : ∀ e ∈ l, rightB e = true) :
    Pure Tryz.prog 79 #[v, e.v] w (.int .i64 (checkNo l e)) := by
  have hl0 := Lib.hid hl
  have HRT := Lib.hid hr
  obtain ⟨A0, c, rfl, hc, hcm, HR⟩ := hl.ent
  clear hl hr HR
  by_cases hno : appendNo l e = 0
  · by_cases hid : e.id < 0
    · have hck : checkNo l e = 0 := by unfold checkNo; rw [if_neg (by simpa using hno), if_pos hid]
      rw [hck]
      refine Fn_of Tryz.func79 rfl (Nat.le_of_ble_eq_true rfl) ?_; intro A hd hA; simp only [ix, Nat.reduceAdd]; replace hA : A.tmps.size = 77 := hA
      repeat' (first | refine X_q ?_ | refine X_nil ?_ | refine W_seqk (fun K hK => ?_) | refine W_seqr ?_ | (refine X_s (fun x K hK => ?_); go_simp; refine hK _ _ (Ext.alloc _ _) ?_; clear hK K; refine X_al x ?_; generalize (World.later _ x).heap.size = bn; intro yn hn1 hn2 hn3 hn4 hn5; clear x) | go_step)
      refine X_ret Tryz.func106 (append_calls l _ e _ (hl0.out.later (by simp))) (fun r w1 hR => ?_)
      obtain ⟨u, rfl, hE1, hU⟩ := hR
      rw [hno] at hU ⊢
      obtain ⟨y1, rfl⟩ := hE1.get
      obtain ⟨A9, n9, c9, rfl⟩ := slice_of1 hU
      clear hU hE1
      repeat' (first | refine X_gt ?_ | refine X_q ?_ | refine X_nil ?_ | refine W_seqk (fun K hK => ?_) | refine W_seqr ?_ | refine W_ret ?_ | refine W_tt ?_ | go_step)
      exact Body_ret hd ⟨rfl, by simp⟩
    · have hck : checkNo l e = wrNo (highB l e.id) (nextB l e.id (highB l e.id)) (markB l e.id) (otherB (opensB l e.id) e.num) e := by unfold checkNo; rw [if_neg (by simpa using hno), if_neg hid]
      rw [hck]
      generalize hH : highB l e.id = H at *
      generalize hMk : markB l e.id = M at *
      generalize hNx : nextB l e.id H = N at *
      generalize hO : otherB (opensB l e.id) e.num = O at *
      have hOO := Lib.hid hO
      have hW := Lib.hid (show highB l e.id = H ∧ markB l e.id = M ∧ nextB l e.id H = N from ⟨hH, hMk, hNx⟩)
      have hno0 := Lib.hid hno
      generalize hr : wrNo H N M O e = r
      have hcs := wrNo_cases hr
      clear hck hH hMk hNx hO hno hr
      rcases hcs with ⟨h1, h2, rfl⟩ | ⟨h1, h2, h3, rfl⟩ | ⟨h1, h2, h3, rfl, rfl⟩ | ⟨h1, h2, h3, rfl, rfl⟩ | ⟨h1, h2, rfl⟩ | ⟨h1, h2, h3, rfl⟩ | ⟨h1, h2, h3, rfl, rfl⟩ | ⟨h1, h2, h3, rfl, rfl, h5, rfl⟩ | ⟨h1, h2, h3, rfl, rfl, h5, h6, rfl⟩ | ⟨h1, h2, h3, rfl, rfl, h5, h6, rfl⟩ | ⟨h1, h2, h3, rfl, h4, h5, rfl⟩ | ⟨h1, h2, h3, rfl, h4, h5, h6, rfl⟩ | ⟨h1, h2, h3, rfl, h4, h5, h6, rfl⟩
      all_goals (
        (try replace h4 := beq_false_of_ne h4)
        refine Fn_of Tryz.func79 rfl (Nat.le_of_ble_eq_true rfl) ?_; intro A hd hA; simp only [ix, Nat.reduceAdd]; replace hA : A.tmps.size = 77 := hA
        repeat' (first | refine X_q ?_ | refine X_nil ?_ | refine W_seqk (fun K hK => ?_) | refine W_seqr ?_ | (refine X_s (fun x K hK => ?_); go_simp; refine hK _ _ (Ext.alloc _ _) ?_; clear hK K; refine X_al x ?_; generalize (World.later _ x).heap.size = bn; intro yn hn1 hn2 hn3 hn4 hn5; clear x) | go_step)
        refine X_ret Tryz.func106 (append_calls l _ e _ (hl0.out.later (by simp))) (fun r w1 hR => ?_)
        obtain ⟨u, rfl, hE1, hU⟩ := hR
        rw [hno0.out] at hU ⊢
        obtain ⟨y1, rfl⟩ := hE1.get
        obtain ⟨A9, n9, c9, rfl⟩ := slice_of1 hU
        clear hU hE1
        rename Nat => be
        repeat' (first | refine X_gt ?_ | refine X_q ?_ | refine X_nil ?_ | refine W_seqk (fun K hK => ?_) | refine W_seqr ?_ | refine W_skip ?_ | refine W_ff ?_ | go_step)
        refine X_ret Tryz.func107 (rwriter_calls l _ e.id _ (hl0.out.later (by simp)) hn HRT.out) (fun r w2 hR => ?_)
        obtain ⟨u, rfl, hE2, hU⟩ := hR
        obtain ⟨y2, rfl⟩ := hE2.get
        have hU0 := Lib.hid hU
        obtain ⟨A8, n8, c8, rfl⟩ := slice_of1 hU
        clear hU hE2
        rw [hW.out.1, hW.out.2.1, hW.out.2.2]
        repeat' (first | refine X_pure Tryz.func108 (hOO.out ▸ rother_calls (opensB l e.id) _ _ _ _ _ _ (hU0.out.later (by simp))) ?_ | refine X_gpure Tryz.func108 (fun _ => hOO.out ▸ rother_calls (opensB l e.id) _ _ _ _ _ _ (hU0.out.later (by simp))) ?_ | (refine X_gf2 ?_) | refine X_gt ?_ | refine X_q ?_ | refine X_g ?_ | refine X_gf ?_ | refine X_nil ?_ | (refine X_var (fun yn bn hn1 hn2 hn3 hn4 hn5 => ?_)) | refine W_seqk (fun K hK => ?_) | refine W_seqr ?_ | refine W_ret ?_ | refine W_skip ?_ | refine W_tt ?_ | refine W_ff ?_ | go_step)
        exact Body_ret hd ⟨rfl, by simp⟩)
  · have hck : checkNo l e = appendNo l e := by unfold checkNo; rw [if_pos hno]
    rw [hck]
    generalize hx : appendNo l e = no at *
    refine Fn_of Tryz.func79 rfl (Nat.le_of_ble_eq_true rfl) ?_; intro A hd hA; simp only [ix, Nat.reduceAdd]; replace hA : A.tmps.size = 77 := hA
    repeat' (first | refine X_q ?_ | refine X_nil ?_ | refine W_seqk (fun K hK => ?_) | refine W_seqr ?_ | (refine X_s (fun x K hK => ?_); go_simp; refine hK _ _ (Ext.alloc _ _) ?_; clear hK K; refine X_al x ?_; generalize (World.later _ x).heap.size = bn; intro yn hn1 hn2 hn3 hn4 hn5; clear x) | go_step)
    refine X_ret Tryz.func106 (append_calls l _ e _ (hl0.out.later (by simp))) (fun r w1 hR => ?_)
    obtain ⟨u, rfl, hE1, hU⟩ := hR
    rw [hx] at hU ⊢
    obtain ⟨y1, rfl⟩ := hE1.get
    obtain ⟨A9, n9, c9, rfl⟩ := slice_of1 hU
    clear hU hE1
    repeat' (first | refine X_q ?_ | refine X_g ?_ | refine X_nil ?_ | refine W_seqk (fun K hK => ?_) | refine W_seqr ?_ | refine W_ret ?_ | refine W_tt ?_ | go_step)
    exact Body_ret hd ⟨rfl, by simp⟩
end Go.Ws
namespace Go.Ws
open Go Go.RowKit Go.Proofs
set_option maxHeartbeats 2000000
set_option maxRecDepth 100000
set_option linter.unusedVariables false
set_option linter.unusedSimpArgs false

theorem check_core {b : Nat} {w : World} {u : Value} {l : List Ent} {m0 m1 : Nat} (hS : Seen w b u l) (e : Ent) (hno : appendNo l e = 0) {i : Nat} (hid : e.id = i) (hi : i < 4) (hat : WrAt w b (1 + i * 5) (wrOf l i) m0 m1) (cond : Nat → Bool) (r : Int)
    (hw : ∀ k p, (rules (e.kind == 1))[k]? = some p → (p.2 = 0 ↔ False) ∧ (∃ fn, Tryz.prog.funcs[p.1]? = some fn ∧ callable fn = true) ∧ ∀ w', Ext w w' → WhyP p.1 b (1 + i * 5) e w' (cond k))
    (h1 : ∀ k p, (rules (e.kind == 1))[k]? = some p → (∀ j, j < k → cond j = false) → cond k = true → r = p.2) (h0 : (∀ j, j < (rules (e.kind == 1)).length → cond j = false) → r = 0) :
    Pure Tryz.prog 58 #[.pointer (some ⟨b, 0, none⟩), e.v] w (.int .i64 r) := by
  obtain ⟨ep, eid, enum, eseq, ekind, eval⟩ := e
  simp only at hid
  subst hid
  have HW := Lib.hid hw
  have H1 := Lib.hid h1
  have H0 := Lib.hid h0
  have hbl := hS.1
  have hi4 : (i : Int) < 4 := by omega
  have hii : ¬ (i : Int) < 0 := by omega
  have hmay := Lib.hid (fun w' (hE : Ext w w') => (hno ▸ may_calls (hS.later hE) (⟨ep, (i : Int), enum, eseq, ekind, eval⟩ : Ent) : Pure Tryz.prog 89 #[.pointer (some ⟨b, 0, none⟩), (⟨ep, (i : Int), enum, eseq, ekind, eval⟩ : Ent).v] w' (.int .i64 0)))
  clear hw h1 h0 hS hno hat
  simp only at HW H1 H0
  generalize hdt : (ekind == 1) = data at *
  refine Fn_of Tryz.func58 rfl (Nat.le_of_ble_eq_true rfl) ?_; intro A hd hA; simp only [ix, Nat.reduceAdd]; replace hA : A.tmps.size = 41 := hA
  repeat' (first | refine X_pure Tryz.func89 (hmay.out _ (by simp)) ?_ | (refine W_label ?_) | (refine W_scope ?_) | refine X_gt ?_ | refine X_q ?_ | refine X_nil ?_ | refine W_seqk (fun K hK => ?_) | refine W_seqr ?_ | refine W_skip ?_ | (refine X_s (fun x K hK => ?_); go_simp; refine hK _ _ (Ext.alloc _ _) ?_; clear hK K; refine X_al x ?_; generalize (World.later _ x).heap.size = bn; intro yn hn1 hn2 hn3 hn4 hn5; clear x) | refine W_ff ?_ | go_step)
  rename Nat => be
  rename Later w => ye
  have ge : Blk (w.later ye) be 45 6 _ := Blk.new hn5.out
  clear hn3 hn4 hn5
  refine X_ret Tryz.func90 (refuses_calls data) (fun v' w1 hR => ?_)
  obtain ⟨hE1, g, rfl, hg, hrules⟩ := hR
  have GE := Lib.hid (ge.later hE1)
  have HE1 := Lib.hid (Ext.trans ye.2 hE1)
  have HR := Lib.hid hrules
  have hbe : be < w1.heap.size := by have := hE1.size; have : (w.later ye).heap.size ≤ w1.heap.size := this; omega
  clear hE1 hrules ge
  repeat' (first | refine X_q ?_ | refine X_nil ?_ | refine W_block ?_ | go_step)
  have hlen : (rules data).length ≤ 4 := by cases data <;> simp [rules]
  refine W_loops [0, 3, 5, 22, 23, 24] (fun n vs W => ∃ k : Nat, Ext w1 W ∧ k + n = (rules data).length ∧ vs = [.pointer (some ⟨b, 0, none⟩), .pointer (some ⟨be, 0, none⟩), .int .i64 0, .slice (some ⟨g, 0, none⟩) (rules data).length (rules data).length, .int .i64 (rules data).length, .int .i64 k] ∧
    ∀ j, j < k → cond j = false) (rules data).length hd hA (by decide) ⟨0, Ext.refl _, by omega, by simp, by intro j hj; omega⟩ ?_
  clear hd hA A; intro n2 vs B W hd hA _ ⟨k, hE, hk, hvs, hc0⟩; subst hvs
  simp only [List.zip_cons_cons, List.zip_nil_right, List.zip_nil_left]
  have HC := Lib.hid hc0
  have hEw := Ext.trans HE1.out hE
  obtain ⟨t0, t1, t2, t3, t4, t5⟩ : W.cell? ⟨be, 0, none⟩ = some (.int .i64 ep) ∧ W.cell? ⟨be, 1, none⟩ = some (.int .i64 i) ∧ W.cell? ⟨be, 2, none⟩ = some (.int .i64 enum) ∧ W.cell? ⟨be, 3, none⟩ = some (.int .i64 eseq) ∧ W.cell? ⟨be, 4, none⟩ = some (.int .i64 ekind) ∧ W.cell? ⟨be, 5, none⟩ = some (.int .i64 eval) := by
    have G := GE.out.later hE
    exact ⟨G.cell (k := 0) (by omega), G.cell (k := 1) (by omega), G.cell (k := 2) (by omega), G.cell (k := 3) (by omega), G.cell (k := 4) (by omega), G.cell (k := 5) (by omega)⟩
  have hbeW : be < W.heap.size := Nat.lt_of_lt_of_le hbe hE.size
  have hbW : b < W.heap.size := Nat.lt_of_lt_of_le hbl hEw.size
  have hgW : g < W.heap.size := Nat.lt_of_lt_of_le hg hE.size
  by_cases hlt : k < (rules data).length
  · obtain ⟨p, hp⟩ : ∃ p, (rules data)[k]? = some p := ⟨_, List.getElem?_eq_getElem hlt⟩
    obtain ⟨v, hv, hrule⟩ := HR.out k p hp
    obtain ⟨a, c, rfl, ha, hc, ha2, hc2⟩ := hrule.later hE
    have hvW : W.cell? ⟨g, k, none⟩ = some (.func (.func 113) #[] #[.pointer (some ⟨a, 0, none⟩), .pointer (some ⟨c, 0, none⟩)]) := by rw [cell?_mod hE hg (fun h => h)]; exact hv
    obtain ⟨hp0, ⟨fn, hfn, hcall⟩, hwhy⟩ := HW.out k p hp
    have hki : (k : Int) < (rules data).length := by omega
    have HEW := Lib.hid hE
    have HEw := Lib.hid hEw
    have hpure := Lib.hid (fun W' (hEE : Ext W W') => rule_calls (w := W') (E := p.2) (b := b) (o := 1 + i * 5) (e := ⟨ep, (i : Int), enum, eseq, ekind, eval⟩) (v := cond k) hfn hcall (Nat.lt_of_lt_of_le ha hEE.size) (Nat.lt_of_lt_of_le hc hEE.size)
      (by rw [cell?_mod hEE ha (fun h => h)]; exact ha2) (by rw [cell?_mod hEE hc (fun h => h)]; exact hc2) (fun w' hw' => hwhy w' (Ext.trans hEw (Ext.trans hEE hw'))))
    clear hE hEw hv hrule hwhy hfn hcall ha2 hc2 hc0
    refine W_seqk (fun K hK => ?_)
    repeat' (first | refine X_q ?_ | refine X_nil ?_ | refine W_seqk (fun K hK => ?_) | refine W_seqr ?_ | refine W_skip ?_ | refine W_block ?_ | refine W_tt ?_ | go_step)
    refine W_draw (by kernel_rfl) (by kernel_rfl) ?_
    repeat' (first | refine X_q ?_ | fail)
    refine X_valret (lv := [.pointer (some ⟨b, 1 + i * 5, none⟩), (⟨ep, (i : Int), enum, eseq, ekind, eval⟩ : Ent).v]) (first := #[]) (captured := #[.pointer (some ⟨a, 0, none⟩), .pointer (some ⟨c, 0, none⟩)]) Tryz.func113 (hpure.out _ (by simp)) (fun v' w2 hR => ?_)
    obtain ⟨rfl, hE2⟩ := hR
    have HE2 := Lib.hid (Ext.trans HEW.out (Ext.trans (by simp) hE2))
    have HE2w := Lib.hid (Ext.trans HEw.out (Ext.trans (by simp) hE2))
    clear hE2
    cases hck : cond k
    · simp only [hck, Bool.false_eq_true, if_false]
      repeat' (first | refine X_q ?_ | refine X_niln ?_ | refine X_nil ?_ | refine W_seqk (fun K hK => ?_) | refine W_seqr ?_ | refine W_skip ?_ | refine W_ff ?_ | go_step)
      refine ⟨_, _, rfl, hd, hA, n2 - 1, by omega, k + 1, HE2.out, by omega, by simp, fun j hj => ?_⟩
      by_cases hjk : j = k
      · rw [hjk]; exact hck
      · exact HC.out j (by omega)
    · simp only [hck, if_true]
      have hp2 : p.2 ≠ 0 := fun h => (hp0.1 h)
      have hres := H1.out k p hp HC.out hck
      rw [hres]
      have hb2 : (p.2 == 0) = false := by simpa using hp2
      generalize p.2 = E at *
      repeat' (first | refine X_q ?_ | refine X_niln ?_ | refine X_nil ?_ | refine W_seqk (fun K hK => ?_) | refine W_seqr ?_ | refine W_ret ?_ | refine W_skip ?_ | refine W_exit ?_ | refine W_test (fun hc => ?_) (fun hc => ?_) | go_step)
      · exact Body_ret hd ⟨rfl, HE2w.out⟩
      · exact absurd (by simpa using hc) hp2
  · obtain rfl : k = (rules data).length := by omega
    have hr0 := H0.out HC.out
    subst hr0
    have HEw := Lib.hid hEw
    clear hE hEw
    repeat' (first | refine X_q ?_ | refine X_nil ?_ | refine W_seqk (fun K hK => ?_) | refine W_seqr ?_ | refine W_ret ?_ | refine W_exit ?_ | refine W_ff ?_ | go_step)
    exact Body_ret hd ⟨rfl, HEw.out⟩

/-! ### Check answers as the document's -/
theorem nums_high (l : List Ent) (i : Int) : ∀ e ∈ l, e.id = i → e.num ≤ highB l i := by
  induction l using snocInd with
  | h0 => intro e he; cases he
  | hs l x ih =>
    intro e he hi
    rw [highB_snoc]
    rcases List.mem_append.1 he with he | he
    · have := ih e he hi
      split <;> omega
    · rw [List.mem_singleton] at he; subst he; rw [if_pos hi]; omega
theorem nextB_above (l : List Ent) (i num : Int) (h : ∀ e ∈ l, e.id = i → e.num < num) : nextB l i num = 0 := by
  induction l using snocInd with
  | h0 => rfl
  | hs l x ih =>
    rw [nextB_snoc, if_neg, ih (fun e he => h e (by simp [he]))]
    rintro ⟨h1, h2, -⟩
    have := h x (by simp) h1
    omega
theorem otherB_iff {l : List Ent} (hk : ∀ e ∈ l, 1 ≤ e.kind) (i num : Int) : otherB (opensB l i) num = true ↔ ∃ n, ((wrOf l i).opens n).isSome = true ∧ n ≠ num := by
  unfold otherB
  rw [List.any_eq_true]
  constructor
  · rintro ⟨o, ho, hne⟩
    exact ⟨o.num, Option.isSome_iff_exists.2 ⟨o.first, (opens_iff hk i o.num o.first).2 ho⟩, by simpa using hne⟩
  · rintro ⟨n, hn, hne⟩
    obtain ⟨f, hf⟩ := Option.isSome_iff_exists.1 hn
    exact ⟨⟨n, f⟩, (opens_iff hk i n f).1 hf, by simpa using hne⟩
theorem wrNo_data {H N M nx : Int} {O : Bool} {e : Ent} (hk : ¬ 1 < e.kind) (hnx : ¬ e.num < H → nx = if e.num = H then N else 0) :
    wrNo H N M O e = if (decide (e.num ≤ M) || decide (e.num < H)) = true then 181 else if O = true then 182 else if decide (e.seq < nx) = true then 183 else if decide (nx < e.seq) = true then 184 else 0 := by
  unfold wrNo
  rw [if_neg hk]
  by_cases h1 : e.num ≤ M
  · rw [if_pos h1, if_pos (by simp [h1])]
  · rw [if_neg h1]
    by_cases h2 : e.num < H
    · rw [if_pos h2, if_pos (by simp [h2])]
    · have hd : ¬ ((decide (e.num ≤ M) || decide (e.num < H)) = true) := by simp [h1, h2]
      rw [if_neg h2, if_neg hd, hnx h2]
      cases O
      · simp only [Bool.false_eq_true, if_false, decide_eq_true_eq]
        by_cases h3 : e.num = H
        · simp only [if_pos h3]
        · simp only [if_neg h3]
      · rw [if_pos rfl, if_pos rfl]
theorem wrNo_mark {H N M : Int} {O : Bool} {e : Ent} (hk : 1 < e.kind) :
    wrNo H N M O e = if decide (e.num ≤ M) = true then 183 else if (decide (e.num < H) || O) = true then 181 else 0 := by
  unfold wrNo
  rw [if_pos hk]
  by_cases h1 : e.num ≤ M
  · simp [h1]
  · by_cases h2 : e.num < H
    · simp [h1, h2]
    · cases O <;> simp [h1, h2]
theorem tabCheck_calls {b : Nat} {w : World} {F : Nat → Prop} {l : List Ent} (h : Tab w b F l) (hok : ofNo l = 0) (e : Ent) : Pure Tryz.prog 58 #[.pointer (some ⟨b, 0, none⟩), e.v] w (.int .i64 (checkNo l e)) := by
  obtain ⟨u, mb, g, h, hF⟩ := h
  have hS := h.seen
  by_cases hno : appendNo l e = 0
  · by_cases hid : e.id < 0
    · have hck : checkNo l e = 0 := by unfold checkNo; rw [if_neg (by simpa using hno), if_pos hid]
      rw [hck]
      have HS := Lib.hid hS
      have HNO := Lib.hid hno
      clear h hF hS hno hck
      refine Fn_of Tryz.func58 rfl (Nat.le_of_ble_eq_true rfl) ?_; intro A hd hA; simp only [ix, Nat.reduceAdd]; replace hA : A.tmps.size = 41 := hA
      repeat' (first | refine X_pure Tryz.func89 (HNO.out ▸ may_calls (HS.out.later (by simp)) e) ?_ | (refine W_scope ?_) | refine X_gt ?_ | refine X_q ?_ | refine X_nil ?_ | refine W_seqk (fun K hK => ?_) | refine W_seqr ?_ | refine W_ret ?_ | (refine X_s (fun x K hK => ?_); go_simp; refine hK _ _ (Ext.alloc _ _) ?_; clear hK K; refine X_al x ?_; generalize (World.later _ x).heap.size = bn; intro yn hn1 hn2 hn3 hn4 hn5; clear x) | refine W_tt ?_ | go_step)
      exact Body_ret hd ⟨rfl, by simp⟩
    · have hrb := right_bounds (of_no hno).1
      obtain ⟨i, hi⟩ : ∃ i : Nat, e.id = i := ⟨e.id.toNat, by omega⟩
      have hi4 : i < 4 := by omega
      have hat : WrAt w b (1 + i * 5) (wrOf l i) (mb i 0) (mb i 1) :=
        ⟨h.blk.lt, (h.blk.cell (by omega)).trans (by rw [h.high i hi4]), (h.blk.cell (by omega)).trans (by rw [h.marked i hi4]), (h.blk.cell (by omega)).trans (by rw [h.next i hi4]), (h.blk.cell (by omega)).trans (by rw [h.opens i hi4]), h.mnext i hi4, h.mopens i hi4⟩
      have hkd := kinds_of hok
      have hob := otherB_iff hkd i e.num
      have hck : checkNo l e = wrNo (wrOf l i).high (nextB l i (wrOf l i).high) (wrOf l i).marked (otherB (opensB l i) e.num) e := by
        unfold checkNo; rw [if_neg (by simpa using hno), if_neg hid, hi, wr_high, wr_marked l i hkd]
      have hnx : ¬ e.num < (wrOf l i).high → ((wrOf l i).next e.num).getD 0 = if e.num = (wrOf l i).high then nextB l i (wrOf l i).high else 0 := by
        intro hlt
        rw [wr_next]
        split
        · rename_i hh; rw [hh]
        · rename_i hh
          refine nextB_above l i e.num fun x hx hxi => ?_
          have := nums_high l i x hx hxi
          rw [wr_high] at hlt hh
          omega
      generalize hO : otherB (opensB l i) e.num = ob at *
      by_cases hk : e.kind = 1
      · have hkb : (e.kind == 1) = true := by simp [hk]
        rw [wrNo_data (by omega) hnx] at hck
        refine check_core hS e hno hi hi4 hat (fun k => match k with | 0 => (decide (e.num ≤ (wrOf l i).marked) || decide (e.num < (wrOf l i).high)) | 1 => ob | 2 => decide (e.seq < ((wrOf l i).next e.num).getD 0) | _ => decide (((wrOf l i).next e.num).getD 0 < e.seq)) _ ?_ ?_ ?_
        · rw [hkb]
          intro k p hp
          match k, hp with
          | 0, hp => cases hp; exact ⟨by decide, ⟨_, Tryz.func117, by kernel_rfl⟩, fun w' hE => why100 (hat.later hE) e⟩
          | 1, hp => cases hp; exact ⟨by decide, ⟨_, Tryz.func118, by kernel_rfl⟩, fun w' hE => why101 (hat.later hE) e ob hob⟩
          | 2, hp => cases hp; exact ⟨by decide, ⟨_, Tryz.func119, by kernel_rfl⟩, fun w' hE => why102 (hat.later hE) e⟩
          | 3, hp => cases hp; exact ⟨by decide, ⟨_, Tryz.func120, by kernel_rfl⟩, fun w' hE => why103 (hat.later hE) e⟩
        · rw [hkb, hck]
          intro k p hp hj hc
          match k, hp with
          | 0, hp => cases hp; exact if_pos hc
          | 1, hp => cases hp; have c0 := hj 0 (by omega); simp only at c0 hc; rw [if_neg (by simp [c0]), if_pos hc]
          | 2, hp => cases hp; have c0 := hj 0 (by omega); have c1 := hj 1 (by omega); simp only at c0 c1 hc; rw [if_neg (by simp [c0]), if_neg (by simp [c1]), if_pos hc]
          | 3, hp => cases hp; have c0 := hj 0 (by omega); have c1 := hj 1 (by omega); have c2 := hj 2 (by omega); simp only at c0 c1 c2 hc; rw [if_neg (by simp [c0]), if_neg (by simp [c1]), if_neg (by rw [c2]; simp), if_pos hc]
        · rw [hkb, hck]
          intro hj
          have c0 := hj 0 (by simp [rules]); have c1 := hj 1 (by simp [rules]); have c2 := hj 2 (by simp [rules]); have c3 := hj 3 (by simp [rules]); simp only at c0 c1 c2 c3
          rw [if_neg (by simp [c0]), if_neg (by simp [c1]), if_neg (by rw [c2]; simp), if_neg (by rw [c3]; simp)]
      · have hkb : (e.kind == 1) = false := by simp [hk]
        rw [wrNo_mark (by omega)] at hck
        refine check_core hS e hno hi hi4 hat (fun k => match k with | 0 => decide (e.num ≤ (wrOf l i).marked) | _ => (decide (e.num < (wrOf l i).high) || ob)) _ ?_ ?_ ?_
        · rw [hkb]
          intro k p hp
          match k, hp with
          | 0, hp => cases hp; exact ⟨by decide, ⟨_, Tryz.func114, by kernel_rfl⟩, fun w' hE => why97 (hat.later hE) e⟩
          | 1, hp => cases hp; exact ⟨by decide, ⟨_, Tryz.func115, by kernel_rfl⟩, fun w' hE => why98 (hat.later hE) e ob hob⟩
        · rw [hkb, hck]
          intro k p hp hj hc
          match k, hp with
          | 0, hp => cases hp; exact if_pos hc
          | 1, hp => cases hp; have c0 := hj 0 (by omega); simp only at c0 hc; rw [if_neg (by rw [c0]; simp), if_pos hc]
        · rw [hkb, hck]
          intro hj
          have c0 := hj 0 (by simp [rules]); have c1 := hj 1 (by simp [rules]); simp only at c0 c1
          rw [if_neg (by rw [c0]; simp), if_neg (by simp [c1])]
  · have hck : checkNo l e = appendNo l e := by unfold checkNo; rw [if_pos hno]
    rw [hck]
    have HS := Lib.hid hS
    have HM := Lib.hid (fun w' (hE : Ext w w') => may_calls (hS.later hE) e)
    clear h hF hS hck
    generalize appendNo l e = no at *
    refine Fn_of Tryz.func58 rfl (Nat.le_of_ble_eq_true rfl) ?_; intro A hd hA; simp only [ix, Nat.reduceAdd]; replace hA : A.tmps.size = 41 := hA
    repeat' (first | refine X_pure Tryz.func89 (HM.out _ (by simp)) ?_ | (refine W_scope ?_) | refine X_q ?_ | refine X_g ?_ | refine X_nil ?_ | refine W_seqk (fun K hK => ?_) | refine W_seqr ?_ | refine W_ret ?_ | (refine X_s (fun x K hK => ?_); go_simp; refine hK _ _ (Ext.alloc _ _) ?_; clear hK K; refine X_al x ?_; generalize (World.later _ x).heap.size = bn; intro yn hn1 hn2 hn3 hn4 hn5; clear x) | refine W_tt ?_ | go_step)
    exact Body_ret hd ⟨rfl, by simp⟩
end Go.Ws
namespace Go.Ws
open Go Go.RowKit Go.Proofs
set_option maxHeartbeats 2000000
set_option maxRecDepth 100000
set_option linter.unusedVariables false
set_option linter.unusedSimpArgs false

def RepS.sent (s : RepS) (e : Ent) : Ent := { e with ep := gmax s.epoch 1 }
def RepS.appNo (s : RepS) (e : Ent) : Int :=
  if rightB (s.sent e) = false then 2 else if s.role ≠ 3 then 211 else if (s.isr.length : Int) < s.least then 212
  else if checkNo s.log (s.sent e) ≠ 0 then checkNo s.log (s.sent e) else if 4096 ≤ s.log.length then 3 else 0
def RepS.app (s : RepS) (e : Ent) : RepS := if s.appNo e = 0 then { s with log := s.log ++ [s.sent e] } else s
theorem appendNo_nil (x : Ent) : appendNo [] x = if rightB x = false then 2 else 0 := by
  unfold appendNo lastEp
  split
  · rfl
  · rw [if_neg (by simp)]; simp
theorem RepAt.grow {w w1 w2 : World} {b : Nat} {uL uI uC u : Value} {s : RepS} {l' : List Ent} (h : RepAt w b uL uI uC s) (hM : Mod (fun k => uL.ownBlock = some k) w w1) (hO : OwnE w1 u l') (hF : u.ownBlock = uL.ownBlock ∨ ∃ g, u.ownBlock = some g ∧ w.heap.size ≤ g)
    (hM2 : Mod (· = b) w1 w2) (hB2 : Blk w2 b 72 15 (put (renc s uL uI uC) 12 [u])) : RepAt w2 b u uI uC { s with log := l' } := by
  have hlt := h.blk.lt
  have n1 : u.ownBlock ≠ some b := by
    rcases hF with hF | ⟨g, hF, hg⟩
    · rw [hF]; exact h.nL
    · rw [hF]; intro h; cases h; omega
  refine ⟨hB2.congr (all15 (by refine ⟨?_, ?_, ?_, ?_, ?_, ?_, ?_, ?_, ?_, ?_, ?_, ?_, ?_, ?_, ?_⟩ <;> rfl)), hO.mod hM2 (fun k hk he => n1 (he ▸ hk)), (h.ri.mod hM (fun k hk he => (h.nX k he).1 hk)).mod hM2 (fun k hk he => h.nI (he ▸ hk)), (h.rc.mod hM (fun k hk he => (h.nX k he).2 hk)).mod hM2 (fun k hk he => h.nC (he ▸ hk)), n1, h.nI, h.nC, fun k hk => ?_⟩
  rcases hF with hF | ⟨g, hF, hg⟩
  · exact h.nX k (hF ▸ hk)
  · rw [hF] at hk; cases hk
    exact ⟨fun h' => by have := h.ri.ownlt h'; omega, fun h' => by have := h.rc.ownlt h'; omega⟩
theorem checkNo_long {l : List Ent} {e : Ent} (h : checkNo l e = 0) : l.length < 4096 := by
  unfold checkNo at h
  by_cases ha : appendNo l e = 0
  · unfold appendNo at ha
    split at ha
    · cases ha
    · split at ha
      · cases ha
      · omega
  · rw [if_pos ha] at h; exact absurd h ha
theorem append_rep {w : World} {b : Nat} {F : Nat → Prop} {s : RepS} (h : Rep w b F s) (hs : s.least ≠ 0) (hok : ofNo s.log = 0) (hl : s.log.length ≤ 4096) (e : Ent) :
    Ret Tryz.prog 21 #[.pointer (some ⟨b, 0, none⟩), e.v] w fun r w' => r = .tuple #[.int .i64 (if s.appNo e = 0 then (s.log.length : Int) else 0), .int .i64 (s.appNo e)] ∧ Mod F w w' ∧ Rep w' b (fun k => F k ∨ w.heap.size ≤ k) (s.app e) := by
  refine h.tight (R := fun r _ => r = .tuple #[.int .i64 (if s.appNo e = 0 then (s.log.length : Int) else 0), .int .i64 (s.appNo e)]) ?_
  intro F h hFW
  have hFb := Lib.hid h.own
  have HFW := Lib.hid hFW
  clear hFW
  have HP := Lib.hid h
  obtain ⟨uL, uI, uC, h, hf⟩ := h.ex
  have H := Lib.hid h
  have HFF := Lib.hid hf
  obtain ⟨hlt, -, -, d2, -, d8, d9, d10, d11, d12, d13, d14⟩ := h.cells
  obtain ⟨A1, c1, rfl, hc1, hc2, -⟩ := h.rdL.ent
  obtain ⟨A2, c2, rfl, -⟩ := h.ri.int
  have HLT := Lib.hid h.lt
  clear h hf
  have hgm : (if s.epoch < 1 then (1 : Int) else s.epoch) = gmax s.epoch 1 := rfl
  refine Fn_ofD Tryz.func21 rfl (Nat.le_of_ble_eq_true rfl) ?_; intro A hd hA; simp only [ix, Nat.reduceAdd]; replace hA : A.tmps.size = 80 := hA
  repeat' (first | refine X_q ?_ | refine X_nil ?_ | refine W_seqk (fun K hK => ?_) | refine W_seqr ?_ | (refine X_s (fun x K hK => ?_); go_simp; refine hK _ _ (Ext.alloc _ _) ?_; clear hK K; refine X_al x ?_; generalize (World.later _ x).heap.size = bn; intro yn hn1 hn2 hn3 hn4 hn5; clear x) | go_step)
  rename_i bv yv p1 p2 p3 p4 p5
  refine X_defc (be := bn) hd hA (fun W hE => by unfold execOp caughtD; go_simp) ?_; have hbe := Lib.hid (Blk.one hn5.out); clear hd hA A; intro A hd hA; obtain ⟨be, hbe0⟩ : ∃ be : Nat, be = bn := ⟨_, rfl⟩; subst hbe0
  have HX := Lib.hid ((Blk.new p5.out).later yn.2)
  have hbvn : bv ≠ be := by omega
  have hbvb : bv ≠ b := by omega
  have hbnw : w.heap.size ≤ be := by have := yv.2.size; omega
  have hbvw : w.heap.size ≤ bv := p1
  have HE := Lib.hid (by simp : Ext w ((w.later yv).later yn))
  clear p1 p2 p3 p4 p5 hn1 hn2 hn3 hn4 hn5
  repeat' (first | refine X_pure Tryz.func33 (none_of (HP.out.later (by simp)) hs) ?_ | refine X_pure Tryz.func50 (must_ok _) ?_ | refine X_q ?_ | refine X_nil ?_ | refine W_seqk (fun K hK => ?_) | refine W_seqr ?_ | go_step)
  refine X_store (off := 0) HX.out (fun W1 hM1 hB1 => ?_)
  have HE := Lib.hid (Ext.fresh HE.out hM1 (fun k hk => by subst hk; exact hbvw))
  have HBE := Lib.hid (hbe.out.mod hM1 (fun h => by omega))
  have HX : Hid (Blk W1 bv 45 6 (fun k => (s.sent e).cs.getD k undef)) := Lib.hid (hB1.congr (fun k hk => by
    simp only [List.size_toArray, List.length_cons, List.length_nil] at hk
    obtain rfl | rfl | rfl | rfl | rfl | rfl : k = 0 ∨ k = 1 ∨ k = 2 ∨ k = 3 ∨ k = 4 ∨ k = 5 := by omega
    all_goals rfl))
  clear hM1 hB1 hbe
  have x0 := HX.out.cell (k := 0) (by decide)
  have x1 := HX.out.cell (k := 1) (by decide)
  have x2 := HX.out.cell (k := 2) (by decide)
  have x3 := HX.out.cell (k := 3) (by decide)
  have x4 := HX.out.cell (k := 4) (by decide)
  have x5 := HX.out.cell (k := 5) (by decide)
  have hbv := HX.out.lt
  simp only [Ent.cs, List.getD_cons_zero, List.getD_cons_succ] at x0 x1 x2 x3 x4 x5
  obtain ⟨G, hG⟩ : ∃ G : Nat → Prop, G = (fun k => W1.heap.size ≤ k) := ⟨_, rfl⟩
  have hGbv : ¬ G bv := by subst hG; simp; omega
  have HG := Lib.hid hG
  clear hG
  have hnew : ∀ x : Later W1, Ret Tryz.prog 55 #[] (W1.later x) (fun v w' => (∃ bt, v = .pointer (some ⟨bt, 0, none⟩) ∧ Ext W1 w' ∧ Tab w' bt G []) ∧ Mod G (W1.later x) w') := fun x =>
    (tabNew_calls (W1.later x)).mono fun v w' hR => by
      obtain ⟨bt, h1, h2, h3⟩ := hR
      exact ⟨⟨bt, h1, Ext.trans x.2 h2, h3.mono (fun k hk => by rw [HG.out]; exact Nat.le_trans x.2.size hk)⟩, h2.mod⟩
  have HNEW := Lib.hid hnew
  clear hnew
  have happ : ∀ (W2 : World) (bt : Nat), Tab W2 bt G [] → Ext W1 W2 → ∀ x : Later W2, Ret Tryz.prog 56 #[.pointer (some ⟨bt, 0, none⟩), (s.sent e).v] (W2.later x) (fun v w' => (v = .int .i64 (appendNo [] (s.sent e)) ∧ Ext W1 w') ∧ Mod G (W2.later x) w') := fun W2 bt hT hE x =>
    (tabAppend_calls (hT.later x.2) (s.sent e)).mono fun v w' hR => by
      exact ⟨⟨hR.1, Ext.fresh (Ext.trans hE x.2) hR.2.1 (fun k hk => by rw [HG.out] at hk; exact hk)⟩, hR.2.1⟩
  have HAPP := Lib.hid happ
  clear happ
  repeat' (first | refine X_nil ?_ | refine W_seqk (fun K hK => ?_) | go_step)
  by_cases h1 : rightB (s.sent e) = true
  · have hno : appendNo [] (s.sent e) = 0 := by rw [appendNo_nil, if_neg (by simp [h1])]
    refine W_drawG G [(1, 0), (0, 1), (2, 1), (3, 0), (4, 1)] (by kernel_rfl) (by kernel_rfl) ?_
    repeat' (first | refine Y_q ?_ | fail)
    refine Y_ret Tryz.func55 HNEW.out (fun v W2 hR => ?_)
    obtain ⟨bt, rfl, hE2, hT⟩ := hR
    obtain ⟨y2, rfl⟩ := hE2.get
    have HT := Lib.hid hT
    clear hE2 hT
    skip
    refine Y_ret Tryz.func56 (HAPP.out _ _ HT.out y2.2) (fun v W3 hR => ?_)
    obtain ⟨rfl, hE3⟩ := hR
    rw [hno]
    obtain ⟨y3, rfl⟩ := hE3.get
    clear hE3 HT y2
    repeat' (first | refine Y_pure Tryz.func50 (fun x => must_ok 2) ?_ | refine Y_q ?_ | refine Y_nil ?_)
    have hE13 : Ext W1 (World.later W1 y3) := y3.2
    generalize World.later W1 y3 = W at *
    have HBE := Lib.hid (HBE.out.later hE13)
    have HX := Lib.hid (HX.out.later hE13)
    have HE := Lib.hid (Ext.trans HE.out hE13)
    have HH := Lib.hid (H.out.later HE.out)
    have HPP := Lib.hid (HP.out.later HE.out)
    clear hE13 y3 x0 x1 x2 x3 x4 x5 hbv
    have x0 := HX.out.cell (k := 0) (by decide)
    have x1 := HX.out.cell (k := 1) (by decide)
    have x2 := HX.out.cell (k := 2) (by decide)
    have x3 := HX.out.cell (k := 3) (by decide)
    have x4 := HX.out.cell (k := 4) (by decide)
    have x5 := HX.out.cell (k := 5) (by decide)
    have hbv := HX.out.lt
    simp only [Ent.cs, List.getD_cons_zero, List.getD_cons_succ] at x0 x1 x2 x3 x4 x5
    clear hlt d2 d8 d9 d10 d11 d12 d13 d14
    obtain ⟨hlt, -, -, d2, -, d8, d9, d10, d11, d12, d13, d14⟩ := HH.out.cells
    by_cases h3 : s.role = 3
    · have h3b : (s.role == 3) = true := by simp [h3]
      repeat' (first | refine X_pure Tryz.func50 (must_ok 211) ?_ | refine X_q ?_ | refine X_nil ?_ | refine W_seqk (fun K hK => ?_) | refine W_seqr ?_ | go_step)
      by_cases h4 : s.least ≤ (s.isr.length : Int)
      · have h4b : decide (s.least ≤ (s.isr.length : Int)) = true := by simpa using h4
        refine W_drawσ [(0, 0), (1, 0), (2, 0), (3, 0), (4, 0), (5, 0), (6, 0), (7, 0), (8, 0), (9, 0), (10, 0), (11, 1)] (by kernel_rfl) (by kernel_rfl) ?_
        repeat' (first | (refine X_pure1 Tryz.func50 (fun _ => must_ok 212) ?_) | refine X_q ?_ | refine X_niln ?_ | refine W_seqk (fun K hK => ?_) | refine W_seqr ?_ | go_step)
        refine X_ret Tryz.func57 (tabOf_calls s.log _ _ HH.out.rdL) (fun v W2 hR => ?_)
        obtain ⟨hE2, hR, -⟩ := hR
        obtain ⟨bt, rfl, hT⟩ := hR hok
        have HT := Lib.hid hT
        obtain ⟨y2, rfl⟩ := hE2.get
        clear hE2 hT hR
        by_cases h5 : checkNo s.log (s.sent e) = 0
        · have HCK := Lib.hid (h5 ▸ tabCheck_calls HT.out hok (s.sent e))
          have hlen : s.log.length < 4096 := checkNo_long h5
          have hlen' : (s.log.length : Int) < 4096 := by omega
          have hap : s.appNo e = 0 := by unfold RepS.appNo; rw [if_neg (by simp [h1]), if_neg (by simp [h3]), if_neg (by omega), if_neg (by simp [h5]), if_neg (by omega)]
          have ha : s.app e = { s with log := s.log ++ [s.sent e] } := by unfold RepS.app; rw [if_pos hap]
          have HA := Lib.hid ha
          have HAP := Lib.hid hap
          clear ha hap
          repeat' (first | refine X_pure Tryz.func58 (HCK.out) ?_ | refine X_pure Tryz.func50 (must_ok _) ?_ | refine X_q ?_ | refine X_nil ?_ | refine W_seqk (fun K hK => ?_) | refine W_seqr ?_ | go_step)
          have hE2 : Ext W (W.later y2) := y2.2
          generalize World.later W y2 = W2 at *
          have HH2 := Lib.hid (HH.out.later hE2)
          have HBE2 := Lib.hid (HBE.out.later hE2)
          have HE2 := Lib.hid (Ext.trans HE.out hE2)
          have hX2 := HX.out.later hE2
          clear x0 x1 x2 x3 x4 x5 hbv hlt d2 d8 d9 d10 d11 d12 d13 d14 y2 hE2 HCK HT
          have x0 := hX2.cell (k := 0) (by decide)
          have x1 := hX2.cell (k := 1) (by decide)
          have x2 := hX2.cell (k := 2) (by decide)
          have x3 := hX2.cell (k := 3) (by decide)
          have x4 := hX2.cell (k := 4) (by decide)
          have x5 := hX2.cell (k := 5) (by decide)
          have hbv := hX2.lt
          simp only [Ent.cs, List.getD_cons_zero, List.getD_cons_succ] at x0 x1 x2 x3 x4 x5
          obtain ⟨hlt, -, -, d2, -, d8, d9, d10, d11, d12, d13, d14⟩ := HH2.out.cells
          clear hX2
          refine W_drawσ [(0, 0), (1, 0), (2, 0), (3, 0), (4, 0), (5, 0), (6, 1), (7, 2), (8, 0), (9, 0), (10, 2)] (by kernel_rfl) (by kernel_rfl) ?_
          repeat' (first | refine X_q ?_ | (refine X_s (fun x K hK => ?_); go_simp; refine hK _ _ (Ext.alloc _ _) ?_; clear hK K; refine X_al x ?_; generalize (World.later _ x).heap.size = bn; intro yn hn1 hn2 hn3 hn4 hn5; clear x) | fail)
          refine X_append (xs := s.log) elemEnt (HH2.out.own.later (by simp)) (Rd.one (x := s.sent e) hn2 hn3 rfl) (by simp; omega) (by unfold maxLen; simp; omega) (fun v' W3 hM3 hO3 hF3 hN3 => ?_)
          obtain ⟨A3, m3, c3, rfl⟩ := own_slice hO3
          have hb2n : ¬ (Value.slice A1 s.log.length c1).ownBlock = some b := HH2.out.nL
          have hE23 : Ext W2 (W2.later yn) := yn.2
          have hM23 : Mod (fun k => (Value.slice A1 s.log.length c1).ownBlock = some k) W2 W3 := Mod.trans hE23 hM3 (fun _ _ h => h.elim) (fun _ _ h => h)
          have hF3' : (Value.slice A3 m3 c3).ownBlock = (Value.slice A1 s.log.length c1).ownBlock ∨ ∃ g, (Value.slice A3 m3 c3).ownBlock = some g ∧ W2.heap.size ≤ g := hF3.imp id (fun ⟨g, h1, h2⟩ => ⟨g, h1, Nat.le_trans hE23.size h2⟩)
          have HH3 := Lib.hid (HH2.out.blk.mod hM23 hb2n)
          have HO3 := Lib.hid hO3
          have HF3 := Lib.hid hF3'
          have HM23 := Lib.hid hM23
          clear hO3 hF3' hF3 hM3 hN3 hM23
          repeat' (first | refine X_q ?_ | fail)
          refine X_store (off := 12) HH3.out (fun W4 hM4 hB4 => ?_)
          have HA4 := Lib.hid (HH2.out.grow HM23.out HO3.out HF3.out hM4 hB4)
          have HM4 := Lib.hid (Mod.trans HM23.out hM4 (H := fun k => k = b ∨ (Value.slice A1 s.log.length c1).ownBlock = some k) (fun _ _ h => .inr h) (fun _ _ h => .inl h))
          have hnbn : ¬ (be = b ∨ (Value.slice A1 s.log.length c1).ownBlock = some be) := by
            rintro (h | h)
            · have := HLT.out b (.inl rfl); omega
            · have := HLT.out be (.inr (.inl h)); omega
          have HBE4 := Lib.hid (HBE2.out.mod HM4.out hnbn)
          clear hM4 hB4 hlt d2 d8 d9 d10 d11 d12 d13 d14 x0 x1 x2 x3 x4 x5 hbv
          obtain ⟨A5, c5, hA5, -⟩ := HA4.out.rdL.ent
          simp only [List.length_append, List.length_cons, List.length_nil, Nat.zero_add] at hA5
          cases hA5
          obtain ⟨hlt, -, -, -, -, -, -, -, -, d12, -, -⟩ := HA4.out.cells
          have hm1 : ((s.log.length + 1 : Nat) : Int) - 1 = (s.log.length : Int) := by omega
          repeat' (first | refine X_q ?_ | refine X_niln ?_ | refine W_seqk (fun K hK => ?_) | refine W_seqr ?_ | go_step)
          refine X_store (off := 0) HBE4.out (fun W5 hM5 hB5 => ?_)
          have HB5 := Lib.hid hB5
          have HM5 := Lib.hid hM5
          clear hM5 hB5
          repeat' (first | refine X_nil ?_ | refine W_ret ?_ | go_step)
          refine End_okT hd (HB5.out.congr (g' := fun _ => .int .i64 0) (fun k hk => by obtain rfl : k = 0 := (by omega); rfl)) ⟨by rw [HAP.out], ?_, ?_⟩
          · refine Mod.trans (Mod.trans HE2.out HM4.out (H := F) (fun _ _ h => h.elim) (fun k hk h => ?_)) HM5.out (fun _ _ h => h) (fun k hk h => by subst h; omega)
            rcases h with h | h
            · subst h; exact hFb.out
            · exact HFF.out k (.inr (.inl h))
          · rw [HA.out]
            refine ⟨_, _, _, HA4.out.mod HM5.out (fun k hk h => ?_), fun k hk => ?_⟩
            · subst h
              rcases hk with h | h | h | h
              · exact hnbn (.inl h)
              · rcases HF3.out with h' | ⟨g, h', hg⟩
                · exact hnbn (.inr (h' ▸ h))
                · rw [h'] at h; cases h
                  have := HBE2.out.lt; omega
              · have := HLT.out k (.inr (.inr (.inl h))); omega
              · have := HLT.out k (.inr (.inr (.inr h))); omega
            · rcases hk with h | h | h | h
              · subst h; exact .inl hFb.out
              · rcases HF3.out with h' | ⟨g, h', hg⟩
                · exact .inl (HFF.out k (.inr (.inl (h' ▸ h))))
                · rw [h'] at h; cases h
                  exact .inr (Nat.le_trans HE2.out.size hg)
              · exact .inl (HFF.out k (.inr (.inr (.inl h))))
              · exact .inl (HFF.out k (.inr (.inr (.inr h))))
        · have hap : s.appNo e = checkNo s.log (s.sent e) := by unfold RepS.appNo; rw [if_neg (by simp [h1]), if_neg (by simp [h3]), if_neg (by omega), if_pos h5]
          have ha : s.app e = s := by unfold RepS.app; rw [if_neg (by rw [hap]; exact h5)]
          have HA := Lib.hid ha
          have HAP := Lib.hid hap
          clear ha hap
          have hck := tabCheck_calls HT.out hok (s.sent e)
          generalize checkNo s.log (s.sent e) = no at *
          have HCK := Lib.hid hck
          have h5b : (no == 0) = false := beq_false_of_ne h5
          clear hck
          repeat' (first | refine X_pure Tryz.func58 (HCK.out) ?_ | refine X_q ?_ | refine X_nil ?_ | refine W_seqk (fun K hK => ?_) | refine W_seqr ?_ | go_step)
          refine X_die Tryz.func50 (must_no no) (fun c w' hC => ?_)
          obtain ⟨rfl, hE4⟩ := hC
          have hE : Ext w w' := Ext.trans HE.out (Ext.trans y2.2 hE4)
          refine End_noT hd (HBE.out.later (Ext.trans y2.2 hE4)) (fun W1 hM => ?_)
          have hM' := Ext.fresh hE hM (fun k hk => by subst hk; omega)
          exact ⟨by rw [HAP.out]; first | rfl | rw [if_neg h5], hM'.mono (fun _ _ h => h.elim), by rw [HA.out]; exact (HP.out.later hM').mono (fun k hk => .inl hk)⟩
      · have h4b : decide (s.least ≤ (s.isr.length : Int)) = false := by simpa using h4
        have hap : s.appNo e = 212 := by unfold RepS.appNo; rw [if_neg (by simp [h1]), if_neg (by simp [h3]), if_pos (by omega)]
        have ha : s.app e = s := by unfold RepS.app; rw [hap]; rfl
        have HA := Lib.hid ha
        have HAP := Lib.hid hap
        clear ha hap
        refine W_die [(0, 0), (1, 0), (2, 0), (3, 0), (4, 0), (5, 0), (6, 0), (7, 0), (8, 0), (9, 0), (10, 0)] 11 (by kernel_rfl) (by kernel_rfl) ?_
        repeat' (first | refine X_q ?_ | refine X_niln ?_ | fail)
        refine Dies_call Tryz.func50 (must_no 212) (fun c w' hC => ?_)
        obtain ⟨rfl, hE4⟩ := hC
        have hE : Ext w w' := Ext.trans HE.out hE4
        refine End_noT hd (HBE.out.later hE4) (fun W1 hM => ?_)
        have hM' := Ext.fresh hE hM (fun k hk => by subst hk; omega)
        exact ⟨by rw [HAP.out]; first | rfl | rw [if_neg h5], hM'.mono (fun _ _ h => h.elim), by rw [HA.out]; exact (HP.out.later hM').mono (fun k hk => .inl hk)⟩
    · have h3b : (s.role == 3) = false := by simp [h3]
      have hap : s.appNo e = 211 := by unfold RepS.appNo; rw [if_neg (by simp [h1]), if_pos h3]
      have ha : s.app e = s := by unfold RepS.app; rw [hap]; rfl
      have HA := Lib.hid ha
      have HAP := Lib.hid hap
      clear ha hap
      repeat' (first | refine X_q ?_ | refine W_seqk (fun K hK => ?_) | refine W_seqr ?_ | go_step)
      refine X_die Tryz.func50 (must_no 211) (fun c w' hC => ?_)
      obtain ⟨rfl, hE4⟩ := hC
      have hE : Ext w w' := Ext.trans HE.out hE4
      refine End_noT hd (HBE.out.later hE4) (fun W1 hM => ?_)
      have hM' := Ext.fresh hE hM (fun k hk => by subst hk; omega)
      exact ⟨by rw [HAP.out]; first | rfl | rw [if_neg h5], hM'.mono (fun _ _ h => h.elim), by rw [HA.out]; exact (HP.out.later hM').mono (fun k hk => .inl hk)⟩
  · have h1f : rightB (s.sent e) = false := by simpa using h1
    have hno : appendNo [] (s.sent e) = 2 := by rw [appendNo_nil, if_pos h1f]
    have hap : s.appNo e = 2 := by unfold RepS.appNo; rw [if_pos h1f]
    have ha : s.app e = s := by unfold RepS.app; rw [hap]; rfl
    have HA := Lib.hid ha
    have HAP := Lib.hid hap
    clear ha hap
    refine W_dieG G [(1, 0), (0, 1), (2, 1), (3, 0)] 4 (by kernel_rfl) (by kernel_rfl) ?_
    repeat' (first | refine Y_q ?_ | fail)
    refine Y_ret Tryz.func55 HNEW.out (fun v W2 hR => ?_)
    obtain ⟨bt, rfl, hE2, hT⟩ := hR
    obtain ⟨y2, rfl⟩ := hE2.get
    have HT := Lib.hid hT
    clear hE2 hT
    skip
    refine Y_ret Tryz.func56 (HAPP.out _ _ HT.out y2.2) (fun v W3 hR => ?_)
    obtain ⟨rfl, hE3⟩ := hR
    rw [hno]
    repeat' (first | refine Y_q ?_ | refine Y_nil ?_)
    refine Dies_call Tryz.func50 (must_no 2) (fun c w' hC => ?_)
    obtain ⟨rfl, hE4⟩ := hC
    have hE : Ext w w' := Ext.trans HE.out (Ext.trans hE3 hE4)
    refine End_noT hd (HBE.out.later (Ext.trans hE3 hE4)) (fun W1 hM => ?_)
    have hM' := Ext.fresh hE hM (fun k hk => by subst hk; omega)
    exact ⟨by rw [HAP.out]; first | rfl | rw [if_neg h5], hM'.mono (fun _ _ h => h.elim), by rw [HA.out]; exact (HP.out.later hM').mono (fun k hk => .inl hk)⟩
end Go.Ws
