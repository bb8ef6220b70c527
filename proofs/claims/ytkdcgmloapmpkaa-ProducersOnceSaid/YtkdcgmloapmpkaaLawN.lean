import Derived.Test.YtkdcgmloapmpkaaLawL
namespace Go.Ws
open Go Go.RowKit Go.Proofs
set_option maxHeartbeats 2000000
set_option maxRecDepth 100000
set_option linter.unusedVariables false
set_option linter.unusedSimpArgs false
set_option pp.deepTerms true
set_option pp.maxSteps 100000000

theorem check_append {l : List Ent} {e : Ent} (h : checkNo l e = 0) : appendNo l e = 0 := by
  unfold checkNo at h
  by_cases h1 : appendNo l e = 0
  · exact h1
  · rw [if_pos h1] at h; exact h
/-- A table, and the slice of its log beside it. -/
structure TO (w W : World) (bt : Nat) (u : Value) (F : Nat → Prop) (log : List Ent) : Prop where
  tab : Tab W bt F log
  hi : ∀ k, F k → w.heap.size ≤ k ∧ k < W.heap.size
  ext : Ext w W
  own : OwnE W u log
  apart : ∀ j, u.ownBlock = some j → ¬ F j ∧ w.heap.size ≤ j
  ok : ofNo log = 0
theorem TO.later {w W W' : World} {bt : Nat} {u : Value} {F : Nat → Prop} {log : List Ent} (h : TO w W bt u F log) (hE : Ext W W') : TO w W' bt u F log :=
  ⟨h.tab.later hE, fun k hk => ⟨(h.hi k hk).1, Nat.lt_of_lt_of_le (h.hi k hk).2 hE.size⟩, Ext.trans h.ext hE, h.own.later hE, h.apart, h.ok⟩
theorem TO.start {w W : World} {bt : Nat} (hE : Ext w W) (h : Tab W bt (fun k => w.heap.size ≤ k) []) : TO w W bt (.slice none 0 0) (fun k => w.heap.size ≤ k ∧ k < W.heap.size) [] :=
  ⟨h.here, fun _ h => h, hE, Own.nil _, (fun j hj => by cases hj), rfl⟩
theorem TO.step {w W W1 W2 : World} {bt : Nat} {u u' : Value} {F : Nat → Prop} {log : List Ent} {e : Ent} (h : TO w W bt u F log) (hM : Mod (fun j => u.ownBlock = some j) W W1) (hO : OwnE W1 u' (log ++ [e]))
    (hF : u'.ownBlock = u.ownBlock ∨ ∃ g, u'.ownBlock = some g ∧ W.heap.size ≤ g) (hM2 : Mod F W1 W2) (hT : Tab W2 bt (fun k => F k ∨ W1.heap.size ≤ k) (log ++ [e])) (hno : appendNo log e = 0) :
    TO w W2 bt u' (fun k => (F k ∨ W1.heap.size ≤ k) ∧ k < W2.heap.size) (log ++ [e]) := by
  have hs := h.ext.size
  have hs1 := hM.size
  have ha : ∀ j, u'.ownBlock = some j → ¬ F j ∧ w.heap.size ≤ j ∧ j < W1.heap.size := by
    intro j hj
    have hlt := hO.lt j hj
    rcases hF with h1 | ⟨g, h1, h2⟩
    · exact ⟨(h.apart j (h1 ▸ hj)).1, (h.apart j (h1 ▸ hj)).2, hlt⟩
    · obtain rfl : g = j := by rw [h1] at hj; cases hj; rfl
      exact ⟨fun hf => by have := (h.hi _ hf).2; omega, by omega, hlt⟩
  refine ⟨hT.here, fun k hk => ⟨?_, hk.2⟩, ?_, hO.mod hM2 (fun j hj hf => (ha j hj).1 hf), fun j hj => ⟨fun hf => ?_, (ha j hj).2.1⟩, ofNo_snoc h.ok hno⟩
  · rcases hk.1 with h1 | h1
    · exact (h.hi k h1).1
    · omega
  · exact Ext.fresh (Ext.fresh h.ext hM (fun j hj => (h.apart j hj).2)) hM2 (fun j hj => (h.hi j hj).1)
  · have := (ha j hj).2.2
    rcases hf.1 with h1 | h1
    · exact (ha j hj).1 h1
    · omega
theorem TO.u_slice {w W : World} {bt : Nat} {u : Value} {F : Nat → Prop} {log : List Ent} (h : TO w W bt u F log) : ∃ A n c, u = .slice A n c := slice_of1 (h.own.rd Ent.len)
/-- An entry's cells. -/
def EntAt (w : World) (b o : Nat) (e : Ent) : Prop := b < w.heap.size ∧ w.cell? ⟨b, o, none⟩ = some (.int .i64 e.ep) ∧ w.cell? ⟨b, o + 1, none⟩ = some (.int .i64 e.id) ∧ w.cell? ⟨b, o + 2, none⟩ = some (.int .i64 e.num) ∧ w.cell? ⟨b, o + 3, none⟩ = some (.int .i64 e.seq) ∧ w.cell? ⟨b, o + 4, none⟩ = some (.int .i64 e.kind) ∧ w.cell? ⟨b, o + 5, none⟩ = some (.int .i64 e.val)
theorem EntAt.later {w w' : World} {b o : Nat} {e : Ent} (h : EntAt w b o e) (hE : Ext w w') : EntAt w' b o e := by
  have k : ∀ j, w'.cell? ⟨b, j, none⟩ = w.cell? ⟨b, j, none⟩ := fun j => cell?_mod hE h.1 (fun h => h)
  refine ⟨Nat.lt_of_lt_of_le h.1 hE.size, ?_, ?_, ?_, ?_, ?_, ?_⟩ <;> rw [k]
  · exact h.2.1
  · exact h.2.2.1
  · exact h.2.2.2.1
  · exact h.2.2.2.2.1
  · exact h.2.2.2.2.2.1
  · exact h.2.2.2.2.2.2
theorem Rd.entAt {w : World} {A : Option Addr} {n c : Nat} {l : List Ent} (h : RdE w (.slice A n c) l) {k : Nat} (hk : k < l.length) : ∃ e b o, l[k]? = some e ∧ A = some ⟨b, o, none⟩ ∧ EntAt w b (o + k * 6) e := by
  obtain ⟨A', c', he, -, -, HR⟩ := h.ent
  cases he
  obtain ⟨e, b, o, HE, rfl, hb, c0, c1, c2, c3, c4, c5⟩ := HR.out k hk
  exact ⟨e, b, o, HE.out, rfl, hb, c0, c1, c2, c3, c4, c5⟩
theorem lines8_calls (l : List Ent) (v : Value) (w : World) (hl : RdE w v l) : Pure Try.prog 14 #[v] w (.bool true) := by
  have hl0 := Lib.hid hl
  obtain ⟨A0, c, rfl, hc, hcm, HR⟩ := hl.ent
  clear hl
  by_cases hlen : l.length ≤ 60
  · have hli : ¬ (60 : Int) < (l.length : Int) := by omega
    refine Fn_of Try.func14 rfl (Nat.le_of_ble_eq_true rfl) ?_; intro A hd hA; simp only [ix, Nat.reduceAdd]; replace hA : A.tmps.size = 56 := hA
    repeat' (first | refine X_gt ?_ | refine X_q ?_ | refine X_g ?_ | refine X_gf ?_ | refine X_niln ?_ | refine X_nil ?_ | (refine X_var (fun yn bn hn1 hn2 hn3 hn4 hn5 => ?_)) | refine W_seqk (fun K hK => ?_) | refine W_seqr ?_ | refine W_ret ?_ | refine W_skip ?_ | refine W_block ?_ | refine W_exit ?_ | (refine X_s (fun x K hK => ?_); go_simp; refine hK _ _ (Ext.alloc _ _) ?_; clear hK K; refine X_al x ?_; generalize (World.later _ x).heap.size = bn; intro yn hn1 hn2 hn3 hn4 hn5; clear x) | refine W_tt ?_ | refine W_ff ?_ | refine W_test (fun hc => ?_) (fun hc => ?_) | go_step)
    refine X_ret Try.func48 (tabNew_calls _) (fun v' w1 hR => ?_)
    obtain ⟨bt, rfl, hE1, hT⟩ := hR
    have HTO := Lib.hid (TO.start hE1 hT)
    clear hE1 hT
    repeat' (first | refine X_gt ?_ | refine X_q ?_ | refine X_g ?_ | refine X_gf ?_ | refine X_niln ?_ | refine X_nil ?_ | (refine X_var (fun yn bn hn1 hn2 hn3 hn4 hn5 => ?_)) | refine W_seqk (fun K hK => ?_) | refine W_seqr ?_ | refine W_ret ?_ | refine W_skip ?_ | refine W_block ?_ | refine W_exit ?_ | (refine X_s (fun x K hK => ?_); go_simp; refine hK _ _ (Ext.alloc _ _) ?_; clear hK K; refine X_al x ?_; generalize (World.later _ x).heap.size = bn; intro yn hn1 hn2 hn3 hn4 hn5; clear x) | refine W_tt ?_ | refine W_ff ?_ | refine W_test (fun hc => ?_) (fun hc => ?_) | go_step)
    refine W_loops [0, 3, 4, 5] (fun n vs W => ∃ (k : Nat) (u : Value) (log : List Ent) (F : Nat → Prop), k + n = l.length ∧ vs = [.slice A0 l.length c, .pointer (some ⟨bt, 0, none⟩), u, .int .i64 k] ∧ TO w W bt u F log ∧ log.length ≤ k) l.length hd hA (by decide) ⟨0, _, [], _, by omega, by simp, HTO.out, by simp⟩ ?_
    clear hd hA A HTO; intro n vs B W hd hA _ ⟨k, u, log, F, hk, hvs, hT, hlk⟩; subst hvs
    simp only [List.zip_cons_cons, List.zip_nil_right, List.zip_nil_left]
    obtain ⟨A9, n9, c9, rfl⟩ := hT.u_slice
    have hE := hT.ext
    have HT := Lib.hid hT
    have HRT := Lib.hid (of_right log [] hT.ok)
    clear hT
    by_cases hlt : k < l.length
    · obtain ⟨e, b, o, HE, rfl, hat⟩ := hl0.out.entAt hlt
      have HAT := Lib.hid hat
      obtain ⟨hbW, c0, c1, c2, c3, c4, c5⟩ := hat.later hE
      clear hE hat
      have hki : (k : Int) < l.length := by omega
      refine W_seqk (fun K hK => ?_)
      by_cases hck : checkNo log e = 0
      · have hno := check_append hck
        have HNO := Lib.hid hno
        have HCK := Lib.hid hck
        clear hno hck
        repeat' (first | refine X_pure Try.func57 (HCK.out ▸ rcheck_calls log _ e _ ((HT.out.own.rd Ent.len).later (by simp)) (by omega) HRT.out) ?_ | refine X_gpure Try.func57 (fun _ => HCK.out ▸ rcheck_calls log _ e _ ((HT.out.own.rd Ent.len).later (by simp)) (by omega) HRT.out) ?_ | refine X_pure Try.func49 (HCK.out ▸ tabCheck_calls (HT.out.tab.later (by simp)) HT.out.ok e) ?_ | refine X_gpure Try.func49 (fun _ => HCK.out ▸ tabCheck_calls (HT.out.tab.later (by simp)) HT.out.ok e) ?_ | refine X_pure Try.func45 (num8_calls _ _) ?_ | refine X_gpure Try.func45 (fun _ => num8_calls _ _) ?_ | refine X_gt ?_ | refine X_q ?_ | refine X_g ?_ | refine X_gf ?_ | refine X_niln ?_ | refine X_nil ?_ | (refine X_var (fun yn bn hn1 hn2 hn3 hn4 hn5 => ?_)) | refine W_seqk (fun K hK => ?_) | refine W_seqr ?_ | refine W_ret ?_ | refine W_skip ?_ | refine W_block ?_ | refine W_exit ?_ | (refine X_s (fun x K hK => ?_); go_simp; refine hK _ _ (Ext.alloc _ _) ?_; clear hK K; refine X_al x ?_; generalize (World.later _ x).heap.size = bn; intro yn hn1 hn2 hn3 hn4 hn5; clear x) | refine W_tt ?_ | refine W_ff ?_ | refine W_test (fun hc => ?_) (fun hc => ?_) | go_step)
        refine X_append (xs := log) elemEnt (HT.out.own.later (by simp)) (Rd.one (x := e) hn2 hn3 rfl) (by simp; omega) (by unfold maxLen; simp; omega) (fun v' W1 hM1 hO1 hF1 _ => ?_)
        obtain ⟨A5, n5, c5', rfl⟩ := slice_of1 (hO1.rd Ent.len)
        have hEW1 : Hid (Mod (fun j => (Value.slice A9 n9 c9).ownBlock = some j) W W1) := Lib.hid (Mod.trans yn.2 hM1 (fun _ _ h => h.elim) (fun _ _ h => h))
        have hsz : (W.later yn).heap.size ≤ W1.heap.size := hM1.size
        have hF1' : Hid ((Value.slice A5 n5 c5').ownBlock = (Value.slice A9 n9 c9).ownBlock ∨ ∃ g, (Value.slice A5 n5 c5').ownBlock = some g ∧ W.heap.size ≤ g) := Lib.hid (hF1.imp id (fun ⟨g, h1, h2⟩ => ⟨g, h1, Nat.le_trans yn.2.size h2⟩))
        have HO1 := Lib.hid hO1
        have HT1 : Hid (Tab W1 bt F log) := Lib.hid (HT.out.tab.mod hEW1.out (fun j hf hj => (HT.out.apart j hj).1 hf))
        have hE1 : Ext w W1 := Ext.fresh HT.out.ext hEW1.out (fun j hj => (HT.out.apart j hj).2)
        clear hM1 hO1 hF1 c0 c1 c2 c3 c4 c5 hbW hn1 hn2 hn3 hn4 hn5
        obtain ⟨hbW, c0, c1, c2, c3, c4, c5⟩ := HAT.out.later hE1
        repeat' (first | refine X_gt ?_ | refine X_q ?_ | refine X_g ?_ | refine X_gf ?_ | refine X_niln ?_ | refine X_nil ?_ | (refine X_var (fun yn bn hn1 hn2 hn3 hn4 hn5 => ?_)) | refine W_seqk (fun K hK => ?_) | refine W_seqr ?_ | refine W_ret ?_ | refine W_skip ?_ | refine W_block ?_ | refine W_exit ?_ | (refine X_s (fun x K hK => ?_); go_simp; refine hK _ _ (Ext.alloc _ _) ?_; clear hK K; refine X_al x ?_; generalize (World.later _ x).heap.size = bn; intro yn hn1 hn2 hn3 hn4 hn5; clear x) | refine W_tt ?_ | refine W_ff ?_ | refine W_test (fun hc => ?_) (fun hc => ?_) | go_step)
        refine X_ret Try.func50 (tabAppend_calls (HT1.out.later (by simp)) e) (fun v' W2 hR => ?_)
        obtain ⟨rfl, hM2, hT2⟩ := hR
        rw [HNO.out] at hT2 ⊢
        rw [if_pos rfl] at hT2
        have hTO := Lib.hid (HT.out.step hEW1.out HO1.out hF1'.out hM2 hT2 HNO.out)
        clear hM2 hT2
        repeat' (first | refine X_pure Try.func45 (num8_calls _ _) ?_ | refine X_gpure Try.func45 (fun _ => num8_calls _ _) ?_ | refine X_gt ?_ | refine X_q ?_ | refine X_g ?_ | refine X_gf ?_ | refine X_niln ?_ | refine X_nil ?_ | (refine X_var (fun yn bn hn1 hn2 hn3 hn4 hn5 => ?_)) | refine W_seqk (fun K hK => ?_) | refine W_seqr ?_ | refine W_ret ?_ | refine W_skip ?_ | refine W_block ?_ | refine W_exit ?_ | (refine X_s (fun x K hK => ?_); go_simp; refine hK _ _ (Ext.alloc _ _) ?_; clear hK K; refine X_al x ?_; generalize (World.later _ x).heap.size = bn; intro yn hn1 hn2 hn3 hn4 hn5; clear x) | refine W_tt ?_ | refine W_ff ?_ | refine W_test (fun hc => ?_) (fun hc => ?_) | go_step)
        exact ⟨_, _, rfl, hd, hA, n - 1, by omega, k + 1, .slice A5 n5 c5', log ++ [e], _, by omega, by simp, hTO.out, by simp; omega⟩
      · have hckb := beq_false_of_ne hck
        repeat' (first | refine X_pure Try.func57 (rcheck_calls log _ e _ ((HT.out.own.rd Ent.len).later (by simp)) (by omega) HRT.out) ?_ | refine X_gpure Try.func57 (fun _ => rcheck_calls log _ e _ ((HT.out.own.rd Ent.len).later (by simp)) (by omega) HRT.out) ?_ | refine X_pure Try.func49 (tabCheck_calls (HT.out.tab.later (by simp)) HT.out.ok e) ?_ | refine X_gpure Try.func49 (fun _ => tabCheck_calls (HT.out.tab.later (by simp)) HT.out.ok e) ?_ | refine X_pure Try.func45 (num8_calls _ _) ?_ | refine X_gpure Try.func45 (fun _ => num8_calls _ _) ?_ | refine X_gt ?_ | refine X_q ?_ | refine X_g ?_ | refine X_gf ?_ | refine X_niln ?_ | refine X_nil ?_ | (refine X_var (fun yn bn hn1 hn2 hn3 hn4 hn5 => ?_)) | refine W_seqk (fun K hK => ?_) | refine W_seqr ?_ | refine W_ret ?_ | refine W_skip ?_ | refine W_block ?_ | refine W_exit ?_ | (refine X_s (fun x K hK => ?_); go_simp; refine hK _ _ (Ext.alloc _ _) ?_; clear hK K; refine X_al x ?_; generalize (World.later _ x).heap.size = bn; intro yn hn1 hn2 hn3 hn4 hn5; clear x) | refine W_tt ?_ | refine W_ff ?_ | refine W_test (fun hc => ?_) (fun hc => ?_) | go_step)
        exact ⟨_, _, rfl, hd, hA, n - 1, by omega, k + 1, .slice A9 n9 c9, log, F, by omega, by simp, HT.out.later (by simp), by omega⟩
    · obtain rfl : k = l.length := by omega
      repeat' (first | refine X_pure Try.func56 (is8_calls (HT.out.tab.later (by simp)) HT.out.ok (by omega) ((HT.out.own.rd Ent.len).later (by simp))) ?_ | refine X_gpure Try.func56 (fun _ => is8_calls (HT.out.tab.later (by simp)) HT.out.ok (by omega) ((HT.out.own.rd Ent.len).later (by simp))) ?_ | refine X_pure Try.func41 (works8_calls) ?_ | refine X_gpure Try.func41 (fun _ => works8_calls) ?_ | refine X_gt ?_ | refine X_q ?_ | refine X_g ?_ | refine X_gf ?_ | refine X_niln ?_ | refine X_nil ?_ | (refine X_var (fun yn bn hn1 hn2 hn3 hn4 hn5 => ?_)) | refine W_seqk (fun K hK => ?_) | refine W_seqr ?_ | refine W_ret ?_ | refine W_skip ?_ | refine W_block ?_ | refine W_exit ?_ | (refine X_s (fun x K hK => ?_); go_simp; refine hK _ _ (Ext.alloc _ _) ?_; clear hK K; refine X_al x ?_; generalize (World.later _ x).heap.size = bn; intro yn hn1 hn2 hn3 hn4 hn5; clear x) | refine W_tt ?_ | refine W_ff ?_ | refine W_test (fun hc => ?_) (fun hc => ?_) | go_step)
      exact Body_ret hd ⟨rfl, HT.out.ext⟩
  · have hli : (60 : Int) < (l.length : Int) := by omega
    refine Fn_of Try.func14 rfl (Nat.le_of_ble_eq_true rfl) ?_; intro A hd hA; simp only [ix, Nat.reduceAdd]; replace hA : A.tmps.size = 56 := hA
    repeat' (first | refine X_pure Try.func41 (works8_calls) ?_ | refine X_gpure Try.func41 (fun _ => works8_calls) ?_ | refine X_gt ?_ | refine X_q ?_ | refine X_g ?_ | refine X_gf ?_ | refine X_niln ?_ | refine X_nil ?_ | (refine X_var (fun yn bn hn1 hn2 hn3 hn4 hn5 => ?_)) | refine W_seqk (fun K hK => ?_) | refine W_seqr ?_ | refine W_ret ?_ | refine W_skip ?_ | refine W_block ?_ | refine W_exit ?_ | (refine X_s (fun x K hK => ?_); go_simp; refine hK _ _ (Ext.alloc _ _) ?_; clear hK K; refine X_al x ?_; generalize (World.later _ x).heap.size = bn; intro yn hn1 hn2 hn3 hn4 hn5; clear x) | refine W_tt ?_ | refine W_ff ?_ | refine W_test (fun hc => ?_) (fun hc => ?_) | go_step)
    exact Body_ret hd ⟨rfl, by simp⟩
end Go.Ws
