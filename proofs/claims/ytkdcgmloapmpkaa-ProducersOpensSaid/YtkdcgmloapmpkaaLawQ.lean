import Derived.Test.YtkdcgmloapmpkaaLawP
import Derived.Test.YtkdcgmloapmpkaaRow2
namespace Go.Ws
open Go Go.RowKit Go.Proofs
set_option maxHeartbeats 2000000
set_option maxRecDepth 100000
set_option linter.unusedVariables false
set_option linter.unusedSimpArgs false
set_option pp.deepTerms true
set_option pp.maxSteps 100000000

theorem Ext.size' {w w' : World} (h : Ext w w') : w.heap.size ≤ w'.heap.size := h.size
theorem opens8_calls (ns : List Int) (v : Value) (ms : List Bool) (v1 : Value) (w : World) (hl : RdL w v ns) (hls : RdB w v1 ms) : Pure Try.prog 15 #[v, v1] w (.bool true) := by
  obtain ⟨A0, c, rfl, hc, hcm, HR⟩ := hl.int
  obtain ⟨A1, c1, rfl, hc1, hcm1, HR1⟩ := hls.bool
  clear hl hls
  have HR1 := Lib.hid HR1
  by_cases hlen : ns.length ≤ 40
  · have hli : ¬ (40 : Int) < (ns.length : Int) := by omega
    refine Fn_of Try.func15 rfl (Nat.le_of_ble_eq_true rfl) ?_; intro A hd hA; simp only [ix, Nat.reduceAdd]; replace hA : A.tmps.size = 61 := hA
    repeat' (first | refine X_gt ?_ | refine X_q ?_ | refine X_g ?_ | refine X_gf ?_ | refine X_niln ?_ | refine X_nil ?_ | (refine X_var (fun yn bn hn1 hn2 hn3 hn4 hn5 => ?_)) | refine W_seqk (fun K hK => ?_) | refine W_seqr ?_ | refine W_ret ?_ | refine W_skip ?_ | refine W_block ?_ | refine W_exit ?_ | (refine X_s (fun x K hK => ?_); go_simp; refine hK _ _ (Ext.alloc _ _) ?_; clear hK K; refine X_al x ?_; generalize (World.later _ x).heap.size = bn; intro yn hn1 hn2 hn3 hn4 hn5; clear x) | refine W_tt ?_ | refine W_ff ?_ | refine W_test (fun hc => ?_) (fun hc => ?_) | go_step)
    refine X_ret Try.func48 (tabNew_calls _) (fun v' w1 hR => ?_)
    obtain ⟨bt, rfl, hE1, hT⟩ := hR
    have HTP := Lib.hid (TP.start hE1 hT)
    clear hE1 hT
    repeat' (first | refine X_gt ?_ | refine X_q ?_ | refine X_g ?_ | refine X_gf ?_ | refine X_niln ?_ | refine X_nil ?_ | (refine X_var (fun yn bn hn1 hn2 hn3 hn4 hn5 => ?_)) | refine W_seqk (fun K hK => ?_) | refine W_seqr ?_ | refine W_ret ?_ | refine W_skip ?_ | refine W_block ?_ | refine W_exit ?_ | (refine X_s (fun x K hK => ?_); go_simp; refine hK _ _ (Ext.alloc _ _) ?_; clear hK K; refine X_al x ?_; generalize (World.later _ x).heap.size = bn; intro yn hn1 hn2 hn3 hn4 hn5; clear x) | refine W_tt ?_ | refine W_ff ?_ | refine W_test (fun hc => ?_) (fun hc => ?_) | go_step)
    refine W_loops [0, 1, 5, 6, 7] (fun n vs W => ∃ (k : Nat) (u : Value) (log : List Ent) (F : Nat → Prop), k + n = ns.length ∧ vs = [.slice A0 ns.length c, .slice A1 ms.length c1, .pointer (some ⟨bt, 0, none⟩), u, .int .i64 k] ∧ TP w W bt u F log ∧ log.length ≤ k) ns.length hd hA (by decide) ⟨0, _, [], _, by omega, by simp, HTP.out, by simp⟩ ?_
    clear hd hA A HTP; intro n vs B W hd hA _ ⟨k, u, log, F, hk, hvs, hT, hlk⟩; subst hvs
    simp only [List.zip_cons_cons, List.zip_nil_right, List.zip_nil_left]
    obtain ⟨A9, c9, rfl⟩ := hT.u_slice
    have hE := hT.ext
    have HT := Lib.hid hT
    clear hT
    by_cases hlt : k < ns.length
    · obtain ⟨x, b, o, HX, rfl, hb, hx0⟩ := HR.out k hlt
      rw [← cell?_mod hE hb (fun h => h)] at hx0
      have hbW : b < W.heap.size := Nat.lt_of_lt_of_le hb hE.size
      have hki : (k : Int) < ns.length := by omega
      have fin : ∀ (e : Ent) (W1 : World) (u' : Value) (W2 : World), Ext W W1 → RdE W1 u' (takeOne log e) → (u' = .slice A9 log.length c9 ∨ ∀ b, u'.ownBlock = some b → W.heap.size ≤ b) → Mod F W1 W2 → Tab W2 bt (fun k => F k ∨ W1.heap.size ≤ k) (takeOne log e) →
          ∃ F2, TP w W2 bt u' F2 (takeOne log e) := fun e W1 u' W2 h1 h2 h3 h4 h5 => ⟨_, HT.out.step h1 h2 h3 h4 h5 (takeOne_ok HT.out.ok e)⟩
      have FIN := Lib.hid fin
      clear fin
      refine W_seqk (fun K hK => ?_)
      by_cases hmk : k < ms.length ∧ ms[k]? = some true
      · obtain ⟨hk2, hmt⟩ := hmk
        obtain ⟨y, b1, o1, HY, rfl, hb1, hy0⟩ := HR1.out k hk2
        obtain rfl : y = true := by rw [HY] at hmt; cases hmt; rfl
        rw [← cell?_mod hE hb1 (fun h => h)] at hy0
        have hb1W : b1 < W.heap.size := Nat.lt_of_lt_of_le hb1 hE.size
        have hk2i : (k : Int) < ms.length := by omega
        clear hE HY hmt
        repeat' (first | refine X_pure Try.func52 (data8_calls _ _ _) ?_ | refine X_gpure Try.func52 (fun _ => data8_calls _ _ _) ?_ | refine X_pure Try.func58 (mark8_calls _ _ _) ?_ | refine X_gpure Try.func58 (fun _ => mark8_calls _ _ _) ?_ | refine X_gt ?_ | refine X_q ?_ | refine X_g ?_ | refine X_gf ?_ | refine X_niln ?_ | refine X_nil ?_ | (refine X_var (fun yn bn hn1 hn2 hn3 hn4 hn5 => ?_)) | refine W_seqk (fun K hK => ?_) | refine W_seqr ?_ | refine W_ret ?_ | refine W_skip ?_ | refine W_block ?_ | refine W_exit ?_ | (refine X_s (fun x K hK => ?_); go_simp; refine hK _ _ (Ext.alloc _ _) ?_; clear hK K; refine X_al x ?_; generalize (World.later _ x).heap.size = bn; intro yn hn1 hn2 hn3 hn4 hn5; clear x) | refine W_tt ?_ | refine W_ff ?_ | refine W_test (fun hc => ?_) (fun hc => ?_) | go_step)
        refine X_store (off := 0) (v := (⟨1, 0, x, 0, 3, 0⟩ : Ent).v) (Blk.new hn5.out) (fun W1 hM1 hB1 => ?_)
        have HE1 : Hid (Ext W W1) := Lib.hid (Ext.fresh yn.2 hM1 (fun i hi => by omega))
        have hea : EntAt W1 bn 0 ⟨1, 0, x, 0, 3, 0⟩ := ⟨hB1.lt, (hB1.cell (k := 0) (by simp)).trans rfl, (hB1.cell (k := 1) (by simp)).trans rfl, (hB1.cell (k := 2) (by simp)).trans rfl, (hB1.cell (k := 3) (by simp)).trans rfl, (hB1.cell (k := 4) (by simp)).trans rfl, (hB1.cell (k := 5) (by simp)).trans rfl⟩
        have HEA := Lib.hid hea
        obtain ⟨q8, q0, q1, q2, q3, q4, q5⟩ := hea
        clear hM1 hB1 hx0 hbW hy0 hb1W hn1 hn2 hn3 hn4 hn5
        repeat' (first | refine X_gt ?_ | refine X_q ?_ | refine X_g ?_ | refine X_gf ?_ | refine X_niln ?_ | refine X_nil ?_ | (refine X_var (fun yn bn hn1 hn2 hn3 hn4 hn5 => ?_)) | refine W_seqk (fun K hK => ?_) | refine W_seqr ?_ | refine W_ret ?_ | refine W_skip ?_ | refine W_block ?_ | refine W_exit ?_ | (refine X_s (fun x K hK => ?_); go_simp; refine hK _ _ (Ext.alloc _ _) ?_; clear hK K; refine X_al x ?_; generalize (World.later _ x).heap.size = bn; intro yn hn1 hn2 hn3 hn4 hn5; clear x) | refine W_tt ?_ | refine W_ff ?_ | refine W_test (fun hc => ?_) (fun hc => ?_) | go_step)
        refine X_ret Try.func55 (append_callsF log _ (⟨1, 0, x, 0, 3, 0⟩ : Ent) _ (HT.out.rd.later HE1.out)) (fun r W3 hR => ?_)
        obtain ⟨u', rfl, hE3, hU, hF1⟩ := hR
        have hU' : RdE W3 u' (takeOne log (⟨1, 0, x, 0, 3, 0⟩ : Ent)) := hU
        have HU := Lib.hid hU'
        obtain ⟨A8, c8, rfl, -⟩ := hU'.ent
        have HE3 : Hid (Ext W W3) := Lib.hid (Ext.trans HE1.out hE3)
        have HF1 : Hid (_ ∨ ∀ b, (Value.slice A8 (takeOne log (⟨1, 0, x, 0, 3, 0⟩ : Ent)).length c8).ownBlock = some b → W.heap.size ≤ b) := Lib.hid (hF1.imp id (fun h b hb => Nat.le_trans (Ext.size' HE1.out) (h b hb)))
        obtain ⟨k8, k0, k1, k2, k3, k4, k5⟩ := HEA.out.later hE3
        clear hU hF1 hE3 HEA
        repeat' (first | refine X_gt ?_ | refine X_q ?_ | refine X_g ?_ | refine X_gf ?_ | refine X_niln ?_ | refine X_nil ?_ | (refine X_var (fun yn bn hn1 hn2 hn3 hn4 hn5 => ?_)) | refine W_seqk (fun K hK => ?_) | refine W_seqr ?_ | refine W_ret ?_ | refine W_skip ?_ | refine W_block ?_ | refine W_exit ?_ | (refine X_s (fun x K hK => ?_); go_simp; refine hK _ _ (Ext.alloc _ _) ?_; clear hK K; refine X_al x ?_; generalize (World.later _ x).heap.size = bn; intro yn hn1 hn2 hn3 hn4 hn5; clear x) | refine W_tt ?_ | refine W_ff ?_ | refine W_test (fun hc => ?_) (fun hc => ?_) | go_step)
        refine X_ret Try.func50 (tabAppend_calls (HT.out.tab.later HE3.out) (⟨1, 0, x, 0, 3, 0⟩ : Ent)) (fun v' W4 hR => ?_)
        obtain ⟨rfl, hM4, hT4⟩ := hR
        obtain ⟨F4, hT5⟩ := FIN.out (⟨1, 0, x, 0, 3, 0⟩ : Ent) W3 _ W4 HE3.out HU.out HF1.out hM4 hT4
        have HT5 := Lib.hid hT5
        have hl5 : (takeOne log (⟨1, 0, x, 0, 3, 0⟩ : Ent)).length ≤ k + 1 := by have := takeOne_len log (⟨1, 0, x, 0, 3, 0⟩ : Ent); omega
        clear hM4 hT4 hT5 HU HF1 HE3
        generalize takeOne log (⟨1, 0, x, 0, 3, 0⟩ : Ent) = log5 at *
        generalize appendNo log (⟨1, 0, x, 0, 3, 0⟩ : Ent) = no at *
        repeat' (first | refine X_pure Try.func45 (num8_calls _ _) ?_ | refine X_gpure Try.func45 (fun _ => num8_calls _ _) ?_ | refine X_gt ?_ | refine X_q ?_ | refine X_g ?_ | refine X_gf ?_ | refine X_niln ?_ | refine X_nil ?_ | (refine X_var (fun yn bn hn1 hn2 hn3 hn4 hn5 => ?_)) | refine W_seqk (fun K hK => ?_) | refine W_seqr ?_ | refine W_ret ?_ | refine W_skip ?_ | refine W_block ?_ | refine W_exit ?_ | (refine X_s (fun x K hK => ?_); go_simp; refine hK _ _ (Ext.alloc _ _) ?_; clear hK K; refine X_al x ?_; generalize (World.later _ x).heap.size = bn; intro yn hn1 hn2 hn3 hn4 hn5; clear x) | refine W_tt ?_ | refine W_ff ?_ | refine W_test (fun hc => ?_) (fun hc => ?_) | go_step)
        exact ⟨_, _, rfl, hd, hA, n - 1, by omega, k + 1, .slice A8 log5.length c8, log5, F4, by omega, by simp, HT5.out.later (by simp), hl5⟩
      · by_cases hk2 : k < ms.length
        · obtain ⟨y, b1, o1, HY, rfl, hb1, hy0⟩ := HR1.out k hk2
          obtain rfl : y = false := by
            cases y
            · rfl
            · exact absurd ⟨hk2, HY⟩ hmk
          rw [← cell?_mod hE hb1 (fun h => h)] at hy0
          have hb1W : b1 < W.heap.size := Nat.lt_of_lt_of_le hb1 hE.size
          have hk2i : (k : Int) < ms.length := by omega
          clear hE HY hmk
          repeat' (first | refine X_pure Try.func52 (data8_calls _ _ _) ?_ | refine X_gpure Try.func52 (fun _ => data8_calls _ _ _) ?_ | refine X_gt ?_ | refine X_q ?_ | refine X_g ?_ | refine X_gf ?_ | refine X_niln ?_ | refine X_nil ?_ | (refine X_var (fun yn bn hn1 hn2 hn3 hn4 hn5 => ?_)) | refine W_seqk (fun K hK => ?_) | refine W_seqr ?_ | refine W_ret ?_ | refine W_skip ?_ | refine W_block ?_ | refine W_exit ?_ | (refine X_s (fun x K hK => ?_); go_simp; refine hK _ _ (Ext.alloc _ _) ?_; clear hK K; refine X_al x ?_; generalize (World.later _ x).heap.size = bn; intro yn hn1 hn2 hn3 hn4 hn5; clear x) | refine W_tt ?_ | refine W_ff ?_ | refine W_test (fun hc => ?_) (fun hc => ?_) | go_step)
          have HE1 : Hid (Ext W (World.later _ yn)) := Lib.hid (Ext.trans (by simp) yn.2)
          have HEA : Hid (EntAt (World.later _ yn) bn 0 (⟨1, 0, x, 0, 1, 0⟩ : Ent)) := Lib.hid ⟨hn2, hn3 0, hn3 1, hn3 2, hn3 3, hn3 4, hn3 5⟩
          repeat' (first | refine X_gt ?_ | refine X_q ?_ | refine X_g ?_ | refine X_gf ?_ | refine X_niln ?_ | refine X_nil ?_ | (refine X_var (fun yn bn hn1 hn2 hn3 hn4 hn5 => ?_)) | refine W_seqk (fun K hK => ?_) | refine W_seqr ?_ | refine W_ret ?_ | refine W_skip ?_ | refine W_block ?_ | refine W_exit ?_ | (refine X_s (fun x K hK => ?_); go_simp; refine hK _ _ (Ext.alloc _ _) ?_; clear hK K; refine X_al x ?_; generalize (World.later _ x).heap.size = bn; intro yn hn1 hn2 hn3 hn4 hn5; clear x) | refine W_tt ?_ | refine W_ff ?_ | refine W_test (fun hc => ?_) (fun hc => ?_) | go_step)
          refine X_ret Try.func55 (append_callsF log _ (⟨1, 0, x, 0, 1, 0⟩ : Ent) _ (HT.out.rd.later HE1.out)) (fun r W3 hR => ?_)
          obtain ⟨u', rfl, hE3, hU, hF1⟩ := hR
          have hU' : RdE W3 u' (takeOne log (⟨1, 0, x, 0, 1, 0⟩ : Ent)) := hU
          have HU := Lib.hid hU'
          obtain ⟨A8, c8, rfl, -⟩ := hU'.ent
          have HE3 : Hid (Ext W W3) := Lib.hid (Ext.trans HE1.out hE3)
          have HF1 : Hid (_ ∨ ∀ b, (Value.slice A8 (takeOne log (⟨1, 0, x, 0, 1, 0⟩ : Ent)).length c8).ownBlock = some b → W.heap.size ≤ b) := Lib.hid (hF1.imp id (fun h b hb => Nat.le_trans (Ext.size' HE1.out) (h b hb)))
          obtain ⟨k8, k0, k1, k2, k3, k4, k5⟩ := HEA.out.later hE3
          clear hU hF1 hE3 HEA
          repeat' (first | refine X_gt ?_ | refine X_q ?_ | refine X_g ?_ | refine X_gf ?_ | refine X_niln ?_ | refine X_nil ?_ | (refine X_var (fun yn bn hn1 hn2 hn3 hn4 hn5 => ?_)) | refine W_seqk (fun K hK => ?_) | refine W_seqr ?_ | refine W_ret ?_ | refine W_skip ?_ | refine W_block ?_ | refine W_exit ?_ | (refine X_s (fun x K hK => ?_); go_simp; refine hK _ _ (Ext.alloc _ _) ?_; clear hK K; refine X_al x ?_; generalize (World.later _ x).heap.size = bn; intro yn hn1 hn2 hn3 hn4 hn5; clear x) | refine W_tt ?_ | refine W_ff ?_ | refine W_test (fun hc => ?_) (fun hc => ?_) | go_step)
          refine X_ret Try.func50 (tabAppend_calls (HT.out.tab.later HE3.out) (⟨1, 0, x, 0, 1, 0⟩ : Ent)) (fun v' W4 hR => ?_)
          obtain ⟨rfl, hM4, hT4⟩ := hR
          obtain ⟨F4, hT5⟩ := FIN.out (⟨1, 0, x, 0, 1, 0⟩ : Ent) W3 _ W4 HE3.out HU.out HF1.out hM4 hT4
          have HT5 := Lib.hid hT5
          have hl5 : (takeOne log (⟨1, 0, x, 0, 1, 0⟩ : Ent)).length ≤ k + 1 := by have := takeOne_len log (⟨1, 0, x, 0, 1, 0⟩ : Ent); omega
          clear hM4 hT4 hT5 HU HF1 HE3
          generalize takeOne log (⟨1, 0, x, 0, 1, 0⟩ : Ent) = log5 at *
          generalize appendNo log (⟨1, 0, x, 0, 1, 0⟩ : Ent) = no at *
          repeat' (first | refine X_pure Try.func45 (num8_calls _ _) ?_ | refine X_gpure Try.func45 (fun _ => num8_calls _ _) ?_ | refine X_gt ?_ | refine X_q ?_ | refine X_g ?_ | refine X_gf ?_ | refine X_niln ?_ | refine X_nil ?_ | (refine X_var (fun yn bn hn1 hn2 hn3 hn4 hn5 => ?_)) | refine W_seqk (fun K hK => ?_) | refine W_seqr ?_ | refine W_ret ?_ | refine W_skip ?_ | refine W_block ?_ | refine W_exit ?_ | (refine X_s (fun x K hK => ?_); go_simp; refine hK _ _ (Ext.alloc _ _) ?_; clear hK K; refine X_al x ?_; generalize (World.later _ x).heap.size = bn; intro yn hn1 hn2 hn3 hn4 hn5; clear x) | refine W_tt ?_ | refine W_ff ?_ | refine W_test (fun hc => ?_) (fun hc => ?_) | go_step)
          exact ⟨_, _, rfl, hd, hA, n - 1, by omega, k + 1, .slice A8 log5.length c8, log5, F4, by omega, by simp, HT5.out.later (by simp), hl5⟩
        · have hk2i : ¬ (k : Int) < ms.length := by omega
          clear hE hmk
          repeat' (first | refine X_pure Try.func52 (data8_calls _ _ _) ?_ | refine X_gpure Try.func52 (fun _ => data8_calls _ _ _) ?_ | refine X_gt ?_ | refine X_q ?_ | refine X_g ?_ | refine X_gf ?_ | refine X_niln ?_ | refine X_nil ?_ | (refine X_var (fun yn bn hn1 hn2 hn3 hn4 hn5 => ?_)) | refine W_seqk (fun K hK => ?_) | refine W_seqr ?_ | refine W_ret ?_ | refine W_skip ?_ | refine W_block ?_ | refine W_exit ?_ | (refine X_s (fun x K hK => ?_); go_simp; refine hK _ _ (Ext.alloc _ _) ?_; clear hK K; refine X_al x ?_; generalize (World.later _ x).heap.size = bn; intro yn hn1 hn2 hn3 hn4 hn5; clear x) | refine W_tt ?_ | refine W_ff ?_ | refine W_test (fun hc => ?_) (fun hc => ?_) | go_step)
          have HE1 : Hid (Ext W (World.later _ yn)) := Lib.hid (Ext.trans (by simp) yn.2)
          have HEA : Hid (EntAt (World.later _ yn) bn 0 (⟨1, 0, x, 0, 1, 0⟩ : Ent)) := Lib.hid ⟨hn2, hn3 0, hn3 1, hn3 2, hn3 3, hn3 4, hn3 5⟩
          repeat' (first | refine X_gt ?_ | refine X_q ?_ | refine X_g ?_ | refine X_gf ?_ | refine X_niln ?_ | refine X_nil ?_ | (refine X_var (fun yn bn hn1 hn2 hn3 hn4 hn5 => ?_)) | refine W_seqk (fun K hK => ?_) | refine W_seqr ?_ | refine W_ret ?_ | refine W_skip ?_ | refine W_block ?_ | refine W_exit ?_ | (refine X_s (fun x K hK => ?_); go_simp; refine hK _ _ (Ext.alloc _ _) ?_; clear hK K; refine X_al x ?_; generalize (World.later _ x).heap.size = bn; intro yn hn1 hn2 hn3 hn4 hn5; clear x) | refine W_tt ?_ | refine W_ff ?_ | refine W_test (fun hc => ?_) (fun hc => ?_) | go_step)
          refine X_ret Try.func55 (append_callsF log _ (⟨1, 0, x, 0, 1, 0⟩ : Ent) _ (HT.out.rd.later HE1.out)) (fun r W3 hR => ?_)
          obtain ⟨u', rfl, hE3, hU, hF1⟩ := hR
          have hU' : RdE W3 u' (takeOne log (⟨1, 0, x, 0, 1, 0⟩ : Ent)) := hU
          have HU := Lib.hid hU'
          obtain ⟨A8, c8, rfl, -⟩ := hU'.ent
          have HE3 : Hid (Ext W W3) := Lib.hid (Ext.trans HE1.out hE3)
          have HF1 : Hid (_ ∨ ∀ b, (Value.slice A8 (takeOne log (⟨1, 0, x, 0, 1, 0⟩ : Ent)).length c8).ownBlock = some b → W.heap.size ≤ b) := Lib.hid (hF1.imp id (fun h b hb => Nat.le_trans (Ext.size' HE1.out) (h b hb)))
          obtain ⟨k8, k0, k1, k2, k3, k4, k5⟩ := HEA.out.later hE3
          clear hU hF1 hE3 HEA
          repeat' (first | refine X_gt ?_ | refine X_q ?_ | refine X_g ?_ | refine X_gf ?_ | refine X_niln ?_ | refine X_nil ?_ | (refine X_var (fun yn bn hn1 hn2 hn3 hn4 hn5 => ?_)) | refine W_seqk (fun K hK => ?_) | refine W_seqr ?_ | refine W_ret ?_ | refine W_skip ?_ | refine W_block ?_ | refine W_exit ?_ | (refine X_s (fun x K hK => ?_); go_simp; refine hK _ _ (Ext.alloc _ _) ?_; clear hK K; refine X_al x ?_; generalize (World.later _ x).heap.size = bn; intro yn hn1 hn2 hn3 hn4 hn5; clear x) | refine W_tt ?_ | refine W_ff ?_ | refine W_test (fun hc => ?_) (fun hc => ?_) | go_step)
          refine X_ret Try.func50 (tabAppend_calls (HT.out.tab.later HE3.out) (⟨1, 0, x, 0, 1, 0⟩ : Ent)) (fun v' W4 hR => ?_)
          obtain ⟨rfl, hM4, hT4⟩ := hR
          obtain ⟨F4, hT5⟩ := FIN.out (⟨1, 0, x, 0, 1, 0⟩ : Ent) W3 _ W4 HE3.out HU.out HF1.out hM4 hT4
          have HT5 := Lib.hid hT5
          have hl5 : (takeOne log (⟨1, 0, x, 0, 1, 0⟩ : Ent)).length ≤ k + 1 := by have := takeOne_len log (⟨1, 0, x, 0, 1, 0⟩ : Ent); omega
          clear hM4 hT4 hT5 HU HF1 HE3
          generalize takeOne log (⟨1, 0, x, 0, 1, 0⟩ : Ent) = log5 at *
          generalize appendNo log (⟨1, 0, x, 0, 1, 0⟩ : Ent) = no at *
          repeat' (first | refine X_pure Try.func45 (num8_calls _ _) ?_ | refine X_gpure Try.func45 (fun _ => num8_calls _ _) ?_ | refine X_gt ?_ | refine X_q ?_ | refine X_g ?_ | refine X_gf ?_ | refine X_niln ?_ | refine X_nil ?_ | (refine X_var (fun yn bn hn1 hn2 hn3 hn4 hn5 => ?_)) | refine W_seqk (fun K hK => ?_) | refine W_seqr ?_ | refine W_ret ?_ | refine W_skip ?_ | refine W_block ?_ | refine W_exit ?_ | (refine X_s (fun x K hK => ?_); go_simp; refine hK _ _ (Ext.alloc _ _) ?_; clear hK K; refine X_al x ?_; generalize (World.later _ x).heap.size = bn; intro yn hn1 hn2 hn3 hn4 hn5; clear x) | refine W_tt ?_ | refine W_ff ?_ | refine W_test (fun hc => ?_) (fun hc => ?_) | go_step)
          exact ⟨_, _, rfl, hd, hA, n - 1, by omega, k + 1, .slice A8 log5.length c8, log5, F4, by omega, by simp, HT5.out.later (by simp), hl5⟩
    · obtain rfl : k = ns.length := by omega
      clear hE
      repeat' (first | refine X_pure Try.func56 (is8_calls (HT.out.tab.later (by simp)) HT.out.ok (by omega) (HT.out.rd.later (by simp))) ?_ | refine X_gpure Try.func56 (fun _ => is8_calls (HT.out.tab.later (by simp)) HT.out.ok (by omega) (HT.out.rd.later (by simp))) ?_ | refine X_pure Try.func41 (works8_calls) ?_ | refine X_gpure Try.func41 (fun _ => works8_calls) ?_ | refine X_gt ?_ | refine X_q ?_ | refine X_g ?_ | refine X_gf ?_ | refine X_niln ?_ | refine X_nil ?_ | (refine X_var (fun yn bn hn1 hn2 hn3 hn4 hn5 => ?_)) | refine W_seqk (fun K hK => ?_) | refine W_seqr ?_ | refine W_ret ?_ | refine W_skip ?_ | refine W_block ?_ | refine W_exit ?_ | (refine X_s (fun x K hK => ?_); go_simp; refine hK _ _ (Ext.alloc _ _) ?_; clear hK K; refine X_al x ?_; generalize (World.later _ x).heap.size = bn; intro yn hn1 hn2 hn3 hn4 hn5; clear x) | refine W_tt ?_ | refine W_ff ?_ | refine W_test (fun hc => ?_) (fun hc => ?_) | go_step)
      exact Body_ret hd ⟨rfl, HT.out.ext⟩
  · have hli : (40 : Int) < (ns.length : Int) := by omega
    refine Fn_of Try.func15 rfl (Nat.le_of_ble_eq_true rfl) ?_; intro A hd hA; simp only [ix, Nat.reduceAdd]; replace hA : A.tmps.size = 61 := hA
    repeat' (first | refine X_pure Try.func41 (works8_calls) ?_ | refine X_gpure Try.func41 (fun _ => works8_calls) ?_ | refine X_gt ?_ | refine X_q ?_ | refine X_g ?_ | refine X_gf ?_ | refine X_niln ?_ | refine X_nil ?_ | (refine X_var (fun yn bn hn1 hn2 hn3 hn4 hn5 => ?_)) | refine W_seqk (fun K hK => ?_) | refine W_seqr ?_ | refine W_ret ?_ | refine W_skip ?_ | refine W_block ?_ | refine W_exit ?_ | (refine X_s (fun x K hK => ?_); go_simp; refine hK _ _ (Ext.alloc _ _) ?_; clear hK K; refine X_al x ?_; generalize (World.later _ x).heap.size = bn; intro yn hn1 hn2 hn3 hn4 hn5; clear x) | refine W_tt ?_ | refine W_ff ?_ | refine W_test (fun hc => ?_) (fun hc => ?_) | go_step)
    exact Body_ret hd ⟨rfl, by simp⟩
end Go.Ws
