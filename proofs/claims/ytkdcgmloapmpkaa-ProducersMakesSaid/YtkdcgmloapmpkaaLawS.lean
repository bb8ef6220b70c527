import Derived.Test.YtkdcgmloapmpkaaLawR
namespace Go.Ws
open Go Go.RowKit Go.Proofs
set_option maxHeartbeats 2000000
set_option maxRecDepth 100000
set_option linter.unusedVariables false
set_option linter.unusedSimpArgs false
set_option pp.deepTerms true
set_option pp.maxSteps 100000000

/-- An own slice of entries, as a block. -/
theorem OwnE.blkN {W : World} {g n c : Nat} {es : List Ent} (h : OwnE W (.slice (some ⟨g, 0, none⟩) n c) es) : ∃ N f, Blk W g 39 N f ∧ es.length * 6 ≤ N := by
  obtain ⟨hlen, hsh⟩ := h
  rcases hsh with ⟨h, -⟩ | ⟨g', cap, cur, he, -, hb, hcl, hcm, hcs, hpre⟩
  · cases h
  · cases he
    exact ⟨_, _, Blk.new hb, by omega⟩
theorem copies8_calls (l : List Ent) (v : Value) (e : Ent) (n : Int) (w : World) (hl : RdE w v l) : Pure Try.prog 18 #[v, e.v, .int .i64 n] w (.bool true) := by
  have hl0 := Lib.hid hl
  obtain ⟨A0, c, rfl, hc, hcm, HR⟩ := hl.ent
  clear hl HR
  by_cases hlen : l.length ≤ 60
  · have hli : ¬ (60 : Int) < (l.length : Int) := by omega
    obtain ⟨hok, hll⟩ := ofL_ok l
    have hRT := Lib.hid (of_right (ofL l) [] hok)
    obtain ⟨lg, hlg⟩ : ∃ x, ofL l = x := ⟨_, rfl⟩
    rw [hlg] at hok hll hRT
    have HLG := Lib.hid hlg
    have hln : lg.length < 1000 := by omega
    clear hlg
    refine Fn_of Try.func18 rfl (Nat.le_of_ble_eq_true rfl) ?_; intro A hd hA; simp only [ix, Nat.reduceAdd]; replace hA : A.tmps.size = 144 := hA
    repeat' (first | refine X_gt ?_ | refine X_q ?_ | refine X_g ?_ | refine X_gf ?_ | refine X_niln ?_ | refine X_nil ?_ | (refine X_var (fun yn bn hn1 hn2 hn3 hn4 hn5 => ?_)) | refine W_seqk (fun K hK => ?_) | refine W_seqr ?_ | refine W_ret ?_ | refine W_skip ?_ | refine W_block ?_ | refine W_exit ?_ | (refine X_s (fun x K hK => ?_); go_simp; refine hK _ _ (Ext.alloc _ _) ?_; clear hK K; refine X_al x ?_; generalize (World.later _ x).heap.size = bn; intro yn hn1 hn2 hn3 hn4 hn5; clear x) | refine W_tt ?_ | refine W_ff ?_ | refine W_test (fun hc => ?_) (fun hc => ?_) | go_step)
    rename Nat => be
    rename Later w => ye
    refine X_ret Try.func42 (of8_calls l _ _ (hl0.out.later (by simp))) (fun v' w1 hR => ?_)
    obtain ⟨hE1, hR1⟩ := hR
    rw [HLG.out] at hR1
    have HL := Lib.hid hR1
    obtain ⟨A1, c1, rfl, hc1, hcm1, -⟩ := hR1.ent
    obtain ⟨y1, rfl⟩ := hE1.get
    clear hE1 hR1
    repeat' (first | refine X_gt ?_ | refine X_q ?_ | refine X_g ?_ | refine X_gf ?_ | refine X_niln ?_ | refine X_nil ?_ | (refine X_var (fun yn bn hn1 hn2 hn3 hn4 hn5 => ?_)) | refine W_seqk (fun K hK => ?_) | refine W_seqr ?_ | refine W_ret ?_ | refine W_skip ?_ | refine W_block ?_ | refine W_exit ?_ | (refine X_s (fun x K hK => ?_); go_simp; refine hK _ _ (Ext.alloc _ _) ?_; clear hK K; refine X_al x ?_; generalize (World.later _ x).heap.size = bn; intro yn hn1 hn2 hn3 hn4 hn5; clear x) | refine W_tt ?_ | refine W_ff ?_ | refine W_test (fun hc => ?_) (fun hc => ?_) | go_step)
    refine X_ret Try.func43 (tabOf_calls lg _ _ (HL.out.later (by simp))) (fun v' w2 hR => ?_)
    obtain ⟨hE2, hR1, -⟩ := hR
    obtain ⟨bt, rfl, hT⟩ := hR1 hok
    obtain ⟨y2, rfl⟩ := hE2.get
    have HT := Lib.hid hT.here
    clear hR1 hT hE2
    repeat' (first | refine X_gt ?_ | refine X_q ?_ | refine X_g ?_ | refine X_gf ?_ | refine X_niln ?_ | refine X_nil ?_ | (refine X_var (fun yn bn hn1 hn2 hn3 hn4 hn5 => ?_)) | refine W_seqk (fun K hK => ?_) | refine W_seqr ?_ | refine W_ret ?_ | refine W_skip ?_ | refine W_block ?_ | refine W_exit ?_ | (refine X_s (fun x K hK => ?_); go_simp; refine hK _ _ (Ext.alloc _ _) ?_; clear hK K; refine X_al x ?_; generalize (World.later _ x).heap.size = bn; intro yn hn1 hn2 hn3 hn4 hn5; clear x) | refine W_tt ?_ | refine W_ff ?_ | refine W_test (fun hc => ?_) (fun hc => ?_) | go_step)
    refine X_ret Try.func60 (tabCopy_calls (HT.out.later (by simp)) hok) (fun v' w3 hR => ?_)
    obtain ⟨bc, rfl, hE3, hT3⟩ := hR
    obtain ⟨y3, rfl⟩ := hE3.get
    have HC := Lib.hid hT3.here
    clear hT3 hE3
    repeat' (first | refine X_pure Try.func45 (num8_calls _ _) ?_ | refine X_gpure Try.func45 (fun _ => num8_calls _ _) ?_ | refine X_pure Try.func61 (sameT_calls (HT.out.later (by simp)) (HC.out.later (by simp))) ?_ | refine X_gpure Try.func61 (fun _ => sameT_calls (HT.out.later (by simp)) (HC.out.later (by simp))) ?_ | refine X_gt ?_ | refine X_q ?_ | refine X_g ?_ | refine X_gf ?_ | refine X_niln ?_ | refine X_nil ?_ | (refine X_var (fun yn bn hn1 hn2 hn3 hn4 hn5 => ?_)) | refine W_seqk (fun K hK => ?_) | refine W_seqr ?_ | refine W_ret ?_ | refine W_skip ?_ | refine W_block ?_ | refine W_exit ?_ | (refine X_s (fun x K hK => ?_); go_simp; refine hK _ _ (Ext.alloc _ _) ?_; clear hK K; refine X_al x ?_; generalize (World.later _ x).heap.size = bn; intro yn hn1 hn2 hn3 hn4 hn5; clear x) | refine W_tt ?_ | refine W_ff ?_ | refine W_test (fun hc => ?_) (fun hc => ?_) | go_step)
    refine X_ret Try.func55 (append_callsF lg _ e _ (HL.out.later (by simp))) (fun r w4 hR => ?_)
    obtain ⟨u', rfl, hE4, hU, hF1⟩ := hR
    have hU' : RdE w4 u' (takeOne lg e) := hU
    have HU := Lib.hid hU'
    obtain ⟨A8, c8, rfl, hc8, hcm8, -⟩ := hU'.ent
    obtain ⟨y4, rfl⟩ := hE4.get
    have HF1 := Lib.hid hF1
    clear hU hF1 hE4
    repeat' (first | refine X_gt ?_ | refine X_q ?_ | refine X_g ?_ | refine X_gf ?_ | refine X_niln ?_ | refine X_nil ?_ | (refine X_var (fun yn bn hn1 hn2 hn3 hn4 hn5 => ?_)) | refine W_seqk (fun K hK => ?_) | refine W_seqr ?_ | refine W_ret ?_ | refine W_skip ?_ | refine W_block ?_ | refine W_exit ?_ | (refine X_s (fun x K hK => ?_); go_simp; refine hK _ _ (Ext.alloc _ _) ?_; clear hK K; refine X_al x ?_; generalize (World.later _ x).heap.size = bn; intro yn hn1 hn2 hn3 hn4 hn5; clear x) | refine W_tt ?_ | refine W_ff ?_ | refine W_test (fun hc => ?_) (fun hc => ?_) | go_step)
    refine X_ret Try.func50 (tabAppend_calls (HT.out.later (by simp)) e) (fun v' w5 hR => ?_)
    obtain ⟨rfl, hM5, hT5⟩ := hR
    have z0 : w.heap.size ≤ (w.later ye).heap.size := ye.2.size
    have z1 : (w.later ye).heap.size ≤ ((w.later ye).later y1).heap.size := y1.2.size
    have z2 : ((w.later ye).later y1).heap.size ≤ (((w.later ye).later y1).later y2).heap.size := y2.2.size
    have z3 : (((w.later ye).later y1).later y2).heap.size ≤ ((((w.later ye).later y1).later y2).later y3).heap.size := y3.2.size
    have z4 : ((((w.later ye).later y1).later y2).later y3).heap.size ≤ (((((w.later ye).later y1).later y2).later y3).later y4).heap.size := y4.2.size
    have z5 := hM5.size
    have hu8 : ∀ j, (Value.slice A8 (takeOne lg e).length c8).ownBlock = some j → (j < ((w.later ye).later y1).heap.size ∨ ((((w.later ye).later y1).later y2).later y3).heap.size ≤ j) ∧ j < (((((w.later ye).later y1).later y2).later y3).later y4).heap.size := by
      intro j hj
      refine ⟨?_, HU.out.own_lt j hj⟩
      rcases HF1.out with h1 | h1
      · exact .inl (HL.out.own_lt j (h1 ▸ hj))
      · exact .inr (h1 j hj)
    have hl1 : ∀ j, (Value.slice A1 lg.length c1).ownBlock = some j → j < ((w.later ye).later y1).heap.size := fun j hj => HL.out.own_lt j hj
    have HT5 : Hid (Tab w5 bt _ (takeOne lg e)) := Lib.hid (Tab.here hT5)
    have HC5 : Hid (Tab w5 bc (fun k => (((w.later ye).later y1).later y2).heap.size ≤ k ∧ k < ((((w.later ye).later y1).later y2).later y3).heap.size) lg) := Lib.hid ((HC.out.later y4.2).mod hM5 (fun k hk h => by have := h.2; have := hk.1; omega))
    have HU5 : Hid (RdE w5 (.slice A8 (takeOne lg e).length c8) (takeOne lg e)) := Lib.hid (HU.out.mod hM5 (fun j hj h => by have := (hu8 j hj).1; have := h.1; have := h.2; omega))
    have HL5 : Hid (RdE w5 (.slice A1 lg.length c1) lg) := Lib.hid ((((HL.out.later y2.2).later y3.2).later y4.2).mod hM5 (fun j hj h => by have := hl1 j hj; have := h.1; omega))
    have HE5 : Hid (Ext w w5) := Lib.hid (Ext.fresh (by simp : Ext w (((((w.later ye).later y1).later y2).later y3).later y4)) hM5 (fun j hj => by have := hj.1; omega))
    have hnl : (takeOne lg e).length ≤ lg.length + 1 := takeOne_len lg e
    have hsm : (appendNo lg e = 0 ∧ (takeOne lg e).length = lg.length + 1) ∨ (appendNo lg e ≠ 0 ∧ takeOne lg e = lg) := by
      unfold takeOne
      by_cases h : appendNo lg e = 0
      · left; rw [if_pos h]; simp [h]
      · right; rw [if_neg h]; exact ⟨h, rfl⟩
    have hok2 : ofNo (takeOne lg e) = 0 := takeOne_ok hok e
    generalize takeOne lg e = nx at *
    generalize appendNo lg e = no at *
    obtain ⟨sb, hsb⟩ : ∃ sb : Bool, ((nx.length : Int) == (lg.length : Int)) = sb := ⟨_, rfl⟩
    generalize hS1 : ((w.later ye).later y1).heap.size = S1 at *
    generalize hS2 : (((w.later ye).later y1).later y2).heap.size = S2 at *
    generalize hS3 : ((((w.later ye).later y1).later y2).later y3).heap.size = S3 at *
    generalize hS4 : (((((w.later ye).later y1).later y2).later y3).later y4).heap.size = S4 at *
    clear hM5 hT5 HT HC HU HF1 HL hn1 hn2 hn3 hn4 hn5
    repeat' (first | refine X_gt ?_ | refine X_q ?_ | refine X_g ?_ | refine X_gf ?_ | refine X_niln ?_ | refine X_nil ?_ | (refine X_var (fun yn bn hn1 hn2 hn3 hn4 hn5 => ?_)) | refine W_seqk (fun K hK => ?_) | refine W_seqr ?_ | refine W_ret ?_ | refine W_skip ?_ | refine W_block ?_ | refine W_exit ?_ | (refine X_s (fun x K hK => ?_); go_simp; refine hK _ _ (Ext.alloc _ _) ?_; clear hK K; refine X_al x ?_; generalize (World.later _ x).heap.size = bn; intro yn hn1 hn2 hn3 hn4 hn5; clear x) | refine W_tt ?_ | refine W_ff ?_ | refine W_test (fun hc => ?_) (fun hc => ?_) | go_step)
    refine X_ret Try.func59 (tabLog_calls (HT5.out.later (by simp)) (by omega)) (fun v' w6 hR => ?_)
    obtain ⟨hE6, hO6, hF6⟩ := hR
    have HO6 := Lib.hid hO6
    have hrd6 := hO6.rd Ent.len
    obtain ⟨A6, c6, rfl, -⟩ := hrd6.ent
    have z6 := hE6.size
    have HT6 := Lib.hid (HT5.out.later hE6)
    have HC6 := Lib.hid (HC5.out.later hE6)
    have HU6 := Lib.hid (HU5.out.later hE6)
    have HL6 := Lib.hid (HL5.out.later hE6)
    have HE6 := Lib.hid (Ext.trans HE5.out hE6)
    have HF6 := Lib.hid hF6
    clear hE6 hO6 hF6 hrd6 HT5 HC5 HU5 HL5
    repeat' (first | refine X_gt ?_ | refine X_q ?_ | refine X_g ?_ | refine X_gf ?_ | refine X_niln ?_ | refine X_nil ?_ | (refine X_var (fun yn bn hn1 hn2 hn3 hn4 hn5 => ?_)) | refine W_seqk (fun K hK => ?_) | refine W_seqr ?_ | refine W_ret ?_ | refine W_skip ?_ | refine W_block ?_ | refine W_exit ?_ | (refine X_s (fun x K hK => ?_); go_simp; refine hK _ _ (Ext.alloc _ _) ?_; clear hK K; refine X_al x ?_; generalize (World.later _ x).heap.size = bn; intro yn hn1 hn2 hn3 hn4 hn5; clear x) | refine W_tt ?_ | refine W_ff ?_ | refine W_test (fun hc => ?_) (fun hc => ?_) | go_step)
    refine W_loops [2, 7, 8, 10, 11, 12, 13, 14, 15, 16] (fun n2 vs W => ∃ k : Nat, Mod (fun j => (Value.slice A6 nx.length c6).ownBlock = some j) w6 W ∧ k + n2 = nx.length ∧ vs = [.int .i64 n, .slice A1 lg.length c1, .pointer (some ⟨bt, 0, none⟩), .pointer (some ⟨bc, 0, none⟩), .slice A8 nx.length c8, .int .i64 no, .int .i64 no, .bool sb, .slice A6 nx.length c6, .int .i64 k] ∧
      (∀ g, A6 = some ⟨g, 0, none⟩ → ∃ N f, Blk W g 39 N f ∧ nx.length * 6 ≤ N)) nx.length hd hA (by decide) ⟨0, Mod.refl _ _, by omega, by simp, fun g hg => by subst hg; exact OwnE.blkN HO6.out⟩ ?_
    clear hd hA A; intro n2 vs B W hd hA _ ⟨k, hM, hk, hvs, hB⟩; subst hvs
    simp only [List.zip_cons_cons, List.zip_nil_right, List.zip_nil_left]
    have HM := Lib.hid hM
    have HB := Lib.hid hB
    clear hM hB
    by_cases hlt : k < nx.length
    · have hki : (k : Int) < nx.length := by omega
      obtain ⟨g, rfl⟩ : ∃ g, A6 = some ⟨g, 0, none⟩ := by
        rcases HO6.out.shape with ⟨h, h'⟩ | ⟨g, c, h, -⟩
        · rw [h'] at hlt; simp at hlt
        · cases h; exact ⟨_, rfl⟩
      obtain ⟨N, f, hblk, hN⟩ := HB.out g rfl
      have hgW := hblk.lt
      have HBK := Lib.hid hblk
      clear hblk
      refine W_seqk (fun K hK => ?_)
      repeat' (first | refine X_gt ?_ | refine X_q ?_ | refine X_g ?_ | refine X_gf ?_ | refine X_niln ?_ | refine X_nil ?_ | (refine X_var (fun yn bn hn1 hn2 hn3 hn4 hn5 => ?_)) | refine W_seqk (fun K hK => ?_) | refine W_seqr ?_ | refine W_ret ?_ | refine W_skip ?_ | refine W_block ?_ | refine W_exit ?_ | (refine X_s (fun x K hK => ?_); go_simp; refine hK _ _ (Ext.alloc _ _) ?_; clear hK K; refine X_al x ?_; generalize (World.later _ x).heap.size = bn; intro yn hn1 hn2 hn3 hn4 hn5; clear x) | refine W_tt ?_ | refine W_ff ?_ | refine W_test (fun hc => ?_) (fun hc => ?_) | go_step)
      refine X_store (off := k * 6) (v := .agg #[.int .i64 0, .int .i64 0, .int .i64 0, .int .i64 0, .int .i64 0, .int .i64 0]) HBK.out (fun W1 hM1 hB1 => ?_)
      have HM1 := Lib.hid (Mod.trans HM.out hM1 (fun _ _ h => h) (fun j _ h => by subst h; rfl) : Mod (fun j => (Value.slice (some ⟨g, 0, none⟩) nx.length c6).ownBlock = some j) w6 W1)
      repeat' (first | refine X_gt ?_ | refine X_q ?_ | refine X_g ?_ | refine X_gf ?_ | refine X_niln ?_ | refine X_nil ?_ | (refine X_var (fun yn bn hn1 hn2 hn3 hn4 hn5 => ?_)) | refine W_seqk (fun K hK => ?_) | refine W_seqr ?_ | refine W_ret ?_ | refine W_skip ?_ | refine W_block ?_ | refine W_exit ?_ | (refine X_s (fun x K hK => ?_); go_simp; refine hK _ _ (Ext.alloc _ _) ?_; clear hK K; refine X_al x ?_; generalize (World.later _ x).heap.size = bn; intro yn hn1 hn2 hn3 hn4 hn5; clear x) | refine W_tt ?_ | refine W_ff ?_ | refine W_test (fun hc => ?_) (fun hc => ?_) | go_step)
      exact ⟨_, _, rfl, hd, hA, n2 - 1, by omega, k + 1, HM1.out, by omega, by simp, fun g' hg' => by cases hg'; exact ⟨N, _, hB1, hN⟩⟩
    · have hF6 : ∀ j, (Value.slice A6 nx.length c6).ownBlock = some j → w5.heap.size ≤ j := fun j hj => HF6.out j hj
      have HT7 := Lib.hid (HT6.out.mod HM.out (fun k hk h => by have := hF6 k h; have := hk.2; omega))
      have HC7 := Lib.hid (HC6.out.mod HM.out (fun k hk h => by have := hF6 k h; have := hk.2; omega))
      have HU7 := Lib.hid (HU6.out.mod HM.out (fun j hj h => by have := hF6 j h; have := (hu8 j hj).2; omega))
      have HL7 := Lib.hid (HL6.out.mod HM.out (fun j hj h => by have := hF6 j h; have := hl1 j hj; omega))
      have HE7 := Lib.hid (Ext.fresh HE6.out HM.out (fun j hj => by have := hF6 j hj; omega))
      have hlog : ∀ m : Nat, ofNo (lg.take m) = 0 := fun m => ofNo_take hok m
      have hlen2 : lg.length ≤ nx.length := by rcases hsm with ⟨-, h⟩ | ⟨-, h⟩ <;> (try rw [h]) <;> omega
      clear HT6 HC6 HU6 HL6 HE6 HM HB HF6 HO6 hF6
      repeat' (first | refine X_gt ?_ | refine X_q ?_ | refine X_g ?_ | refine X_gf ?_ | refine X_niln ?_ | refine X_nil ?_ | (refine X_var (fun yn bn hn1 hn2 hn3 hn4 hn5 => ?_)) | refine W_seqk (fun K hK => ?_) | refine W_seqr ?_ | refine W_ret ?_ | refine W_skip ?_ | refine W_block ?_ | refine W_exit ?_ | (refine X_s (fun x K hK => ?_); go_simp; refine hK _ _ (Ext.alloc _ _) ?_; clear hK K; refine X_al x ?_; generalize (World.later _ x).heap.size = bn; intro yn hn1 hn2 hn3 hn4 hn5; clear x) | refine W_tt ?_ | refine W_ff ?_ | refine W_test (fun hc => ?_) (fun hc => ?_) | go_step)
      refine X_ret Try.func54 (tabTrunc_calls (HC7.out.later (by simp)) hok n) (fun v' w8 hR => ?_)
      by_cases hx : n < 0 ∨ (lg.length : Int) < n
      · rw [if_pos hx] at hR
        obtain ⟨rfl, hE8⟩ := hR
        have HT8 := Lib.hid (HT7.out.later hE8)
        have HC8 := Lib.hid (HC7.out.later hE8)
        have HU8 := Lib.hid (HU7.out.later hE8)
        have HL8 := Lib.hid (HL7.out.later hE8)
        have HE8 := Lib.hid (Ext.trans HE7.out hE8)
        have HCM := Lib.hid (fun (V : World) (F G : Nat → Prop) (h1 : Tab V bc F lg) (h2 : Tab V bt G nx) => ((decide_eq_decide.2 eq_comm : decide (lg = nx) = decide (nx = lg)) ▸ sameT_calls h1 h2 : Pure Try.prog 61 #[.pointer (some ⟨bc, 0, none⟩), .pointer (some ⟨bt, 0, none⟩)] V (.bool (decide (nx = lg)))))
        clear hE8 HT7 HC7 HU7 HL7 HE7
        repeat' (first | refine X_pure Try.func22 (same_calls nx lg _ _ _ (HU8.out.later (by simp)) (HL8.out.later (by simp))) ?_ | refine X_gpure Try.func22 (fun _ => same_calls nx lg _ _ _ (HU8.out.later (by simp)) (HL8.out.later (by simp))) ?_ | refine X_pure Try.func45 (num8_calls _ _) ?_ | refine X_gpure Try.func45 (fun _ => num8_calls _ _) ?_ | refine X_gt ?_ | refine X_q ?_ | refine X_g ?_ | refine X_gf ?_ | refine X_niln ?_ | refine X_nil ?_ | (refine X_var (fun yn bn hn1 hn2 hn3 hn4 hn5 => ?_)) | refine W_seqk (fun K hK => ?_) | refine W_seqr ?_ | refine W_ret ?_ | refine W_skip ?_ | refine W_block ?_ | refine W_exit ?_ | (refine X_s (fun x K hK => ?_); go_simp; refine hK _ _ (Ext.alloc _ _) ?_; clear hK K; refine X_al x ?_; generalize (World.later _ x).heap.size = bn; intro yn hn1 hn2 hn3 hn4 hn5; clear x) | refine W_tt ?_ | refine W_ff ?_ | refine W_test (fun hc => ?_) (fun hc => ?_) | go_step)
        rcases hsm with ⟨hno, hnl2⟩ | ⟨hno, hnl2⟩
        · have hb1 : ((nx.length : Int) == (lg.length : Int)) = false := by simp; omega
          have hb2 : ((nx.length : Int) == (lg.length : Int) + 1) = true := by simp; omega
          obtain rfl : sb = false := by rw [← hsb, hb1]
          clear hnl2 hsb
          repeat' (first | (refine X_pure Try.func56 (is8_calls (HT8.out.later (by simp)) hok2 (by omega) (HU8.out.later (by simp))) ?_) | (refine X_pure Try.func56 (is8_calls (HC8.out.later (by simp)) hok (by omega) (HL8.out.later (by simp))) ?_) | (refine X_pure Try.func61 (sameT_calls (HT8.out.later (by simp)) (HC8.out.later (by simp))) ?_) | (refine X_pure Try.func61 (HCM.out _ _ _ (HC8.out.later (by simp)) (HT8.out.later (by simp))) ?_) | (refine X_pure Try.func61 sameT_nil ?_) | (refine X_pure Try.func61 (sameT_nt (HC8.out.later (by simp))) ?_) | (refine X_pure Try.func61 (sameT_tn (HC8.out.later (by simp))) ?_) | (refine X_gf2 ?_) | refine X_pure Try.func45 (num8_calls _ _) ?_ | refine X_gpure Try.func45 (fun _ => num8_calls _ _) ?_ | refine X_pure Try.func41 (works8_calls) ?_ | refine X_gpure Try.func41 (fun _ => works8_calls) ?_ | refine X_gt ?_ | refine X_q ?_ | refine X_g ?_ | refine X_gf ?_ | refine X_niln ?_ | refine X_nil ?_ | (refine X_var (fun yn bn hn1 hn2 hn3 hn4 hn5 => ?_)) | refine W_seqk (fun K hK => ?_) | refine W_seqr ?_ | refine W_ret ?_ | refine W_skip ?_ | refine W_block ?_ | refine W_exit ?_ | (refine X_s (fun x K hK => ?_); go_simp; refine hK _ _ (Ext.alloc _ _) ?_; clear hK K; refine X_al x ?_; generalize (World.later _ x).heap.size = bn; intro yn hn1 hn2 hn3 hn4 hn5; clear x) | refine W_tt ?_ | refine W_ff ?_ | refine W_test (fun hc => ?_) (fun hc => ?_) | go_step)
          exact Body_ret hd ⟨rfl, Ext.trans HE8.out (by simp)⟩
        · obtain rfl : sb = true := by rw [← hsb, hnl2]; simp
          clear hnl2 hsb
          repeat' (first | (refine X_pure Try.func56 (is8_calls (HT8.out.later (by simp)) hok2 (by omega) (HU8.out.later (by simp))) ?_) | (refine X_pure Try.func56 (is8_calls (HC8.out.later (by simp)) hok (by omega) (HL8.out.later (by simp))) ?_) | (refine X_pure Try.func61 (sameT_calls (HT8.out.later (by simp)) (HC8.out.later (by simp))) ?_) | (refine X_pure Try.func61 (HCM.out _ _ _ (HC8.out.later (by simp)) (HT8.out.later (by simp))) ?_) | (refine X_pure Try.func61 sameT_nil ?_) | (refine X_pure Try.func61 (sameT_nt (HC8.out.later (by simp))) ?_) | (refine X_pure Try.func61 (sameT_tn (HC8.out.later (by simp))) ?_) | (refine X_gf2 ?_) | refine X_pure Try.func45 (num8_calls _ _) ?_ | refine X_gpure Try.func45 (fun _ => num8_calls _ _) ?_ | refine X_pure Try.func41 (works8_calls) ?_ | refine X_gpure Try.func41 (fun _ => works8_calls) ?_ | refine X_gt ?_ | refine X_q ?_ | refine X_g ?_ | refine X_gf ?_ | refine X_niln ?_ | refine X_nil ?_ | (refine X_var (fun yn bn hn1 hn2 hn3 hn4 hn5 => ?_)) | refine W_seqk (fun K hK => ?_) | refine W_seqr ?_ | refine W_ret ?_ | refine W_skip ?_ | refine W_block ?_ | refine W_exit ?_ | (refine X_s (fun x K hK => ?_); go_simp; refine hK _ _ (Ext.alloc _ _) ?_; clear hK K; refine X_al x ?_; generalize (World.later _ x).heap.size = bn; intro yn hn1 hn2 hn3 hn4 hn5; clear x) | refine W_tt ?_ | refine W_ff ?_ | refine W_test (fun hc => ?_) (fun hc => ?_) | go_step)
          exact Body_ret hd ⟨rfl, Ext.trans HE8.out (by simp)⟩
      · rw [if_neg hx] at hR
        obtain ⟨rfl, hM8, hT8⟩ := hR
        obtain ⟨m, rfl⟩ : ∃ m : Nat, n = m := ⟨n.toNat, by omega⟩
        rw [Int.toNat_natCast] at hT8
        have hml : m ≤ lg.length := by omega
        have hx1 : ¬ (m : Int) < 0 := by omega
        have hx2 : ¬ (lg.length : Int) < m := by omega
        have hx0 : (0 : Int) ≤ m := by omega
        have hmc : (m : Int) ≤ c1 := by omega
        have hlm : (lg.take m).length = m := by simp; omega
        have HT8 := Lib.hid ((HT7.out.later (by simp)).mod hM8 (fun k hk h => by have := hk.1; omega))
        have HC8 := Lib.hid hT8
        have HU8 := Lib.hid ((HU7.out.later (by simp)).mod hM8 (fun j hj h => by have := (hu8 j hj).1; omega))
        have HL7' := Lib.hid ((HL7.out.later (by simp)).mod hM8 (fun j hj h => by have := hl1 j hj; omega))
        have HL8 := Lib.hid (HL7'.out.take m hml)
        have HE8 := Lib.hid (Ext.fresh (Ext.trans HE7.out (by simp)) hM8 (fun j hj => by omega))
        have HCM := Lib.hid (fun (V : World) (F G : Nat → Prop) (h1 : Tab V bc F (lg.take m)) (h2 : Tab V bt G nx) => ((decide_eq_decide.2 eq_comm : decide (lg.take m = nx) = decide (nx = lg.take m)) ▸ sameT_calls h1 h2 : Pure Try.prog 61 #[.pointer (some ⟨bc, 0, none⟩), .pointer (some ⟨bt, 0, none⟩)] V (.bool (decide (nx = lg.take m)))))
        clear hM8 hT8 HT7 HC7 HU7 HL7 HE7 hx
        have hmin : min (m : Int) (lg.length : Int) = m := Int.min_eq_left (by omega)
        have hmax : max (0 : Int) (m : Int) = m := Int.max_eq_right (by omega)
        repeat' (first | refine X_pure Try.func22 (same_calls nx (lg.take m) _ _ _ (HU8.out.later (by simp)) (HL8.out.later (by simp))) ?_ | refine X_gpure Try.func22 (fun _ => same_calls nx (lg.take m) _ _ _ (HU8.out.later (by simp)) (HL8.out.later (by simp))) ?_ | refine X_pure Try.func45 (num8_calls _ _) ?_ | refine X_gpure Try.func45 (fun _ => num8_calls _ _) ?_ | refine X_gt ?_ | refine X_q ?_ | refine X_g ?_ | refine X_gf ?_ | refine X_niln ?_ | refine X_nil ?_ | (refine X_var (fun yn bn hn1 hn2 hn3 hn4 hn5 => ?_)) | refine W_seqk (fun K hK => ?_) | refine W_seqr ?_ | refine W_ret ?_ | refine W_skip ?_ | refine W_block ?_ | refine W_exit ?_ | (refine X_s (fun x K hK => ?_); go_simp; refine hK _ _ (Ext.alloc _ _) ?_; clear hK K; refine X_al x ?_; generalize (World.later _ x).heap.size = bn; intro yn hn1 hn2 hn3 hn4 hn5; clear x) | refine W_tt ?_ | refine W_ff ?_ | refine W_test (fun hc => ?_) (fun hc => ?_) | go_step)
        rcases hsm with ⟨hno, hnl2⟩ | ⟨hno, hnl2⟩
        · have hb1 : ((nx.length : Int) == (lg.length : Int)) = false := by simp; omega
          have hb2 : ((nx.length : Int) == (lg.length : Int) + 1) = true := by simp; omega
          obtain rfl : sb = false := by rw [← hsb, hb1]
          clear hnl2 hsb
          repeat' (first | (refine X_pure Try.func56 (is8_calls (HT8.out.later (by simp)) hok2 (by omega) (HU8.out.later (by simp))) ?_) | (refine X_pure Try.func56 (is8_calls (HC8.out.later (by simp)) (hlog m) (by omega) (HL8.out.later (by simp))) ?_) | (refine X_pure Try.func61 (sameT_calls (HT8.out.later (by simp)) (HC8.out.later (by simp))) ?_) | (refine X_pure Try.func61 (HCM.out _ _ _ (HC8.out.later (by simp)) (HT8.out.later (by simp))) ?_) | (refine X_pure Try.func61 sameT_nil ?_) | (refine X_pure Try.func61 (sameT_nt (HC8.out.later (by simp))) ?_) | (refine X_pure Try.func61 (sameT_tn (HC8.out.later (by simp))) ?_) | (refine X_gf2 ?_) | refine X_pure Try.func45 (num8_calls _ _) ?_ | refine X_gpure Try.func45 (fun _ => num8_calls _ _) ?_ | refine X_pure Try.func41 (works8_calls) ?_ | refine X_gpure Try.func41 (fun _ => works8_calls) ?_ | refine X_gt ?_ | refine X_q ?_ | refine X_g ?_ | refine X_gf ?_ | refine X_niln ?_ | refine X_nil ?_ | (refine X_var (fun yn bn hn1 hn2 hn3 hn4 hn5 => ?_)) | refine W_seqk (fun K hK => ?_) | refine W_seqr ?_ | refine W_ret ?_ | refine W_skip ?_ | refine W_block ?_ | refine W_exit ?_ | (refine X_s (fun x K hK => ?_); go_simp; refine hK _ _ (Ext.alloc _ _) ?_; clear hK K; refine X_al x ?_; generalize (World.later _ x).heap.size = bn; intro yn hn1 hn2 hn3 hn4 hn5; clear x) | refine W_tt ?_ | refine W_ff ?_ | refine W_test (fun hc => ?_) (fun hc => ?_) | go_step)
          exact Body_ret hd ⟨rfl, Ext.trans HE8.out (by simp)⟩
        · obtain rfl : sb = true := by rw [← hsb, hnl2]; simp
          clear hnl2 hsb
          repeat' (first | (refine X_pure Try.func56 (is8_calls (HT8.out.later (by simp)) hok2 (by omega) (HU8.out.later (by simp))) ?_) | (refine X_pure Try.func56 (is8_calls (HC8.out.later (by simp)) (hlog m) (by omega) (HL8.out.later (by simp))) ?_) | (refine X_pure Try.func61 (sameT_calls (HT8.out.later (by simp)) (HC8.out.later (by simp))) ?_) | (refine X_pure Try.func61 (HCM.out _ _ _ (HC8.out.later (by simp)) (HT8.out.later (by simp))) ?_) | (refine X_pure Try.func61 sameT_nil ?_) | (refine X_pure Try.func61 (sameT_nt (HC8.out.later (by simp))) ?_) | (refine X_pure Try.func61 (sameT_tn (HC8.out.later (by simp))) ?_) | (refine X_gf2 ?_) | refine X_pure Try.func45 (num8_calls _ _) ?_ | refine X_gpure Try.func45 (fun _ => num8_calls _ _) ?_ | refine X_pure Try.func41 (works8_calls) ?_ | refine X_gpure Try.func41 (fun _ => works8_calls) ?_ | refine X_gt ?_ | refine X_q ?_ | refine X_g ?_ | refine X_gf ?_ | refine X_niln ?_ | refine X_nil ?_ | (refine X_var (fun yn bn hn1 hn2 hn3 hn4 hn5 => ?_)) | refine W_seqk (fun K hK => ?_) | refine W_seqr ?_ | refine W_ret ?_ | refine W_skip ?_ | refine W_block ?_ | refine W_exit ?_ | (refine X_s (fun x K hK => ?_); go_simp; refine hK _ _ (Ext.alloc _ _) ?_; clear hK K; refine X_al x ?_; generalize (World.later _ x).heap.size = bn; intro yn hn1 hn2 hn3 hn4 hn5; clear x) | refine W_tt ?_ | refine W_ff ?_ | refine W_test (fun hc => ?_) (fun hc => ?_) | go_step)
          exact Body_ret hd ⟨rfl, Ext.trans HE8.out (by simp)⟩
  · have hli : (60 : Int) < (l.length : Int) := by omega
    refine Fn_of Try.func18 rfl (Nat.le_of_ble_eq_true rfl) ?_; intro A hd hA; simp only [ix, Nat.reduceAdd]; replace hA : A.tmps.size = 144 := hA
    repeat' (first | refine X_pure Try.func41 (works8_calls) ?_ | refine X_gpure Try.func41 (fun _ => works8_calls) ?_ | refine X_gt ?_ | refine X_q ?_ | refine X_g ?_ | refine X_gf ?_ | refine X_niln ?_ | refine X_nil ?_ | (refine X_var (fun yn bn hn1 hn2 hn3 hn4 hn5 => ?_)) | refine W_seqk (fun K hK => ?_) | refine W_seqr ?_ | refine W_ret ?_ | refine W_skip ?_ | refine W_block ?_ | refine W_exit ?_ | (refine X_s (fun x K hK => ?_); go_simp; refine hK _ _ (Ext.alloc _ _) ?_; clear hK K; refine X_al x ?_; generalize (World.later _ x).heap.size = bn; intro yn hn1 hn2 hn3 hn4 hn5; clear x) | refine W_tt ?_ | refine W_ff ?_ | refine W_test (fun hc => ?_) (fun hc => ?_) | go_step)
    exact Body_ret hd ⟨rfl, by simp⟩
end Go.Ws
