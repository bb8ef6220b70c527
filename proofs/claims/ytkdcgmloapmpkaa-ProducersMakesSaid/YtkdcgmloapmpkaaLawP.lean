import Derived.Test.YtkdcgmloapmpkaaLawN
namespace Go.Ws
open Go Go.RowKit Go.Proofs
set_option maxHeartbeats 2000000
set_option maxRecDepth 100000
set_option linter.unusedVariables false
set_option linter.unusedSimpArgs false
set_option pp.deepTerms true
set_option pp.maxSteps 100000000

/-- A table, and what is its log for the document. -/
structure TP (w W : World) (bt : Nat) (u : Value) (F : Nat → Prop) (log : List Ent) : Prop where
  tab : Tab W bt F log
  hi : ∀ k, F k → w.heap.size ≤ k ∧ k < W.heap.size
  ext : Ext w W
  rd : RdE W u log
  apart : ∀ j, u.ownBlock = some j → ¬ F j
  ok : ofNo log = 0
theorem TP.later {w W W' : World} {bt : Nat} {u : Value} {F : Nat → Prop} {log : List Ent} (h : TP w W bt u F log) (hE : Ext W W') : TP w W' bt u F log :=
  ⟨h.tab.later hE, fun k hk => ⟨(h.hi k hk).1, Nat.lt_of_lt_of_le (h.hi k hk).2 hE.size⟩, Ext.trans h.ext hE, h.rd.later hE, h.apart, h.ok⟩
theorem TP.start {w W : World} {bt : Nat} (hE : Ext w W) (h : Tab W bt (fun k => w.heap.size ≤ k) []) : TP w W bt (.slice none 0 0) (fun k => w.heap.size ≤ k ∧ k < W.heap.size) [] :=
  ⟨h.here, fun _ h => h, hE, Rd.nil _, (fun j hj => by cases hj), rfl⟩
/-- The document's Append, then the table's. -/
theorem TP.step {w W W1 W2 : World} {bt : Nat} {u u' : Value} {F : Nat → Prop} {log log' : List Ent} (h : TP w W bt u F log) (hE : Ext W W1) (hr : RdE W1 u' log') (hu : u' = u ∨ ∀ b, u'.ownBlock = some b → W.heap.size ≤ b)
    (hM2 : Mod F W1 W2) (hT : Tab W2 bt (fun k => F k ∨ W1.heap.size ≤ k) log') (hok : ofNo log' = 0) :
    TP w W2 bt u' (fun k => (F k ∨ W1.heap.size ≤ k) ∧ k < W2.heap.size) log' := by
  have hs := h.ext.size
  have hs1 := hE.size
  have ha : ∀ j, u'.ownBlock = some j → ¬ F j ∧ j < W1.heap.size := by
    intro j hj
    have hlt := hr.own_lt j hj
    rcases hu with h1 | h1
    · exact ⟨h.apart j (h1 ▸ hj), hlt⟩
    · exact ⟨fun hf => by have := (h.hi _ hf).2; have := h1 j hj; omega, hlt⟩
  refine ⟨hT.here, fun k hk => ⟨?_, hk.2⟩, Ext.fresh (Ext.trans h.ext hE) hM2 (fun j hj => (h.hi j hj).1), hr.mod hM2 (fun j hj hf => (ha j hj).1 hf), fun j hj hf => ?_, hok⟩
  · rcases hk.1 with h1 | h1
    · exact (h.hi k h1).1
    · omega
  · have := (ha j hj).2
    rcases hf.1 with h1 | h1
    · exact (ha j hj).1 h1
    · omega
/-- A truncation of both. -/
theorem TP.cut {w W W1 : World} {bt : Nat} {A : Option Addr} {n c : Nat} {F : Nat → Prop} {log : List Ent} (h : TP w W bt (.slice A n c) F log) (m : Nat) (hm : m ≤ log.length) (hM : Mod F W W1) (hT : Tab W1 bt (fun k => F k ∨ W.heap.size ≤ k) (log.take m)) :
    TP w W1 bt (.slice A m c) (fun k => (F k ∨ W.heap.size ≤ k) ∧ k < W1.heap.size) (log.take m) := by
  have hs := h.ext.size
  have hr := h.rd.take m hm
  have ha : ∀ j, (Value.slice A m c).ownBlock = some j → ¬ F j ∧ j < W.heap.size := fun j hj => by
    refine ⟨?_, hr.own_lt j hj⟩
    refine h.apart j ?_
    cases A <;> exact hj
  refine ⟨hT.here, fun k hk => ⟨?_, hk.2⟩, Ext.fresh h.ext hM (fun j hj => (h.hi j hj).1), hr.mod hM (fun j hj hf => (ha j hj).1 hf), fun j hj hf => ?_, ofNo_take h.ok m⟩
  · rcases hk.1 with h1 | h1
    · exact (h.hi k h1).1
    · omega
  · have := (ha j hj).2
    rcases hf.1 with h1 | h1
    · exact (ha j hj).1 h1
    · omega
theorem TP.u_slice {w W : World} {bt : Nat} {u : Value} {F : Nat → Prop} {log : List Ent} (h : TP w W bt u F log) : ∃ A c, u = .slice A log.length c := by
  obtain ⟨A, c, h, -⟩ := h.rd.ent; exact ⟨_, _, h⟩
theorem plays8_calls (l : List Ent) (v : Value) (ls : List Int) (v1 : Value) (w : World) (hl : RdE w v l) (hls : RdI w v1 ls) : Pure Try.prog 16 #[v, v1] w (.bool true) := by
  have hl0 := Lib.hid hl
  have hls0 := Lib.hid hls
  obtain ⟨A0, c, rfl, hc, hcm, HR⟩ := hl.ent
  obtain ⟨A1, c1, rfl, hc1, hcm1, HR1⟩ := hls.int
  clear hl hls
  by_cases hlen : l.length ≤ 60
  · have hli : ¬ (60 : Int) < (l.length : Int) := by omega
    refine Fn_of Try.func16 rfl (Nat.le_of_ble_eq_true rfl) ?_; intro A hd hA; simp only [ix, Nat.reduceAdd]; replace hA : A.tmps.size = 98 := hA
    repeat' (first | refine X_gt ?_ | refine X_q ?_ | refine X_g ?_ | refine X_gf ?_ | refine X_niln ?_ | refine X_nil ?_ | (refine X_var (fun yn bn hn1 hn2 hn3 hn4 hn5 => ?_)) | refine W_seqk (fun K hK => ?_) | refine W_seqr ?_ | refine W_ret ?_ | refine W_skip ?_ | refine W_block ?_ | refine W_exit ?_ | (refine X_s (fun x K hK => ?_); go_simp; refine hK _ _ (Ext.alloc _ _) ?_; clear hK K; refine X_al x ?_; generalize (World.later _ x).heap.size = bn; intro yn hn1 hn2 hn3 hn4 hn5; clear x) | refine W_tt ?_ | refine W_ff ?_ | refine W_test (fun hc => ?_) (fun hc => ?_) | go_step)
    refine X_ret Try.func48 (tabNew_calls _) (fun v' w1 hR => ?_)
    obtain ⟨bt, rfl, hE1, hT⟩ := hR
    have HTP := Lib.hid (TP.start hE1 hT)
    clear hE1 hT
    repeat' (first | refine X_gt ?_ | refine X_q ?_ | refine X_g ?_ | refine X_gf ?_ | refine X_niln ?_ | refine X_nil ?_ | (refine X_var (fun yn bn hn1 hn2 hn3 hn4 hn5 => ?_)) | refine W_seqk (fun K hK => ?_) | refine W_seqr ?_ | refine W_ret ?_ | refine W_skip ?_ | refine W_block ?_ | refine W_exit ?_ | (refine X_s (fun x K hK => ?_); go_simp; refine hK _ _ (Ext.alloc _ _) ?_; clear hK K; refine X_al x ?_; generalize (World.later _ x).heap.size = bn; intro yn hn1 hn2 hn3 hn4 hn5; clear x) | refine W_tt ?_ | refine W_ff ?_ | refine W_test (fun hc => ?_) (fun hc => ?_) | go_step)
    refine W_loops [0, 1, 5, 6, 7] (fun n vs W => ∃ (k : Nat) (u : Value) (log : List Ent) (F : Nat → Prop), k + n = l.length ∧ vs = [.slice A0 l.length c, .slice A1 ls.length c1, .pointer (some ⟨bt, 0, none⟩), u, .int .i64 k] ∧ TP w W bt u F log ∧ log.length ≤ k) l.length hd hA (by decide) ⟨0, _, [], _, by omega, by simp, HTP.out, by simp⟩ ?_
    clear hd hA A HTP; intro n vs B W hd hA _ ⟨k, u, log, F, hk, hvs, hT, hlk⟩; subst hvs
    simp only [List.zip_cons_cons, List.zip_nil_right, List.zip_nil_left]
    obtain ⟨A9, c9, rfl⟩ := hT.u_slice
    have hE := hT.ext
    have HT := Lib.hid hT
    clear hT
    by_cases hlt : k < l.length
    · obtain ⟨e, b, o, HE, rfl, hat⟩ := hl0.out.entAt hlt
      have HAT := Lib.hid hat
      obtain ⟨hbW, c0, c1', c2, c3, c4, c5⟩ := hat.later hE
      clear hE hat
      have hki : (k : Int) < l.length := by omega
      refine W_seqk (fun K hK => ?_)
      repeat' (first | refine X_gt ?_ | refine X_q ?_ | refine X_g ?_ | refine X_gf ?_ | refine X_niln ?_ | refine X_nil ?_ | (refine X_var (fun yn bn hn1 hn2 hn3 hn4 hn5 => ?_)) | refine W_seqk (fun K hK => ?_) | refine W_seqr ?_ | refine W_ret ?_ | refine W_skip ?_ | refine W_block ?_ | refine W_exit ?_ | (refine X_s (fun x K hK => ?_); go_simp; refine hK _ _ (Ext.alloc _ _) ?_; clear hK K; refine X_al x ?_; generalize (World.later _ x).heap.size = bn; intro yn hn1 hn2 hn3 hn4 hn5; clear x) | refine W_tt ?_ | refine W_ff ?_ | refine W_test (fun hc => ?_) (fun hc => ?_) | go_step)
      refine X_ret Try.func55 (append_callsF log _ e _ (HT.out.rd.later (by simp))) (fun r W1 hR => ?_)
      obtain ⟨u', rfl, hE1, hU, hF1⟩ := hR
      have hU' : RdE W1 u' (takeOne log e) := hU
      have HU := Lib.hid hU'
      obtain ⟨A8, c8, rfl, -⟩ := hU'.ent
      have hEw : Ext w W1 := Ext.trans HT.out.ext hE1
      have HEE := Lib.hid hE1
      have HF1 := Lib.hid hF1
      clear hU hF1 c0 c1' c2 c3 c4 c5 hbW hE1
      obtain ⟨hbW, c0, c1', c2, c3, c4, c5⟩ := HAT.out.later hEw
      repeat' (first | refine X_gt ?_ | refine X_q ?_ | refine X_g ?_ | refine X_gf ?_ | refine X_niln ?_ | refine X_nil ?_ | (refine X_var (fun yn bn hn1 hn2 hn3 hn4 hn5 => ?_)) | refine W_seqk (fun K hK => ?_) | refine W_seqr ?_ | refine W_ret ?_ | refine W_skip ?_ | refine W_block ?_ | refine W_exit ?_ | (refine X_s (fun x K hK => ?_); go_simp; refine hK _ _ (Ext.alloc _ _) ?_; clear hK K; refine X_al x ?_; generalize (World.later _ x).heap.size = bn; intro yn hn1 hn2 hn3 hn4 hn5; clear x) | refine W_tt ?_ | refine W_ff ?_ | refine W_test (fun hc => ?_) (fun hc => ?_) | go_step)
      refine X_ret Try.func50 (tabAppend_calls (HT.out.tab.later HEE.out) e) (fun v' W2 hR => ?_)
      obtain ⟨rfl, hM2, hT2⟩ := hR
      have HT2 : Hid (TP w W2 bt (.slice A8 (takeOne log e).length c8) _ (takeOne log e)) := Lib.hid (HT.out.step HEE.out HU.out HF1.out hM2 hT2 (takeOne_ok HT.out.ok e))
      have hl2 : (takeOne log e).length ≤ k + 1 := by have := takeOne_len log e; omega
      have hE2 := HT2.out.ext
      clear hM2 hT2 HU HF1 HEE hEw c0 c1' c2 c3 c4 c5 hbW HT
      generalize (fun k => (F k ∨ W1.heap.size ≤ k) ∧ k < W2.heap.size) = F2 at *
      generalize takeOne log e = log2 at *
      generalize appendNo log e = no at *
      by_cases hk2 : k < ls.length
      · obtain ⟨x, b1, o1, HX, rfl, hb1, hx0⟩ := HR1.out k hk2
        rw [← cell?_mod hE2 hb1 (fun h => h)] at hx0
        have hb1W : b1 < W2.heap.size := Nat.lt_of_lt_of_le hb1 hE2.size
        have hk2i : (k : Int) < ls.length := by omega
        have hk2n : ¬ (ls.length : Int) ≤ k := by omega
        clear hE2
        repeat' (first | refine X_pure Try.func45 (num8_calls _ _) ?_ | refine X_gpure Try.func45 (fun _ => num8_calls _ _) ?_ | refine X_gt ?_ | refine X_q ?_ | refine X_g ?_ | refine X_gf ?_ | refine X_niln ?_ | refine X_nil ?_ | (refine X_var (fun yn bn hn1 hn2 hn3 hn4 hn5 => ?_)) | refine W_seqk (fun K hK => ?_) | refine W_seqr ?_ | refine W_ret ?_ | refine W_skip ?_ | refine W_block ?_ | refine W_exit ?_ | (refine X_s (fun x K hK => ?_); go_simp; refine hK _ _ (Ext.alloc _ _) ?_; clear hK K; refine X_al x ?_; generalize (World.later _ x).heap.size = bn; intro yn hn1 hn2 hn3 hn4 hn5; clear x) | refine W_tt ?_ | refine W_ff ?_ | refine W_test (fun hc => ?_) (fun hc => ?_) | go_step)
        refine X_ret Try.func54 (tabTrunc_calls (HT2.out.tab.later (by simp)) HT2.out.ok x) (fun v' W3 hR => ?_)
        by_cases hx : x < 0 ∨ (log2.length : Int) < x
        · rw [if_pos hx] at hR
          obtain ⟨rfl, hE3⟩ := hR
          have HT3 := Lib.hid (HT2.out.later (Ext.trans (by simp) hE3))
          have hx3 : W3.cell? ⟨b1, o1 + k, none⟩ = some (.int .i64 x) := by rw [cell?_mod hE3 (by simp [hb1W]) (fun h => h)]; simpa [hb1W] using hx0
          have hb3 : b1 < W3.heap.size := Nat.lt_of_lt_of_le (by simp [hb1W]) hE3.size
          clear hE3 hx0 hb1W HT2
          by_cases hx1 : x < 0
          · repeat' (first | refine X_gt ?_ | refine X_q ?_ | refine X_g ?_ | refine X_gf ?_ | refine X_niln ?_ | refine X_nil ?_ | (refine X_var (fun yn bn hn1 hn2 hn3 hn4 hn5 => ?_)) | refine W_seqk (fun K hK => ?_) | refine W_seqr ?_ | refine W_ret ?_ | refine W_skip ?_ | refine W_block ?_ | refine W_exit ?_ | (refine X_s (fun x K hK => ?_); go_simp; refine hK _ _ (Ext.alloc _ _) ?_; clear hK K; refine X_al x ?_; generalize (World.later _ x).heap.size = bn; intro yn hn1 hn2 hn3 hn4 hn5; clear x) | refine W_tt ?_ | refine W_ff ?_ | refine W_test (fun hc => ?_) (fun hc => ?_) | go_step)
            refine W_drawσ [(0, 0), (3, 0), (4, 0), (5, 0), (6, 0), (7, 0), (1, 1), (2, 0), (8, 0), (9, 0), (10, 0), (11, 0), (12, 0), (13, 0), (14, 0), (15, 0), (16, 0), (17, 0), (18, 0), (19, 0), (20, 1), (21, 0), (22, 0), (23, 0), (24, 1), (25, 0), (26, 0), (27, 0)] (by kernel_rfl) (by kernel_rfl) ?_
            simp only [List.map_cons, List.map_nil, List.getD_cons_zero, List.getD_cons_succ]
            repeat' (first | (refine X_pure1 Try.func45 (fun x => num8_calls _ _) ?_) | (refine X_gf2 ?_) | refine X_pure Try.func45 (num8_calls _ _) ?_ | refine X_gpure Try.func45 (fun _ => num8_calls _ _) ?_ | refine X_pure Try.func56 (is8_calls (HT3.out.tab.later (by simp)) HT3.out.ok (by omega) (HT3.out.rd.later (by simp))) ?_ | refine X_gpure Try.func56 (fun _ => is8_calls (HT3.out.tab.later (by simp)) HT3.out.ok (by omega) (HT3.out.rd.later (by simp))) ?_ | refine X_gt ?_ | refine X_q ?_ | refine X_g ?_ | refine X_gf ?_ | refine X_niln ?_ | refine X_nil ?_ | (refine X_var (fun yn bn hn1 hn2 hn3 hn4 hn5 => ?_)) | refine W_seqk (fun K hK => ?_) | refine W_seqr ?_ | refine W_ret ?_ | refine W_skip ?_ | refine W_block ?_ | refine W_exit ?_ | (refine X_s (fun x K hK => ?_); go_simp; refine hK _ _ (Ext.alloc _ _) ?_; clear hK K; refine X_al x ?_; generalize (World.later _ x).heap.size = bn; intro yn hn1 hn2 hn3 hn4 hn5; clear x) | refine W_tt ?_ | refine W_ff ?_ | refine W_test (fun hc => ?_) (fun hc => ?_) | go_step)
            exact ⟨_, _, rfl, hd, hA, n - 1, by omega, k + 1, .slice A8 log2.length c8, log2, F2, by omega, by simp, HT3.out.later (by simp), hl2⟩
          · have hx2 : (log2.length : Int) < x := by omega
            repeat' (first | refine X_gt ?_ | refine X_q ?_ | refine X_g ?_ | refine X_gf ?_ | refine X_niln ?_ | refine X_nil ?_ | (refine X_var (fun yn bn hn1 hn2 hn3 hn4 hn5 => ?_)) | refine W_seqk (fun K hK => ?_) | refine W_seqr ?_ | refine W_ret ?_ | refine W_skip ?_ | refine W_block ?_ | refine W_exit ?_ | (refine X_s (fun x K hK => ?_); go_simp; refine hK _ _ (Ext.alloc _ _) ?_; clear hK K; refine X_al x ?_; generalize (World.later _ x).heap.size = bn; intro yn hn1 hn2 hn3 hn4 hn5; clear x) | refine W_tt ?_ | refine W_ff ?_ | refine W_test (fun hc => ?_) (fun hc => ?_) | go_step)
            refine W_drawσ [(0, 0), (3, 0), (4, 0), (5, 0), (6, 0), (7, 0), (1, 1), (2, 0), (8, 0), (9, 0), (10, 0), (11, 0), (12, 0), (13, 0), (14, 0), (15, 0), (16, 0), (17, 0), (18, 0), (19, 0), (20, 1), (21, 0), (22, 0), (23, 0), (24, 1), (25, 0), (26, 0), (27, 0)] (by kernel_rfl) (by kernel_rfl) ?_
            simp only [List.map_cons, List.map_nil, List.getD_cons_zero, List.getD_cons_succ]
            repeat' (first | (refine X_pure1 Try.func45 (fun x => num8_calls _ _) ?_) | (refine X_gf2 ?_) | refine X_pure Try.func45 (num8_calls _ _) ?_ | refine X_gpure Try.func45 (fun _ => num8_calls _ _) ?_ | refine X_pure Try.func56 (is8_calls (HT3.out.tab.later (by simp)) HT3.out.ok (by omega) (HT3.out.rd.later (by simp))) ?_ | refine X_gpure Try.func56 (fun _ => is8_calls (HT3.out.tab.later (by simp)) HT3.out.ok (by omega) (HT3.out.rd.later (by simp))) ?_ | refine X_gt ?_ | refine X_q ?_ | refine X_g ?_ | refine X_gf ?_ | refine X_niln ?_ | refine X_nil ?_ | (refine X_var (fun yn bn hn1 hn2 hn3 hn4 hn5 => ?_)) | refine W_seqk (fun K hK => ?_) | refine W_seqr ?_ | refine W_ret ?_ | refine W_skip ?_ | refine W_block ?_ | refine W_exit ?_ | (refine X_s (fun x K hK => ?_); go_simp; refine hK _ _ (Ext.alloc _ _) ?_; clear hK K; refine X_al x ?_; generalize (World.later _ x).heap.size = bn; intro yn hn1 hn2 hn3 hn4 hn5; clear x) | refine W_tt ?_ | refine W_ff ?_ | refine W_test (fun hc => ?_) (fun hc => ?_) | go_step)
            exact ⟨_, _, rfl, hd, hA, n - 1, by omega, k + 1, .slice A8 log2.length c8, log2, F2, by omega, by simp, HT3.out.later (by simp), hl2⟩
        · rw [if_neg hx] at hR
          obtain ⟨rfl, hM3, hT3⟩ := hR
          obtain ⟨m, rfl⟩ : ∃ m : Nat, x = m := ⟨x.toNat, by omega⟩
          rw [Int.toNat_natCast] at hT3
          have hml : m ≤ log2.length := by omega
          have hx1 : ¬ (m : Int) < 0 := by omega
          have hx2 : ¬ (log2.length : Int) < m := by omega
          have HT3 : Hid (TP w W3 bt (.slice A8 m c8) _ (log2.take m)) := Lib.hid ((HT2.out.later (by simp)).cut m hml hM3 hT3)
          have hx3 : W3.cell? ⟨b1, o1 + k, none⟩ = some (.int .i64 m) := by
            have hE := HT3.out.ext
            rw [cell?_mod hE hb1 (fun h => h)]
            have hE2 := HT2.out.ext
            rw [← cell?_mod hE2 hb1 (fun h => h)]; exact hx0
          have hb3 : b1 < W3.heap.size := Nat.lt_of_lt_of_le hb1 HT3.out.ext.size
          have hcap : log2.length ≤ c8 := by obtain ⟨A', c', h, h2, -⟩ := HT2.out.rd.ent; cases h; exact h2
          have hmc : (m : Int) ≤ c8 := by omega
          have hlm : (log2.take m).length = m := by simp; omega
          clear hx0 hb1W hM3 hT3
          repeat' (first | refine X_gt ?_ | refine X_q ?_ | refine X_g ?_ | refine X_gf ?_ | refine X_niln ?_ | refine X_nil ?_ | (refine X_var (fun yn bn hn1 hn2 hn3 hn4 hn5 => ?_)) | refine W_seqk (fun K hK => ?_) | refine W_seqr ?_ | refine W_ret ?_ | refine W_skip ?_ | refine W_block ?_ | refine W_exit ?_ | (refine X_s (fun x K hK => ?_); go_simp; refine hK _ _ (Ext.alloc _ _) ?_; clear hK K; refine X_al x ?_; generalize (World.later _ x).heap.size = bn; intro yn hn1 hn2 hn3 hn4 hn5; clear x) | refine W_tt ?_ | refine W_ff ?_ | refine W_test (fun hc => ?_) (fun hc => ?_) | go_step)
          refine W_drawσ [(0, 0), (3, 0), (4, 0), (5, 0), (6, 0), (7, 0), (1, 1), (2, 0), (8, 0), (9, 0), (10, 0), (11, 0), (12, 0), (13, 0), (14, 0), (15, 0), (16, 0), (17, 0), (18, 0), (19, 0), (20, 1), (21, 0), (22, 0), (23, 0), (24, 1), (25, 0), (26, 0), (27, 0)] (by kernel_rfl) (by kernel_rfl) ?_
          simp only [List.map_cons, List.map_nil, List.getD_cons_zero, List.getD_cons_succ]
          repeat' (first | (refine X_pure1 Try.func45 (fun x => num8_calls _ _) ?_) | (refine X_gf2 ?_) | refine X_pure Try.func45 (num8_calls _ _) ?_ | refine X_gpure Try.func45 (fun _ => num8_calls _ _) ?_ | refine X_pure Try.func56 (is8_calls (HT3.out.tab.later (by simp)) HT3.out.ok (by omega) (HT3.out.rd.later (by simp))) ?_ | refine X_gpure Try.func56 (fun _ => is8_calls (HT3.out.tab.later (by simp)) HT3.out.ok (by omega) (HT3.out.rd.later (by simp))) ?_ | refine X_gt ?_ | refine X_q ?_ | refine X_g ?_ | refine X_gf ?_ | refine X_niln ?_ | refine X_nil ?_ | (refine X_var (fun yn bn hn1 hn2 hn3 hn4 hn5 => ?_)) | refine W_seqk (fun K hK => ?_) | refine W_seqr ?_ | refine W_ret ?_ | refine W_skip ?_ | refine W_block ?_ | refine W_exit ?_ | (refine X_s (fun x K hK => ?_); go_simp; refine hK _ _ (Ext.alloc _ _) ?_; clear hK K; refine X_al x ?_; generalize (World.later _ x).heap.size = bn; intro yn hn1 hn2 hn3 hn4 hn5; clear x) | refine W_tt ?_ | refine W_ff ?_ | refine W_test (fun hc => ?_) (fun hc => ?_) | go_step)
          exact ⟨_, _, rfl, hd, hA, n - 1, by omega, k + 1, .slice A8 m c8, log2.take m, _, by omega, by simp, HT3.out.later (by simp), by omega⟩
      · have hk2n : (ls.length : Int) ≤ k := by omega
        clear hE2
        repeat' (first | refine X_pure Try.func45 (num8_calls _ _) ?_ | refine X_gpure Try.func45 (fun _ => num8_calls _ _) ?_ | refine X_gt ?_ | refine X_q ?_ | refine X_g ?_ | refine X_gf ?_ | refine X_niln ?_ | refine X_nil ?_ | (refine X_var (fun yn bn hn1 hn2 hn3 hn4 hn5 => ?_)) | refine W_seqk (fun K hK => ?_) | refine W_seqr ?_ | refine W_ret ?_ | refine W_skip ?_ | refine W_block ?_ | refine W_exit ?_ | (refine X_s (fun x K hK => ?_); go_simp; refine hK _ _ (Ext.alloc _ _) ?_; clear hK K; refine X_al x ?_; generalize (World.later _ x).heap.size = bn; intro yn hn1 hn2 hn3 hn4 hn5; clear x) | refine W_tt ?_ | refine W_ff ?_ | refine W_test (fun hc => ?_) (fun hc => ?_) | go_step)
        exact ⟨_, _, rfl, hd, hA, n - 1, by omega, k + 1, .slice A8 log2.length c8, log2, F2, by omega, by simp, HT2.out.later (by simp), hl2⟩
    · obtain rfl : k = l.length := by omega
      clear hE
      repeat' (first | refine X_pure Try.func56 (is8_calls (HT.out.tab.later (by simp)) HT.out.ok (by omega) (HT.out.rd.later (by simp))) ?_ | refine X_gpure Try.func56 (fun _ => is8_calls (HT.out.tab.later (by simp)) HT.out.ok (by omega) (HT.out.rd.later (by simp))) ?_ | refine X_pure Try.func41 (works8_calls) ?_ | refine X_gpure Try.func41 (fun _ => works8_calls) ?_ | refine X_gt ?_ | refine X_q ?_ | refine X_g ?_ | refine X_gf ?_ | refine X_niln ?_ | refine X_nil ?_ | (refine X_var (fun yn bn hn1 hn2 hn3 hn4 hn5 => ?_)) | refine W_seqk (fun K hK => ?_) | refine W_seqr ?_ | refine W_ret ?_ | refine W_skip ?_ | refine W_block ?_ | refine W_exit ?_ | (refine X_s (fun x K hK => ?_); go_simp; refine hK _ _ (Ext.alloc _ _) ?_; clear hK K; refine X_al x ?_; generalize (World.later _ x).heap.size = bn; intro yn hn1 hn2 hn3 hn4 hn5; clear x) | refine W_tt ?_ | refine W_ff ?_ | refine W_test (fun hc => ?_) (fun hc => ?_) | go_step)
      exact Body_ret hd ⟨rfl, HT.out.ext⟩
  · have hli : (60 : Int) < (l.length : Int) := by omega
    refine Fn_of Try.func16 rfl (Nat.le_of_ble_eq_true rfl) ?_; intro A hd hA; simp only [ix, Nat.reduceAdd]; replace hA : A.tmps.size = 98 := hA
    repeat' (first | refine X_pure Try.func41 (works8_calls) ?_ | refine X_gpure Try.func41 (fun _ => works8_calls) ?_ | refine X_gt ?_ | refine X_q ?_ | refine X_g ?_ | refine X_gf ?_ | refine X_niln ?_ | refine X_nil ?_ | (refine X_var (fun yn bn hn1 hn2 hn3 hn4 hn5 => ?_)) | refine W_seqk (fun K hK => ?_) | refine W_seqr ?_ | refine W_ret ?_ | refine W_skip ?_ | refine W_block ?_ | refine W_exit ?_ | (refine X_s (fun x K hK => ?_); go_simp; refine hK _ _ (Ext.alloc _ _) ?_; clear hK K; refine X_al x ?_; generalize (World.later _ x).heap.size = bn; intro yn hn1 hn2 hn3 hn4 hn5; clear x) | refine W_tt ?_ | refine W_ff ?_ | refine W_test (fun hc => ?_) (fun hc => ?_) | go_step)
    exact Body_ret hd ⟨rfl, by simp⟩
end Go.Ws
