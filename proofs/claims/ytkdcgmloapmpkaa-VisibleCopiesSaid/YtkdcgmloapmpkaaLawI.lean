import Derived.Test.YtkdcgmloapmpkaaLawG
import Derived.Test.YtkdcgmloapmpkaaVisJ
namespace Go.Ws
open Go Go.RowKit Go.Proofs
set_option maxHeartbeats 2000000
set_option maxRecDepth 100000
set_option linter.unusedVariables false
set_option linter.unusedSimpArgs false
set_option pp.deepTerms true
set_option pp.maxSteps 100000000

/-- How far To comes, and what it tells. -/
def toAt (L : List Ent) (m : Nat) (n : Int) : Nat := if toNo L m n = 0 then n.toNat else m
def toTold (L : List Ent) (m : Nat) (n : Int) : List Int := if toNo L m n = 0 then toMore L (viewL (L.take m)) n else []
theorem toNo_zero {L : List Ent} {m : Nat} {n : Int} (h : toNo L m n = 0) : ∃ N : Nat, n = N ∧ m ≤ N ∧ N ≤ L.length := by
  unfold toNo at h
  by_cases h1 : n < 0 ∨ (L.length : Int) < n
  · rw [if_pos h1] at h; cases h
  · rw [if_neg h1] at h
    by_cases h2 : n < m
    · rw [if_pos h2] at h; cases h
    · exact ⟨n.toNat, by omega, by omega, by omega⟩
theorem refto_uni (L : List Ent) (u v : Value) (m : Nat) (n : Int) (w : World) (hg : goodP L = true) (hm : m ≤ L.length) (hl : RdE w u L) (ht : RdI w v (viewL (L.take m))) (hln : L.length ≤ 1000) :
    Ret Try.prog 35 #[.agg #[u, .int .i64 m, v], .int .i64 n] w fun v' w' => Ext w w' ∧ ∃ t q, v' = .tuple #[.agg #[u, .int .i64 (toAt L m n), t], q, .int .i64 (toNo L m n)] ∧ RdI w' t (viewL (L.take (toAt L m n))) ∧ RdI w' q (toTold L m n) ∧
      (t = v ∨ ∀ b, t.ownBlock = some b → w.heap.size ≤ b) ∧ ∀ b, q.ownBlock = some b → w.heap.size ≤ b := by
  have hvl : (viewL (L.take m)).length ≤ 1000 := by have := viewL_len (L.take m); simp at this; omega
  refine (refto_calls L (viewL (L.take m)) u v m n w hl ht hln hvl).mono fun v' w' hR => ?_
  obtain ⟨hE, h1, h2⟩ := hR
  refine ⟨hE, ?_⟩
  unfold toAt toTold
  by_cases h0 : toNo L m n = 0
  · obtain ⟨N, rfl, hmN, hNl⟩ := toNo_zero h0
    obtain ⟨t, q, rfl, h3, h4, h5, h6⟩ := h2 h0
    obtain ⟨e1, e2, e3⟩ := more_same hg hmN
    rw [e3] at h3 h4
    rw [e2] at h3
    rw [if_pos h0, if_pos h0, h0]
    exact ⟨t, q, by simp, by simpa using h3, h4, .inr h5, h6⟩
  · rw [if_neg h0, if_neg h0]
    exact ⟨v, _, h1 h0, ht.later hE, Rd.nil _, .inl rfl, by intro b hb; cases hb⟩
theorem rto_uni {b : Nat} {w : World} {F : Nat → Prop} {L : List Ent} {m : Nat} (h : Rdr w b F L m (viewL (L.take m))) (hg : goodP L = true) (hm : m ≤ L.length) (n : Int) (hln : L.length ≤ 1000) :
    Ret Try.prog 32 #[.pointer (some ⟨b, 0, none⟩), .int .i64 n] w fun v w' => ∃ q, v = .tuple #[q, .int .i64 (toNo L m n)] ∧ Mod F w w' ∧ Rdr w' b (fun k => F k ∨ w.heap.size ≤ k) L (toAt L m n) (viewL (L.take (toAt L m n))) ∧ RdI w' q (toTold L m n) ∧ ∀ k, q.ownBlock = some k → w.heap.size ≤ k := by
  have hvl : (viewL (L.take m)).length ≤ 1000 := by have := viewL_len (L.take m); simp at this; omega
  refine (rto_calls h n (by omega) (by omega) (fun h0 => by
    obtain ⟨N, rfl, hmN, hNl⟩ := toNo_zero h0
    simpa using (more_same hg hmN).1)).mono fun v' w' hR => ?_
  unfold toAt toTold
  by_cases h0 : toNo L m n = 0
  · obtain ⟨N, rfl, hmN, hNl⟩ := toNo_zero h0
    obtain ⟨q, rfl, hM, G, hG, hR2, hq, hfq⟩ := hR.2 h0
    rw [(more_same hg hmN).2.1] at hR2
    rw [if_pos h0, if_pos h0, h0]
    exact ⟨q, rfl, hM, by simpa using hR2.mono hG, hq.rd (enc := ics) (k := 1) (fun _ => rfl), fun k hk => (hfq k hk).1⟩
  · obtain ⟨rfl, hE⟩ := hR.1 h0
    rw [if_neg h0, if_neg h0]
    exact ⟨_, rfl, Mod.mono hE (fun _ _ h => h.elim), (h.later hE).mono (fun k hk => .inl hk), Rd.nil _, by intro k hk; cases hk⟩
theorem toAt_le {L : List Ent} {m : Nat} {n : Int} (hm : m ≤ L.length) : toAt L m n ≤ L.length := by
  unfold toAt
  split
  · rename_i h; obtain ⟨N, rfl, _, h2⟩ := toNo_zero h; simpa using h2
  · exact hm
theorem Twin.push' {w W W1 W2 W3 : World} {rb b : Nat} {G : Nat → Prop} {L : List Ent} {m : Nat} {u v u' : Value} {e : Ent} (h : Twin w W rb b G L m u v) (hw : w.heap.size ≤ W.heap.size) (hE1 : Ext W W1) (hu : RdE W1 u' (pushLog L e)) (hf : u' = u ∨ ∀ k, u'.ownBlock = some k → W.heap.size ≤ k)
    (hM1 : Mod (· = b) W1 W2) (hB : Blk W2 b 48 3 (fun k => if k = 0 then u' else if k = 1 then .int .i64 m else v)) (hM : Mod G W2 W3) (hR : Rdr W3 rb (fun k => G k ∨ W2.heap.size ≤ k) (pushLog L e) m (viewL (L.take m))) :
    Twin w W3 rb b (fun k => (G k ∨ W2.heap.size ≤ k) ∧ k < W3.heap.size) (pushLog L e) m u' v := by
  have hs1 := hE1.size
  have hs2 := hM1.size
  have hs3 := hM.size
  have hb := h.blk.lt
  have huG : ∀ k, u'.ownBlock = some k → ¬ G k := fun k hk hG => by
    rcases hf with rfl | hf
    · exact (h.g k hG).2.2.2.1 hk
    · have := hf k hk; have := (h.g k hG).2.1; omega
  have hub : u'.ownBlock ≠ some b := fun hk => by
    rcases hf with rfl | hf
    · exact h.ub hk
    · have := hf b hk; omega
  have hvl := h.tv.own_lt
  have hul := hu.own_lt
  have htk : (pushLog L e).take m = L.take m := pushLog_take e h.le
  refine ⟨h.nb, ?_, ?_, hB.mod hM (fun hG => (h.g b hG).2.2.1 rfl), ?_, ?_, hub, h.vb, pushLog_good h.good e, Nat.le_trans h.le (pushLog_len L e).1⟩
  · rw [htk]; exact hR.here
  · rintro k ⟨hk, hk3⟩
    refine ⟨?_, hk3, ?_, fun hu2 => ?_, fun hv2 => ?_⟩
    · rcases hk with hk | hk
      · exact (h.g k hk).1
      · omega
    · rcases hk with hk | hk
      · exact (h.g k hk).2.2.1
      · omega
    · rcases hk with hk | hk
      · exact huG k hu2 hk
      · have := hul k hu2; omega
    · rcases hk with hk | hk
      · exact (h.g k hk).2.2.2.2 hv2
      · have := hvl k hv2; omega
  · exact (hu.mod hM1 (fun k hk e => hub (e ▸ hk))).mod hM huG
  · rw [htk]
    exact ((h.tv.later hE1).mod hM1 (fun k hk e => h.vb (e ▸ hk))).mod hM (fun k hk hG => (h.g k hG).2.2.2.2 hk)
theorem Twin.to' {w W W5 W6 W7 : World} {rb b : Nat} {G : Nat → Prop} {L : List Ent} {m n : Nat} {u v t : Value} (h : Twin w W rb b G L m u v) (hw : w.heap.size ≤ W.heap.size) (hn : n ≤ L.length) (hE5 : Ext W W5) (ht : RdI W5 t (viewL (L.take n))) (hf : t = v ∨ ∀ k, t.ownBlock = some k → W.heap.size ≤ k)
    (hM6 : Mod (· = b) W5 W6) (hB : Blk W6 b 48 3 (fun k => if k = 0 then u else if k = 1 then .int .i64 n else t)) (hM7 : Mod G W6 W7) (hR : Rdr W7 rb (fun k => G k ∨ W6.heap.size ≤ k) L n (viewL (L.take n))) :
    Twin w W7 rb b (fun k => (G k ∨ W6.heap.size ≤ k) ∧ k < W7.heap.size) L n u t := by
  have hs5 := hE5.size
  have hs6 := hM6.size
  have hs7 := hM7.size
  have hb := h.blk.lt
  have htG : ∀ k, t.ownBlock = some k → ¬ G k := fun k hk hG => by
    rcases hf with rfl | hf
    · exact (h.g k hG).2.2.2.2 hk
    · have := hf k hk; have := (h.g k hG).2.1; omega
  have htb : t.ownBlock ≠ some b := fun hk => by
    rcases hf with rfl | hf
    · exact h.vb hk
    · have := hf b hk; omega
  have htl := ht.own_lt
  have hul := h.lu.own_lt
  refine ⟨h.nb, hR.here, ?_, hB.mod hM7 (fun hG => (h.g b hG).2.2.1 rfl), ?_, ?_, h.ub, htb, h.good, hn⟩
  · rintro k ⟨hk, hk7⟩
    rcases hk with h1 | h1
    · have := h.g k h1
      exact ⟨this.1, hk7, this.2.2.1, this.2.2.2.1, fun hk2 => htG k hk2 h1⟩
    · exact ⟨by omega, hk7, by omega, fun hk2 => by have := hul k hk2; omega, fun hk2 => by have := htl k hk2; omega⟩
  · exact ((h.lu.later hE5).mod hM6 (fun k hk e => h.ub (e ▸ hk))).mod hM7 (fun k hk hG => (h.g k hG).2.2.2.1 hk)
  · exact (ht.mod hM6 (fun k hk e => htb (e ▸ hk))).mod hM7 htG
theorem Twin.fork {w W W2 W3 : World} {rb b b2 : Nat} {G : Nat → Prop} {L : List Ent} {m : Nat} {u v u' : Value} {e : Ent} (h : Twin w W rb b G L m u v) (hw : w.heap.size ≤ W.heap.size) (hE2 : Ext W W2) (hb2 : W.heap.size ≤ b2) (hu : RdE W2 u' (pushLog L e)) (hf : u' = u ∨ ∀ k, u'.ownBlock = some k → W.heap.size ≤ k) (hub : u'.ownBlock ≠ some b2)
    (hB : Blk W2 b2 48 3 (fun k => if k = 0 then u' else if k = 1 then .int .i64 m else v)) (hM : Mod G W2 W3) (hR : Rdr W3 rb (fun k => G k ∨ W2.heap.size ≤ k) (pushLog L e) m (viewL (L.take m))) :
    Twin w W3 rb b2 (fun k => (G k ∨ W2.heap.size ≤ k) ∧ k < W3.heap.size) (pushLog L e) m u' v := by
  have hs2 := hE2.size
  have hs3 := hM.size
  have huG : ∀ k, u'.ownBlock = some k → ¬ G k := fun k hk hG => by
    rcases hf with rfl | hf
    · exact (h.g k hG).2.2.2.1 hk
    · have := hf k hk; have := (h.g k hG).2.1; omega
  have hvl := h.tv.own_lt
  have hul := hu.own_lt
  have hbl := hB.lt
  have htk : (pushLog L e).take m = L.take m := pushLog_take e h.le
  refine ⟨by omega, ?_, ?_, hB.mod hM (fun hG => by have := (h.g b2 hG).2.1; omega), hu.mod hM huG, ?_, hub, fun hk => by have := hvl b2 hk; omega, pushLog_good h.good e, Nat.le_trans h.le (pushLog_len L e).1⟩
  · rw [htk]; exact hR.here
  · rintro k ⟨hk, hk3⟩
    refine ⟨?_, hk3, ?_, fun hu2 => ?_, fun hv2 => ?_⟩
    · rcases hk with hk | hk
      · exact (h.g k hk).1
      · omega
    · rcases hk with hk | hk
      · have := (h.g k hk).2.1; omega
      · omega
    · rcases hk with hk | hk
      · exact huG k hu2 hk
      · have := hul k hu2; omega
    · rcases hk with hk | hk
      · exact (h.g k hk).2.2.2.2 hv2
      · have := hvl k hv2; omega
  · rw [htk]
    exact (h.tv.later hE2).mod hM (fun k hk hG => (h.g k hG).2.2.2.2 hk)
theorem copies_calls (l : List Ent) (v : Value) (n : Int) (e : Ent) (k : Int) (w : World) (hl : RdE w v l) : Pure Try.prog 9 #[v, .int .i64 n, e.v, .int .i64 k] w (.bool true) := by
  have hl0 := Lib.hid hl
  obtain ⟨A0, c, rfl, hc, hcm, HL⟩ := hl.ent
  clear hl
  by_cases hlen : l.length ≤ 60
  · have hli : ¬ (60 : Int) < (l.length : Int) := by omega
    refine Fn_of Try.func9 rfl (Nat.le_of_ble_eq_true rfl) ?_; intro A hd hA; simp only [ix, Nat.reduceAdd]; replace hA : A.tmps.size = 142 := hA
    repeat' (first | refine X_gt ?_ | refine X_q ?_ | refine X_g ?_ | refine X_gf ?_ | refine X_niln ?_ | refine X_nil ?_ | (refine X_var (fun yn bn hn1 hn2 hn3 hn4 hn5 => ?_)) | refine W_seqk (fun K hK => ?_) | refine W_seqr ?_ | refine W_ret ?_ | refine W_skip ?_ | refine W_block ?_ | refine W_exit ?_ | (refine X_s (fun x K hK => ?_); go_simp; refine hK _ _ (Ext.alloc _ _) ?_; clear hK K; refine X_al x ?_; generalize (World.later _ x).heap.size = bn; intro yn hn1 hn2 hn3 hn4 hn5; clear x) | refine W_tt ?_ | refine W_ff ?_ | refine W_test (fun hc => ?_) (fun hc => ?_) | go_step)
    rename Nat => be
    have hEw : Ext w (w.later yn) := yn.2
    have hl1 := Lib.hid (hl0.out.later hEw)
    obtain ⟨w1, hw1⟩ : ∃ w1, w1 = w.later yn := ⟨_, rfl⟩
    rw [← hw1] at hn2 hn3 hn4 hn5 hl1 hEw ⊢
    obtain ⟨_, _, hvv, -, -, HL1⟩ := hl1.out.ent
    cases hvv
    have E2 := hn2
    have E3 := hn3
    clear hw1 yn HL hn1 hn2 hn3 hn4 hn5
    refine X_ret Try.func30 rnew_calls (fun v2 w2 hR => ?_)
    obtain ⟨rb, rfl, hE2, hR⟩ := hR
    have HR := Lib.hid hR.here
    clear hR
    obtain ⟨y2, hy2⟩ := hE2.get
    subst hy2
    repeat' (first | refine X_gt ?_ | refine X_q ?_ | refine X_g ?_ | refine X_gf ?_ | refine X_niln ?_ | refine X_nil ?_ | (refine X_var (fun yn bn hn1 hn2 hn3 hn4 hn5 => ?_)) | refine W_seqk (fun K hK => ?_) | refine W_seqr ?_ | refine W_ret ?_ | refine W_skip ?_ | refine W_block ?_ | refine W_exit ?_ | (refine X_s (fun x K hK => ?_); go_simp; refine hK _ _ (Ext.alloc _ _) ?_; clear hK K; refine X_al x ?_; generalize (World.later _ x).heap.size = bn; intro yn hn1 hn2 hn3 hn4 hn5; clear x) | refine W_tt ?_ | refine W_ff ?_ | refine W_test (fun hc => ?_) (fun hc => ?_) | go_step)
    rename Nat => b6
    have hs1 := hE2.size
    have hs2 : (w1.later y2).heap.size ≤ ((w1.later y2).later yn).heap.size := yn.2.size
    have hT0 : Twin w1 ((w1.later y2).later yn) rb b6 _ [] 0 (.slice none 0 0) (.slice none 0 0) := Twin.new (HR.out.later yn.2) (fun k hk => ⟨hk.1, by omega, by omega⟩) (by omega) ((Blk.new hn5.out).congr (fun k hk => by
      obtain rfl | rfl | rfl : k = 0 ∨ k = 1 ∨ k = 2 := by simp at hk; omega
      all_goals rfl))
    have hE0 : Ext w1 ((w1.later y2).later yn) := Ext.trans hE2 yn.2
    obtain ⟨y0, hy0⟩ := hE0.get
    rw [hy0] at hT0
    refine W_loops [0, 1, 3, 6, 9, 10, 11] (fun n9 vs w' => ∃ (j : Nat) (y : Later w1) (G : Nat → Prop) (L : List Ent) (u v : Value), w' = w1.later y ∧ n9 + j = l.length ∧ vs = [.slice A0 l.length c, .int .i64 n, .int .i64 k, .pointer (some ⟨be, 0, none⟩), .pointer (some ⟨rb, 0, none⟩), .pointer (some ⟨b6, 0, none⟩), .int .i64 j] ∧ Twin w1 (w1.later y) rb b6 G L 0 u v ∧ L.length ≤ j) l.length hd hA (by decide) ⟨0, y0, _, [], _, _, hy0, by omega, by simp, hT0, by simp⟩ ?_
    clear HR hE2 hn1 hn2 hn3 hn4 hn5 hT0 hE0 hy0 hs1 hs2 yn y2 y0
    clear hd hA A; intro n9 vs B w' hd hA _ ⟨j, y, G, L, u, v, hw, hj, hvs, hT, hL⟩; subst hw hvs
    simp only [List.zip_cons_cons, List.zip_nil_right, List.zip_nil_left]
    obtain ⟨Au, nu, cu, rfl⟩ := slice_of hT.lu
    obtain ⟨Av, nv, cv, rfl⟩ := slice_of hT.tv
    have HT := Lib.hid hT
    have hLl := Lib.hid hL
    clear hT hL
    obtain ⟨hb6, c60, c61, c62⟩ := HT.out.want.cells
    by_cases hlt : j < l.length
    · obtain ⟨x, bx, ox, hx, hA0, hbx, r0, r1, r2, r3, r4, r5⟩ := HL1.out j hlt
      subst hA0
      have hji : (j : Int) < l.length := by omega
      have hw1y : w1.heap.size ≤ (w1.later y).heap.size := y.2.size
      repeat' (first | refine X_gt ?_ | refine X_q ?_ | refine X_g ?_ | refine X_gf ?_ | refine X_niln ?_ | refine X_nil ?_ | (refine X_var (fun yn bn hn1 hn2 hn3 hn4 hn5 => ?_)) | refine W_seqk (fun K hK => ?_) | refine W_seqr ?_ | refine W_ret ?_ | refine W_skip ?_ | refine W_block ?_ | refine W_exit ?_ | (refine X_s (fun x K hK => ?_); go_simp; refine hK _ _ (Ext.alloc _ _) ?_; clear hK K; refine X_al x ?_; generalize (World.later _ x).heap.size = bn; intro yn hn1 hn2 hn3 hn4 hn5; clear x) | refine W_tt ?_ | refine W_ff ?_ | refine W_test (fun hc => ?_) (fun hc => ?_) | go_step)
      refine W_draw (by kernel_rfl) (by kernel_rfl) ?_
      repeat' (first | refine X_d (fun vb hvb => ?_) | refine X_dg (fun vb hvb => ?_) | refine X_q ?_ | refine X_g ?_ | refine X_gf ?_ | refine X_niln ?_ | refine X_nil ?_ | (refine X_var (fun yn bn hn1 hn2 hn3 hn4 hn5 => ?_)) | refine W_seqk (fun K hK => ?_) | refine W_seqr ?_ | refine W_ret ?_ | refine W_skip ?_ | refine W_block ?_ | refine W_exit ?_ | (refine X_s (fun x K hK => ?_); go_simp; refine hK _ _ (Ext.alloc _ _) ?_; clear hK K; refine X_al x ?_; generalize (World.later _ x).heap.size = bn; intro yn hn1 hn2 hn3 hn4 hn5; clear x) | refine W_tt ?_ | refine W_ff ?_ | refine W_test (fun hc => ?_) (fun hc => ?_) | go_step)
      refine X_ret Try.func34 (refpush_calls L _ _ _ 0 x _ HT.out.lu HT.out.tv) (fun v' w2 hR => ?_)
      obtain ⟨hE2, u', rfl, hu, hfu⟩ := hR
      rw [refLog_push (goodP_ok HT.out.good)] at hu
      obtain ⟨Aw, nw, cw, rfl⟩ := slice_of hu
      have HU := Lib.hid hu
      have HFU := Lib.hid hfu
      clear hu hfu c60 c61 c62
      repeat' (first | refine X_d (fun vb hvb => ?_) | refine X_dg (fun vb hvb => ?_) | refine X_q ?_ | refine X_g ?_ | refine X_gf ?_ | refine X_niln ?_ | refine X_nil ?_ | (refine X_var (fun yn bn hn1 hn2 hn3 hn4 hn5 => ?_)) | refine W_seqk (fun K hK => ?_) | refine W_seqr ?_ | refine W_ret ?_ | refine W_skip ?_ | refine W_block ?_ | refine W_exit ?_ | (refine X_s (fun x K hK => ?_); go_simp; refine hK _ _ (Ext.alloc _ _) ?_; clear hK K; refine X_al x ?_; generalize (World.later _ x).heap.size = bn; intro yn hn1 hn2 hn3 hn4 hn5; clear x) | refine W_tt ?_ | refine W_ff ?_ | refine W_test (fun hc => ?_) (fun hc => ?_) | go_step)
      refine X_store (off := 0) (v := .agg #[.slice Aw nw cw, .int .i64 0, .slice Av nv cv]) (HT.out.blk.later hE2) (fun w3 hM3 hB3 => ?_)
      have hE3 : Ext w1 w3 := Ext.fresh (Ext.trans y.2 hE2) hM3 (by rintro _ rfl; exact HT.out.nb)
      have HR3 := Lib.hid ((HT.out.rd.later hE2).mod hM3 (fun k hk e => (HT.out.g k hk).2.2.1 e))
      have HB3 := Lib.hid hB3
      have HM3 := Lib.hid hM3
      clear hM3 hB3
      obtain ⟨y3, hy3⟩ := hE3.get
      subst hy3
      repeat' (first | refine X_gt ?_ | refine X_q ?_ | refine X_g ?_ | refine X_gf ?_ | refine X_niln ?_ | refine X_nil ?_ | (refine X_var (fun yn bn hn1 hn2 hn3 hn4 hn5 => ?_)) | refine W_seqk (fun K hK => ?_) | refine W_seqr ?_ | refine W_ret ?_ | refine W_skip ?_ | refine W_block ?_ | refine W_exit ?_ | (refine X_s (fun x K hK => ?_); go_simp; refine hK _ _ (Ext.alloc _ _) ?_; clear hK K; refine X_al x ?_; generalize (World.later _ x).heap.size = bn; intro yn hn1 hn2 hn3 hn4 hn5; clear x) | refine W_tt ?_ | refine W_ff ?_ | refine W_test (fun hc => ?_) (fun hc => ?_) | go_step)
      refine X_ret Try.func31 (rpush_calls HR3.out x) (fun v' w4 hR => ?_)
      obtain ⟨rfl, hM4, hR4⟩ := hR
      have hT4 := HT.out.push' hw1y hE2 HU.out HFU.out HM3.out (HB3.out.congr (fun k hk => by
        obtain rfl | rfl | rfl : k = 0 ∨ k = 1 ∨ k = 2 := by omega
        all_goals rfl)) hM4 hR4
      have hE4 : Ext w1 w4 := Ext.fresh y3.2 hM4 (fun k h => (HT.out.g k h).1)
      obtain ⟨y4, hy4⟩ := hE4.get
      subst hy4
      repeat' (first | refine X_gt ?_ | refine X_q ?_ | refine X_g ?_ | refine X_gf ?_ | refine X_niln ?_ | refine X_nil ?_ | (refine X_var (fun yn bn hn1 hn2 hn3 hn4 hn5 => ?_)) | refine W_seqk (fun K hK => ?_) | refine W_seqr ?_ | refine W_ret ?_ | refine W_skip ?_ | refine W_block ?_ | refine W_exit ?_ | (refine X_s (fun x K hK => ?_); go_simp; refine hK _ _ (Ext.alloc _ _) ?_; clear hK K; refine X_al x ?_; generalize (World.later _ x).heap.size = bn; intro yn hn1 hn2 hn3 hn4 hn5; clear x) | refine W_tt ?_ | refine W_ff ?_ | refine W_test (fun hc => ?_) (fun hc => ?_) | go_step)
      exact ⟨_, _, rfl, hd, hA, n9 - 1, by omega, j + 1, y4, _, _, _, _, rfl, by omega, by simp, hT4, by have := (pushLog_len L x).2; have := hLl.out; omega⟩
    · have hji : ¬ (j : Int) < l.length := by omega
      have hL60 : L.length ≤ 60 := by have := hLl.out; omega
      have hnu := HT.out.lu.length
      subst hnu
      have hw1y : w1.heap.size ≤ (w1.later y).heap.size := y.2.size
      clear HL1
      repeat' (first | refine X_gt ?_ | refine X_q ?_ | refine X_g ?_ | refine X_gf ?_ | refine X_niln ?_ | refine X_nil ?_ | (refine X_var (fun yn bn hn1 hn2 hn3 hn4 hn5 => ?_)) | refine W_seqk (fun K hK => ?_) | refine W_seqr ?_ | refine W_ret ?_ | refine W_skip ?_ | refine W_block ?_ | refine W_exit ?_ | (refine X_s (fun x K hK => ?_); go_simp; refine hK _ _ (Ext.alloc _ _) ?_; clear hK K; refine X_al x ?_; generalize (World.later _ x).heap.size = bn; intro yn hn1 hn2 hn3 hn4 hn5; clear x) | refine W_tt ?_ | refine W_ff ?_ | refine W_test (fun hc => ?_) (fun hc => ?_) | go_step)
      refine X_ret Try.func35 (refto_uni L _ _ 0 n _ HT.out.good HT.out.le HT.out.lu HT.out.tv (by omega)) (fun v' w2 hR => ?_)
      obtain ⟨hE2, t, q, rfl, ht, hq, hft, hfq⟩ := hR
      obtain ⟨At, nt, ct, rfl⟩ := slice_of ht
      clear hq hfq c60 c61 c62
      repeat' (first | refine X_gt ?_ | refine X_q ?_ | refine X_g ?_ | refine X_gf ?_ | refine X_niln ?_ | refine X_nil ?_ | (refine X_var (fun yn bn hn1 hn2 hn3 hn4 hn5 => ?_)) | refine W_seqk (fun K hK => ?_) | refine W_seqr ?_ | refine W_ret ?_ | refine W_skip ?_ | refine W_block ?_ | refine W_exit ?_ | (refine X_s (fun x K hK => ?_); go_simp; refine hK _ _ (Ext.alloc _ _) ?_; clear hK K; refine X_al x ?_; generalize (World.later _ x).heap.size = bn; intro yn hn1 hn2 hn3 hn4 hn5; clear x) | refine W_tt ?_ | refine W_ff ?_ | refine W_test (fun hc => ?_) (fun hc => ?_) | go_step)
      refine X_store (off := 0) (v := .agg #[.slice Au L.length cu, .int .i64 (toAt L 0 n), .slice At nt ct]) (HT.out.blk.later hE2) (fun w3 hM3 hB3 => ?_)
      have hR3 := (HT.out.rd.later hE2).mod hM3 (fun k hk e => (HT.out.g k hk).2.2.1 e)
      have HM3 := Lib.hid hM3
      have HB3 := Lib.hid hB3
      have HTT := Lib.hid ht
      have HFT := Lib.hid hft
      clear hM3 hB3 ht hft
      repeat' (first | refine X_gt ?_ | refine X_q ?_ | refine X_g ?_ | refine X_gf ?_ | refine X_niln ?_ | refine X_nil ?_ | (refine X_var (fun yn bn hn1 hn2 hn3 hn4 hn5 => ?_)) | refine W_seqk (fun K hK => ?_) | refine W_seqr ?_ | refine W_ret ?_ | refine W_skip ?_ | refine W_block ?_ | refine W_exit ?_ | (refine X_s (fun x K hK => ?_); go_simp; refine hK _ _ (Ext.alloc _ _) ?_; clear hK K; refine X_al x ?_; generalize (World.later _ x).heap.size = bn; intro yn hn1 hn2 hn3 hn4 hn5; clear x) | refine W_tt ?_ | refine W_ff ?_ | refine W_test (fun hc => ?_) (fun hc => ?_) | go_step)
      refine X_ret Try.func32 (rto_uni hR3 HT.out.good HT.out.le n (by omega)) (fun v' w4 hR => ?_)
      obtain ⟨q9, rfl, hM4, hR4, -, -⟩ := hR
      have hT4 := HT.out.to' hw1y (toAt_le HT.out.le) hE2 HTT.out HFT.out HM3.out (HB3.out.congr (fun k hk => by
        obtain rfl | rfl | rfl : k = 0 ∨ k = 1 ∨ k = 2 := by omega
        all_goals rfl)) hM4 hR4
      have hE4 : Ext w1 w4 := Ext.fresh (Ext.fresh (Ext.trans y.2 hE2) HM3.out (by rintro _ rfl; exact HT.out.nb)) hM4 (fun k h => (HT.out.g k h).1)
      generalize toAt L 0 n = m1 at *
      have HT4 := Lib.hid hT4
      clear hR3 hR4 hM4 HM3 HB3 HTT HFT hT4 HT hE2
      obtain ⟨y4, hy4⟩ := hE4.get
      subst hy4
      repeat' (first | refine X_gt ?_ | refine X_q ?_ | refine X_g ?_ | refine X_gf ?_ | refine X_niln ?_ | refine X_nil ?_ | (refine X_var (fun yn bn hn1 hn2 hn3 hn4 hn5 => ?_)) | refine W_seqk (fun K hK => ?_) | refine W_seqr ?_ | refine W_ret ?_ | refine W_skip ?_ | refine W_block ?_ | refine W_exit ?_ | (refine X_s (fun x K hK => ?_); go_simp; refine hK _ _ (Ext.alloc _ _) ?_; clear hK K; refine X_al x ?_; generalize (World.later _ x).heap.size = bn; intro yn hn1 hn2 hn3 hn4 hn5; clear x) | refine W_tt ?_ | refine W_ff ?_ | refine W_test (fun hc => ?_) (fun hc => ?_) | go_step)
      refine X_ret Try.func40 (rcopy_calls HT4.out.rd (by have := HT4.out.vlen; omega)) (fun v' w5 hR => ?_)
      obtain ⟨rc, rfl, hE5, hRc⟩ := hR
      have HRC := Lib.hid hRc.here
      have HT5 := Lib.hid (HT4.out.later hE5)
      obtain ⟨hb6', c60, c61, c62⟩ := HT5.out.want.cells
      have hE5w := Ext.trans y4.2 hE5
      clear hRc
      obtain ⟨y5, hy5⟩ := hE5w.get
      subst hy5
      have hp5 : (w1.later y4).heap.size ≤ (w1.later y5).heap.size := hE5.size
      have hp1 : w1.heap.size ≤ (w1.later y4).heap.size := y4.2.size
      repeat' (first | refine X_gt ?_ | refine X_q ?_ | refine X_g ?_ | refine X_gf ?_ | refine X_niln ?_ | refine X_nil ?_ | (refine X_var (fun yn bn hn1 hn2 hn3 hn4 hn5 => ?_)) | refine W_seqk (fun K hK => ?_) | refine W_seqr ?_ | refine W_ret ?_ | refine W_skip ?_ | refine W_block ?_ | refine W_exit ?_ | (refine X_s (fun x K hK => ?_); go_simp; refine hK _ _ (Ext.alloc _ _) ?_; clear hK K; refine X_al x ?_; generalize (World.later _ x).heap.size = bn; intro yn hn1 hn2 hn3 hn4 hn5; clear x) | refine W_tt ?_ | refine W_ff ?_ | refine W_test (fun hc => ?_) (fun hc => ?_) | go_step)
      refine X_ret Try.func34 (refpush_calls L _ _ _ m1 e _ HT5.out.lu HT5.out.tv) (fun v' w6 hR => ?_)
      obtain ⟨hE6, u2, rfl, hu2, hfu2⟩ := hR
      rw [refLog_push (goodP_ok HT5.out.good)] at hu2
      rw [refNo_push (goodP_ok HT5.out.good)]
      obtain ⟨Aw, nw, cw, rfl⟩ := slice_of hu2
      have hE6w := Ext.trans y5.2 hE6
      have HU2 := Lib.hid hu2
      have HFU2 := Lib.hid hfu2
      clear hu2 hfu2 c60 c61 c62
      obtain ⟨y6, hy6⟩ := hE6w.get
      subst hy6
      repeat' (first | refine X_gt ?_ | refine X_q ?_ | refine X_g ?_ | refine X_gf ?_ | refine X_niln ?_ | refine X_nil ?_ | (refine X_var (fun yn bn hn1 hn2 hn3 hn4 hn5 => ?_)) | refine W_seqk (fun K hK => ?_) | refine W_seqr ?_ | refine W_ret ?_ | refine W_skip ?_ | refine W_block ?_ | refine W_exit ?_ | (refine X_s (fun x K hK => ?_); go_simp; refine hK _ _ (Ext.alloc _ _) ?_; clear hK K; refine X_al x ?_; generalize (World.later _ x).heap.size = bn; intro yn hn1 hn2 hn3 hn4 hn5; clear x) | refine W_tt ?_ | refine W_ff ?_ | refine W_test (fun hc => ?_) (fun hc => ?_) | go_step)
      rename Nat => b13
      have hs6 := hE6.size
      have hEn : Ext (w1.later y5) ((w1.later y6).later yn) := Ext.trans hE6 yn.2
      have hsn := hEn.size
      have hB13 : Blk ((w1.later y6).later yn) b13 48 3 (fun k => if k = 0 then .slice Aw nw cw else if k = 1 then .int .i64 m1 else .slice At nt ct) := (Blk.new hn5.out).congr (fun k hk => by
        obtain rfl | rfl | rfl : k = 0 ∨ k = 1 ∨ k = 2 := by simp at hk; omega
        all_goals rfl)
      refine X_ret Try.func31 (rpush_calls (HT5.out.rd.later hEn) e) (fun v' w7 hR => ?_)
      obtain ⟨rfl, hM7, hR7⟩ := hR
      have hT7 := HT5.out.fork (Nat.le_trans hp1 hp5) hEn (by omega) (HU2.out.later yn.2) HFU2.out (fun h => by have := HU2.out.own_lt _ h; omega) hB13 hM7 hR7
      have hW7 := ((HT5.out.want).mod hEn (fun h => h) (fun _ _ h => h) (fun _ _ h => h)).mod hM7 (fun h => (HT5.out.g _ h).2.2.1 rfl) (fun k hk hG => (HT5.out.g k hG).2.2.2.1 hk) (fun k hk hG => (HT5.out.g k hG).2.2.2.2 hk)
      have hC7 := (HRC.out.later hEn).mod hM7 (fun k hk hG => by have := (HT4.out.g k hG).2.1; have := hk.1; omega)
      have hE7 : Ext w1 w7 := Ext.fresh (Ext.trans y5.2 hEn) hM7 (fun k h => (HT5.out.g k h).1)
      have hs7 := hM7.size
      have HT7 := Lib.hid hT7
      have HW7 := Lib.hid hW7
      have HC7 := Lib.hid hC7
      have hb6p : b6 < (w1.later y4).heap.size := HT4.out.blk.lt
      have hup := Lib.hid HT4.out.lu.own_lt
      have htp := Lib.hid HT4.out.tv.own_lt
      have HN7 : Hid (¬ ((_ ∨ ((w1.later y6).later yn).heap.size ≤ b6) ∧ b6 < w7.heap.size) ∧ (∀ k, Value.ownBlock (.slice Au L.length cu) = some k → ¬ ((_ ∨ ((w1.later y6).later yn).heap.size ≤ k) ∧ k < w7.heap.size)) ∧ (∀ k, Value.ownBlock (.slice At nt ct) = some k → ¬ ((_ ∨ ((w1.later y6).later yn).heap.size ≤ k) ∧ k < w7.heap.size)) ∧ ∀ k, ((w1.later y4).heap.size ≤ k ∧ k < (w1.later y5).heap.size) → ¬ ((_ ∨ ((w1.later y6).later yn).heap.size ≤ k) ∧ k < w7.heap.size)) := Lib.hid
        ⟨fun h => h.1.elim (fun h => (HT5.out.g _ h).2.2.1 rfl) (fun h => by omega), fun k hk h => h.1.elim (fun h => (HT5.out.g k h).2.2.2.1 hk) (fun h => by have := hup.out k hk; omega), fun k hk h => h.1.elim (fun h => (HT5.out.g k h).2.2.2.2 hk) (fun h => by have := htp.out k hk; omega), fun k hk h => h.1.elim (fun h => by have := (HT4.out.g k h).2.1; omega) (fun h => by omega)⟩
      have hb135 : (w1.later y5).heap.size ≤ b13 := by omega
      have HU25 : Hid (∀ k, Value.ownBlock (.slice Aw nw cw) = some k → k < (w1.later y4).heap.size ∨ (w1.later y5).heap.size ≤ k) := Lib.hid (fun k hk => by
        rcases HFU2.out with h | h
        · rw [h] at hk; exact .inl (hup.out k hk)
        · exact .inr (h k hk))
      clear hM7 hR7 hT7 hW7 hC7 hB13 HU2 HFU2 hn1 hn2 hn3 hn4 hn5
      generalize hPL : pushLog L e = L2 at *
      have hL2 : L2.length ≤ 61 := by have := (pushLog_len L e).2; rw [hPL] at this; omega
      obtain ⟨hb13, d0, d1, d2⟩ := HT7.out.want.cells
      obtain ⟨y7, hy7⟩ := hE7.get
      subst hy7
      repeat' (first | refine X_gt ?_ | refine X_q ?_ | refine X_g ?_ | refine X_gf ?_ | refine X_niln ?_ | refine X_nil ?_ | (refine X_var (fun yn bn hn1 hn2 hn3 hn4 hn5 => ?_)) | refine W_seqk (fun K hK => ?_) | refine W_seqr ?_ | refine W_ret ?_ | refine W_skip ?_ | refine W_block ?_ | refine W_exit ?_ | (refine X_s (fun x K hK => ?_); go_simp; refine hK _ _ (Ext.alloc _ _) ?_; clear hK K; refine X_al x ?_; generalize (World.later _ x).heap.size = bn; intro yn hn1 hn2 hn3 hn4 hn5; clear x) | refine W_tt ?_ | refine W_ff ?_ | refine W_test (fun hc => ?_) (fun hc => ?_) | go_step)
      refine X_ret Try.func35 (refto_uni L2 _ _ m1 k _ HT7.out.good HT7.out.le HT7.out.lu HT7.out.tv (by omega)) (fun v' w8 hR => ?_)
      obtain ⟨hE8, t2, q2, rfl, ht2, hq2, hft2, hfq2⟩ := hR
      obtain ⟨A2, n2, c2, rfl⟩ := slice_of ht2
      have hs8 := hE8.size
      clear d0 d1 d2
      repeat' (first | refine X_gt ?_ | refine X_q ?_ | refine X_g ?_ | refine X_gf ?_ | refine X_niln ?_ | refine X_nil ?_ | (refine X_var (fun yn bn hn1 hn2 hn3 hn4 hn5 => ?_)) | refine W_seqk (fun K hK => ?_) | refine W_seqr ?_ | refine W_ret ?_ | refine W_skip ?_ | refine W_block ?_ | refine W_exit ?_ | (refine X_s (fun x K hK => ?_); go_simp; refine hK _ _ (Ext.alloc _ _) ?_; clear hK K; refine X_al x ?_; generalize (World.later _ x).heap.size = bn; intro yn hn1 hn2 hn3 hn4 hn5; clear x) | refine W_tt ?_ | refine W_ff ?_ | refine W_test (fun hc => ?_) (fun hc => ?_) | go_step)
      refine X_store (off := 0) (v := .agg #[.slice Aw nw cw, .int .i64 (toAt L2 m1 k), .slice A2 n2 c2]) (HT7.out.blk.later hE8) (fun w9 hM9 hB9 => ?_)
      have hR9 := (HT7.out.rd.later hE8).mod hM9 (fun k hk e => (HT7.out.g k hk).2.2.1 e)
      have HM9 := Lib.hid hM9
      have HB9 := Lib.hid hB9
      have HT2 := Lib.hid ht2
      have HQ2 := Lib.hid hq2
      have HFT2 := Lib.hid hft2
      have HFQ2 := Lib.hid hfq2
      clear hM9 hB9 ht2 hq2 hft2 hfq2
      repeat' (first | refine X_gt ?_ | refine X_q ?_ | refine X_g ?_ | refine X_gf ?_ | refine X_niln ?_ | refine X_nil ?_ | (refine X_var (fun yn bn hn1 hn2 hn3 hn4 hn5 => ?_)) | refine W_seqk (fun K hK => ?_) | refine W_seqr ?_ | refine W_ret ?_ | refine W_skip ?_ | refine W_block ?_ | refine W_exit ?_ | (refine X_s (fun x K hK => ?_); go_simp; refine hK _ _ (Ext.alloc _ _) ?_; clear hK K; refine X_al x ?_; generalize (World.later _ x).heap.size = bn; intro yn hn1 hn2 hn3 hn4 hn5; clear x) | refine W_tt ?_ | refine W_ff ?_ | refine W_test (fun hc => ?_) (fun hc => ?_) | go_step)
      refine X_ret Try.func32 (rto_uni hR9 HT7.out.good HT7.out.le k (by omega)) (fun v' w10 hR => ?_)
      obtain ⟨q3, rfl, hM10, hR10, hq3, hfq3⟩ := hR
      have hs9 := HM9.out.size
      have hs10 := hM10.size
      have hT10 := HT7.out.to' (by omega) (toAt_le HT7.out.le) hE8 HT2.out HFT2.out HM9.out (HB9.out.congr (fun k hk => by
        obtain rfl | rfl | rfl : k = 0 ∨ k = 1 ∨ k = 2 := by omega
        all_goals rfl)) hM10 hR10
      obtain ⟨n7a, n7b, n7c, n7d⟩ := HN7.out
      have hW10 := ((HW7.out.mod hE8 (fun h => h) (fun _ _ h => h) (fun _ _ h => h)).mod HM9.out (by omega) (fun k hk e => by have := hup.out k hk; omega) (fun k hk e => by have := htp.out k hk; omega)).mod hM10 n7a n7b n7c
      have hC10 := ((HC7.out.later hE8).mod HM9.out (fun k hk e => by have := hk.2; omega)).mod hM10 n7d
      have hQ10 := (HQ2.out.mod HM9.out (fun k hk e => by have := HFQ2.out k hk; omega)).mod hM10 (fun k hk hG => by have := HFQ2.out k hk; have := (HT7.out.g k hG).2.1; omega)
      obtain ⟨hb60, c60, c61, c62⟩ := hW10.cells
      repeat' (first | refine X_gt ?_ | refine X_q ?_ | refine X_g ?_ | refine X_gf ?_ | refine X_niln ?_ | refine X_nil ?_ | (refine X_var (fun yn bn hn1 hn2 hn3 hn4 hn5 => ?_)) | refine W_seqk (fun K hK => ?_) | refine W_seqr ?_ | refine W_ret ?_ | refine W_skip ?_ | refine W_block ?_ | refine W_exit ?_ | (refine X_s (fun x K hK => ?_); go_simp; refine hK _ _ (Ext.alloc _ _) ?_; clear hK K; refine X_al x ?_; generalize (World.later _ x).heap.size = bn; intro yn hn1 hn2 hn3 hn4 hn5; clear x) | refine W_tt ?_ | refine W_ff ?_ | refine W_test (fun hc => ?_) (fun hc => ?_) | go_step)
      refine X_ret Try.func35 (refto_uni L _ _ m1 L.length _ HT5.out.good HT5.out.le hW10.lu hW10.tv (by omega)) (fun v' w11 hR => ?_)
      obtain ⟨hE11, t3, q4, rfl, ht3, hq4, hft3, hfq4⟩ := hR
      obtain ⟨A3, n3, c3, rfl⟩ := slice_of ht3
      have hs11 := hE11.size
      clear c60 c61 c62
      have hW11 := hW10.mod hE11 (fun h => h) (fun _ _ h => h) (fun _ _ h => h)
      obtain ⟨hb60', c60, c61, c62⟩ := hW11.cells
      repeat' (first | refine X_gt ?_ | refine X_q ?_ | refine X_g ?_ | refine X_gf ?_ | refine X_niln ?_ | refine X_nil ?_ | (refine X_var (fun yn bn hn1 hn2 hn3 hn4 hn5 => ?_)) | refine W_seqk (fun K hK => ?_) | refine W_seqr ?_ | refine W_ret ?_ | refine W_skip ?_ | refine W_block ?_ | refine W_exit ?_ | (refine X_s (fun x K hK => ?_); go_simp; refine hK _ _ (Ext.alloc _ _) ?_; clear hK K; refine X_al x ?_; generalize (World.later _ x).heap.size = bn; intro yn hn1 hn2 hn3 hn4 hn5; clear x) | refine W_tt ?_ | refine W_ff ?_ | refine W_test (fun hc => ?_) (fun hc => ?_) | go_step)
      rename Nat => b20
      have hE12 : Ext w10 (w11.later yn) := Ext.trans hE11 yn.2
      have hs12 : w11.heap.size ≤ (w11.later yn).heap.size := yn.2.size
      have hW12 := hW11.mod yn.2 (fun h => h) (fun _ _ h => h) (fun _ _ h => h)
      obtain ⟨hb60'', e60, e61, e62⟩ := hW12.cells
      have hB20 : Blk (w11.later yn) b20 48 3 (fun k => if k = 0 then .slice Au L.length cu else if k = 1 then .int .i64 (toAt L m1 L.length) else .slice A3 n3 c3) := (Blk.new hn5.out).congr (fun k hk => by
        obtain rfl | rfl | rfl : k = 0 ∨ k = 1 ∨ k = 2 := by simp at hk; omega
        all_goals rfl)
      repeat' (first | refine X_gt ?_ | refine X_q ?_ | refine X_g ?_ | refine X_gf ?_ | refine X_niln ?_ | refine X_nil ?_ | (refine X_var (fun yn bn hn1 hn2 hn3 hn4 hn5 => ?_)) | refine W_seqk (fun K hK => ?_) | refine W_seqr ?_ | refine W_ret ?_ | refine W_skip ?_ | refine W_block ?_ | refine W_exit ?_ | (refine X_s (fun x K hK => ?_); go_simp; refine hK _ _ (Ext.alloc _ _) ?_; clear hK K; refine X_al x ?_; generalize (World.later _ x).heap.size = bn; intro yn hn1 hn2 hn3 hn4 hn5; clear x) | refine W_tt ?_ | refine W_ff ?_ | refine W_test (fun hc => ?_) (fun hc => ?_) | go_step)
      refine X_ret Try.func32 (rto_uni (hC10.later hE12) HT5.out.good HT5.out.le L.length (by omega)) (fun v' w13 hR => ?_)
      obtain ⟨q5, rfl, hM13, hR13, hq5, hfq5⟩ := hR
      have hs13 := hM13.size
      have hT13 := (hT10.later hE12).mod hM13 (fun k hk hG => hk.1.elim (fun h => n7d k hG h) (fun h => by have := hG.2; omega)) (fun h => by have := h.2; omega) (fun k hk h => by have := HU25.out k hk; have := h.1; have := h.2; omega) (fun k hk h => by
        have h1 := h.1
        have h2 := h.2
        rcases HFT2.out with h3 | h3
        · rw [h3] at hk; have := htp.out k hk; omega
        · have := h3 k hk; omega)
      have hu13 := hW12.lu.mod hM13 (fun k hk h => by have := hup.out k hk; have := h.1; omega)
      have ht13 := (ht3.later yn.2).mod hM13 (fun k hk h => by
        have h1 := h.1
        have h2 := h.2
        rcases hft3 with h3 | h3
        · rw [h3] at hk; have := htp.out k hk; omega
        · have := h3 k hk; omega)
      have hb13' := hB20.mod hM13 (fun h => by have := h.2; omega)
      have f0 : w13.cell? ⟨b20, 0, none⟩ = some (.slice Au L.length cu) := (hb13'.cell (k := 0) (by omega)).trans rfl
      have f1 : w13.cell? ⟨b20, 1, none⟩ = some (.int .i64 (toAt L m1 L.length)) := (hb13'.cell (k := 1) (by omega)).trans rfl
      have f2 : w13.cell? ⟨b20, 2, none⟩ = some (.slice A3 n3 c3) := (hb13'.cell (k := 2) (by omega)).trans rfl
      have f3 := hb13'.lt
      obtain ⟨g3, g0, g1, g2⟩ := hT13.want.cells
      have hQ2 := Lib.hid ((hQ10.later hE12).mod hM13 (fun k hk h => by have := HFQ2.out k hk; have := h.2; omega))
      have hQ3 := Lib.hid ((hq3.later hE12).mod hM13 (fun k hk h => by have := hfq3 k hk; have := h.2; omega))
      have hQ4 := Lib.hid ((hq4.later yn.2).mod hM13 (fun k hk h => by have := hfq4 k hk; have := h.2; omega))
      have hQ5 := Lib.hid hq5
      have HT13 := Lib.hid hT13
      have HR13 := Lib.hid hR13
      have HU13 := Lib.hid hu13
      have HT3 := Lib.hid ht13
      have hv1 := hT13.vlen
      have hv2 : (viewL (L.take (toAt L m1 L.length))).length ≤ 1000000 := by have := viewL_len (L.take (toAt L m1 L.length)); simp at this; omega
      have hEF : Ext w w13 := by
        have h1 : Ext w1 w9 := Ext.fresh (Ext.trans y7.2 hE8) HM9.out (by rintro _ rfl; omega)
        have h2 : Ext w1 w10 := Ext.fresh h1 hM10 (fun k h => (HT7.out.g k h).1)
        exact Ext.trans hEw (Ext.fresh (Ext.trans h2 hE12) hM13 (fun k h => by have := h.1; omega))
      clear hT13 hR13 hu13 ht13 hb13' hB20 hq5 hq4 hq3 hQ10 hC10 hW10 hW11 hW12 hT10 hM13 hM10 hR10 hR9
      repeat' (first | refine X_pure Try.func24 (num9_calls _ _) ?_ | refine X_gpure Try.func24 (fun _ => num9_calls _ _) ?_ | (refine X_pure Try.func25 (same9_calls (toTold L2 m1 k) (toTold L2 m1 k) q2 q3 _ hQ2.out hQ3.out) ?_) | (refine X_pure Try.func25 (same9_calls (toTold L m1 L.length) (toTold L m1 L.length) q4 q5 _ hQ4.out hQ5.out) ?_) | (refine X_pure Try.func36 (is9_calls HT13.out.rd HT13.out.lu HT13.out.tv (by omega)) ?_) | (refine X_pure Try.func36 (is9_calls HR13.out HU13.out HT3.out (by omega)) ?_) | refine X_pure Try.func19 (works_calls) ?_ | refine X_gpure Try.func19 (fun _ => works_calls) ?_ | refine X_gt ?_ | refine X_q ?_ | refine X_g ?_ | refine X_gf ?_ | refine X_niln ?_ | refine X_nil ?_ | (refine X_var (fun yn bn hn1 hn2 hn3 hn4 hn5 => ?_)) | refine W_seqk (fun K hK => ?_) | refine W_seqr ?_ | refine W_ret ?_ | refine W_skip ?_ | refine W_block ?_ | refine W_exit ?_ | (refine X_s (fun x K hK => ?_); go_simp; refine hK _ _ (Ext.alloc _ _) ?_; clear hK K; refine X_al x ?_; generalize (World.later _ x).heap.size = bn; intro yn hn1 hn2 hn3 hn4 hn5; clear x) | refine W_tt ?_ | refine W_ff ?_ | refine W_test (fun hc => ?_) (fun hc => ?_) | go_step)
      exact Body_ret hd ⟨rfl, hEF⟩
  · have hli : (60 : Int) < l.length := by omega
    refine Fn_of Try.func9 rfl (Nat.le_of_ble_eq_true rfl) ?_; intro A hd hA; simp only [ix, Nat.reduceAdd]; replace hA : A.tmps.size = 142 := hA
    repeat' (first | refine X_pure Try.func19 (works_calls) ?_ | refine X_gpure Try.func19 (fun _ => works_calls) ?_ | refine X_gt ?_ | refine X_q ?_ | refine X_g ?_ | refine X_gf ?_ | refine X_niln ?_ | refine X_nil ?_ | (refine X_var (fun yn bn hn1 hn2 hn3 hn4 hn5 => ?_)) | refine W_seqk (fun K hK => ?_) | refine W_seqr ?_ | refine W_ret ?_ | refine W_skip ?_ | refine W_block ?_ | refine W_exit ?_ | (refine X_s (fun x K hK => ?_); go_simp; refine hK _ _ (Ext.alloc _ _) ?_; clear hK K; refine X_al x ?_; generalize (World.later _ x).heap.size = bn; intro yn hn1 hn2 hn3 hn4 hn5; clear x) | refine W_tt ?_ | refine W_ff ?_ | refine W_test (fun hc => ?_) (fun hc => ?_) | go_step)
    exact Body_ret hd ⟨rfl, by simp⟩
end Go.Ws
