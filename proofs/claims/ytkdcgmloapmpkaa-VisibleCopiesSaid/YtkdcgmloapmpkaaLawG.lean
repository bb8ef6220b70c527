import Derived.Test.YtkdcgmloapmpkaaLawF
namespace Go.Ws
open Go Go.RowKit Go.Proofs
set_option maxHeartbeats 2000000
set_option maxRecDepth 100000
set_option linter.unusedVariables false
set_option linter.unusedSimpArgs false
set_option pp.deepTerms true
set_option pp.maxSteps 100000000

/-- A reader and the reference's, of the same: the latter in block b. -/
structure Twin (w W : World) (rb b : Nat) (G : Nat → Prop) (L : List Ent) (m : Nat) (u v : Value) : Prop where
  nb : w.heap.size ≤ b
  rd : Rdr W rb G L m (viewL (L.take m))
  g : ∀ k, G k → w.heap.size ≤ k ∧ k < W.heap.size ∧ k ≠ b ∧ u.ownBlock ≠ some k ∧ v.ownBlock ≠ some k
  blk : Blk W b 48 3 (fun k => if k = 0 then u else if k = 1 then .int .i64 m else v)
  lu : RdE W u L
  tv : RdI W v (viewL (L.take m))
  ub : u.ownBlock ≠ some b
  vb : v.ownBlock ≠ some b
  good : goodP L = true
  le : m ≤ L.length
theorem Twin.new {w W : World} {rb b : Nat} {G : Nat → Prop} (hR : Rdr W rb G [] 0 []) (hG : ∀ k, G k → w.heap.size ≤ k ∧ k < W.heap.size ∧ k ≠ b) (hb : w.heap.size ≤ b) (hB : Blk W b 48 3 (fun k => if k = 0 then .slice none 0 0 else if k = 1 then .int .i64 0 else .slice none 0 0)) : Twin w W rb b G [] 0 (.slice none 0 0) (.slice none 0 0) :=
  ⟨hb, hR, fun k hk => ⟨(hG k hk).1, (hG k hk).2.1, (hG k hk).2.2, (by intro h; cases h), (by intro h; cases h)⟩, hB, Rd.nil W, Rd.nil W, (by intro h; cases h), (by intro h; cases h), rfl, Nat.le_refl _⟩
/-- What is said of the reference's reader, wherever it lies. -/
structure Want (W : World) (b : Nat) (L : List Ent) (m : Nat) (T : List Int) (u v : Value) : Prop where
  blk : Blk W b 48 3 (fun k => if k = 0 then u else if k = 1 then .int .i64 m else v)
  lu : RdE W u L
  tv : RdI W v T
theorem Want.cells {W : World} {b : Nat} {L : List Ent} {m : Nat} {T : List Int} {u v : Value} (h : Want W b L m T u v) : b < W.heap.size ∧ W.cell? ⟨b, 0, none⟩ = some u ∧ W.cell? ⟨b, 1, none⟩ = some (.int .i64 m) ∧ W.cell? ⟨b, 2, none⟩ = some v :=
  ⟨h.blk.lt, (h.blk.cell (k := 0) (by omega)).trans rfl, (h.blk.cell (k := 1) (by omega)).trans rfl, (h.blk.cell (k := 2) (by omega)).trans rfl⟩
theorem Want.mod {W W' : World} {b : Nat} {L : List Ent} {m : Nat} {T : List Int} {u v : Value} {F : Nat → Prop} (h : Want W b L m T u v) (hM : Mod F W W') (hb : ¬ F b) (hu : ∀ k, u.ownBlock = some k → ¬ F k) (hv : ∀ k, v.ownBlock = some k → ¬ F k) : Want W' b L m T u v :=
  ⟨h.blk.mod hM hb, h.lu.mod hM hu, h.tv.mod hM hv⟩
theorem Twin.want {w W : World} {rb b : Nat} {G : Nat → Prop} {L : List Ent} {m : Nat} {u v : Value} (h : Twin w W rb b G L m u v) : Want W b L m (viewL (L.take m)) u v := ⟨h.blk, h.lu, h.tv⟩
theorem slice_of {W : World} {α : Type} {en : α → List Value} {k : Nat} {v : Value} {xs : List α} (h : Rd en k W v xs) : ∃ A n c, v = .slice A n c := by obtain ⟨A, c, h, _⟩ := h; exact ⟨_, _, _, h⟩
theorem Twin.vlen {w W : World} {rb b : Nat} {G : Nat → Prop} {L : List Ent} {m : Nat} {u v : Value} (h : Twin w W rb b G L m u v) : (viewL (L.take m)).length ≤ L.length := by
  have := viewL_len (L.take m)
  simp at this; omega
theorem Rd.mod_blk {W W' : World} {v : Value} {xs : List Ent} {b n : Nat} {E : TypeId} {g : Nat → Value} (h : RdE W v xs) (hM : Mod (· = b) W W') (hb : Blk W b E n g) (hn : n < 6) : RdE W' v xs := by
  by_cases hne : xs = []
  · subst hne
    obtain ⟨A, c, h1, h2, h3, h4⟩ := h
    refine ⟨A, c, h1, h2, h3, ?_⟩
    rcases h4 with h4 | ⟨b', o, e, hb', _⟩
    · exact .inl h4
    · exact .inr ⟨b', o, e, Nat.lt_of_lt_of_le hb' hM.size, fun i x hx => by simp at hx⟩
  · exact h.mod hM (fun k hk e => by subst e; exact h.nblk hne hb hn hk)
theorem Twin.later {w W W' : World} {rb b : Nat} {G : Nat → Prop} {L : List Ent} {m : Nat} {u v : Value} (h : Twin w W rb b G L m u v) (hE : Ext W W') : Twin w W' rb b G L m u v :=
  ⟨h.nb, h.rd.later hE, fun k hk => ⟨(h.g k hk).1, Nat.lt_of_lt_of_le (h.g k hk).2.1 hE.size, (h.g k hk).2.2⟩, h.blk.later hE, h.lu.later hE, h.tv.later hE, h.ub, h.vb, h.good, h.le⟩
theorem Twin.mod {w W W' : World} {rb b : Nat} {G F : Nat → Prop} {L : List Ent} {m : Nat} {u v : Value} (h : Twin w W rb b G L m u v) (hM : Mod F W W') (h1 : ∀ k, G k → ¬ F k) (h2 : ¬ F b) (h3 : ∀ k, u.ownBlock = some k → ¬ F k) (h4 : ∀ k, v.ownBlock = some k → ¬ F k) : Twin w W' rb b G L m u v :=
  ⟨h.nb, h.rd.mod hM h1, fun k hk => ⟨(h.g k hk).1, Nat.lt_of_lt_of_le (h.g k hk).2.1 hM.size, (h.g k hk).2.2⟩, h.blk.mod hM h2, h.lu.mod hM h3, h.tv.mod hM h4, h.ub, h.vb, h.good, h.le⟩
theorem Twin.keep {w W W' : World} {rb b : Nat} {G : Nat → Prop} {L : List Ent} {m : Nat} {u v : Value} (h : Twin w W rb b G L m u v) (hM : Mod (· = b) W W') (hB : Blk W' b 48 3 (fun k => if k = 0 then u else if k = 1 then .int .i64 m else v)) : Twin w W' rb b G L m u v :=
  ⟨h.nb, h.rd.mod hM (fun k hk e => (h.g k hk).2.2.1 e), fun k hk => ⟨(h.g k hk).1, Nat.lt_of_lt_of_le (h.g k hk).2.1 hM.size, (h.g k hk).2.2⟩, hB, h.lu.mod hM (fun k hk e => h.ub (e ▸ hk)), h.tv.mod hM (fun k hk e => h.vb (e ▸ hk)), h.ub, h.vb, h.good, h.le⟩
theorem own_blk {W : World} {v : Value} {xs : List Int} (h : OwnI W v xs) : (v = .slice none 0 0) ∨ ∃ gb cap g, v = .slice (some ⟨gb, 0, none⟩) xs.length cap ∧ xs.length ≤ cap ∧ cap ≤ maxLen ∧ Blk W gb 3 cap g := by
  rcases h.2 with ⟨rfl, _⟩ | ⟨g, cap, cur, rfl, hb, hgg, hnc, hcm, hcs, ht⟩
  · exact .inl rfl
  · exact .inr ⟨g, cap, fun k => cur.getD k undef, rfl, hnc, hcm, cur, hgg, by simpa using hcs, fun k hk => by
      have : k < cur.size := by simp at hcs; omega
      simp [this]⟩
theorem Twin.push {w W W2 W3 W4 : World} {rb b : Nat} {G : Nat → Prop} {L : List Ent} {m : Nat} {u v u' : Value} {e : Ent} (h : Twin w W rb b G L m u v) (hw : w.heap.size ≤ W.heap.size) (hE2 : Ext W W2) (hu : RdE W2 u' (pushLog L e)) (hf : u' = u ∨ ∀ k, u'.ownBlock = some k → W.heap.size ≤ k)
    (hM : Mod G W2 W3) (hR : Rdr W3 rb (fun k => G k ∨ W2.heap.size ≤ k) (pushLog L e) m (viewL (L.take m))) (hM4 : Mod (· = b) W3 W4) (hB4 : Blk W4 b 48 3 (fun k => if k = 0 then u' else if k = 1 then .int .i64 m else v)) :
    Twin w W4 rb b (fun k => (G k ∨ W2.heap.size ≤ k) ∧ k < W3.heap.size) (pushLog L e) m u' v := by
  have hs2 := hE2.size
  have hs3 := hM.size
  have hs4 := hM4.size
  have hb := h.blk.lt
  have huG : ∀ k, u'.ownBlock = some k → ¬ G k := fun k hk hG => by
    rcases hf with rfl | hf
    · exact (h.g k hG).2.2.2.1 hk
    · have := hf k hk; have := (h.g k hG).2.1; omega
  have hub : u'.ownBlock ≠ some b := fun hk => by
    rcases hf with rfl | hf
    · exact h.ub hk
    · have := hf b hk; omega
  have hvl := h.tv.own_lt
  have hul := hu.own_lt
  have htk : (pushLog L e).take m = L.take m := pushLog_take e h.le
  refine ⟨h.nb, ?_, ?_, hB4, ?_, ?_, hub, h.vb, pushLog_good h.good e, Nat.le_trans h.le (pushLog_len L e).1⟩
  · rw [htk]
    exact hR.here.mod hM4 (fun k hk e => by
      subst e
      rcases hk.1 with h1 | h1
      · exact (h.g _ h1).2.2.1 rfl
      · omega)
  · rintro k ⟨hk, hk3⟩
    refine ⟨?_, by omega, ?_, fun hu2 => ?_, fun hv2 => ?_⟩
    · rcases hk with hk | hk
      · exact (h.g k hk).1
      · omega
    · rcases hk with hk | hk
      · exact (h.g k hk).2.2.1
      · omega
    · rcases hk with hk | hk
      · exact huG k hu2 hk
      · have := hul k hu2; omega
    · rcases hk with hk | hk
      · exact (h.g k hk).2.2.2.2 hv2
      · have := hvl k hv2; omega
  · exact (hu.mod hM huG).mod hM4 (fun k hk e => hub (e ▸ hk))
  · rw [htk]
    exact ((h.tv.later hE2).mod hM (fun k hk hG => (h.g k hG).2.2.2.2 hk)).mod hM4 (fun k hk e => h.vb (e ▸ hk))
theorem Twin.to {w W W5 W6 W7 W8 : World} {rb b b8 : Nat} {G G' : Nat → Prop} {L : List Ent} {m n : Nat} {u v t : Value} (h : Twin w W rb b G L m u v) (hn : n ≤ L.length) (hE5 : Ext W W5) (ht : RdI W5 t (viewL (L.take n))) (hf : ∀ k, t.ownBlock = some k → W.heap.size ≤ k)
    (hb8 : b8 < W.heap.size) (hbb : b8 ≠ b) (hG8 : ¬ G b8) (hB8 : ∃ g, Blk W5 b8 48 3 g) (hM6 : Mod (· = b8) W5 W6) (hM7 : Mod G W6 W7) (hR : Rdr W7 rb G' L n (viewL (L.take n))) (hG' : ∀ k, G' k → G k ∨ W6.heap.size ≤ k)
    (hM8 : Mod (· = b) W7 W8) (hB8' : Blk W8 b 48 3 (fun k => if k = 0 then u else if k = 1 then .int .i64 n else t)) :
    Twin w W8 rb b (fun k => G' k ∧ k < W7.heap.size) L n u t := by
  have hs5 := hE5.size
  have hs6 := hM6.size
  have hs7 := hM7.size
  have hs8 := hM8.size
  have hb := h.blk.lt
  have hnb := h.nb
  obtain ⟨g8, hg8⟩ := hB8
  have htl := ht.own_lt
  have hul := h.lu.own_lt
  refine ⟨h.nb, ?_, ?_, hB8', ?_, ?_, h.ub, fun hk => by have := hf b hk; omega, h.good, hn⟩
  · exact hR.here.mod hM8 (fun k hk e => by
      subst e
      rcases hG' _ hk.1 with h1 | h1
      · exact (h.g _ h1).2.2.1 rfl
      · omega)
  · rintro k ⟨hk, hk7⟩
    rcases hG' k hk with h1 | h1
    · have := h.g k h1
      exact ⟨this.1, by omega, this.2.2.1, this.2.2.2.1, fun hk2 => by have := hf k hk2; omega⟩
    · exact ⟨by omega, by omega, by omega, fun hk2 => by have := hul k hk2; omega, fun hk2 => by have := htl k hk2; omega⟩
  · exact (((h.lu.later hE5).mod_blk hM6 hg8 (by omega)).mod hM7 (fun k hk hG => (h.g k hG).2.2.2.1 hk)).mod hM8 (fun k hk e => h.ub (e ▸ hk))
  · exact ((ht.mod hM6 (fun k hk e => by have := hf k hk; omega)).mod hM7 (fun k hk hG => by have := hf k hk; have := (h.g k hG).2.1; omega)).mod hM8 (fun k hk e => by have := hf k hk; omega)
theorem rpush_nil_calls {w : World} (e : Ent) : Pure Try.prog 31 #[.pointer none, e.v] w (.int .i64 1) := by
  refine Fn_of Try.func31 rfl (Nat.le_of_ble_eq_true rfl) ?_; intro A hd hA; simp only [ix, Nat.reduceAdd]; replace hA : A.tmps.size = 55 := hA
  repeat' (first | refine X_pure Try.func70 (rnone_nil_calls) ?_ | refine X_gpure Try.func70 (fun _ => rnone_nil_calls) ?_ | refine X_d (fun vb hvb => ?_) | refine X_dg (fun vb hvb => ?_) | refine X_q ?_ | refine X_g ?_ | refine X_gf ?_ | refine X_niln ?_ | refine X_nil ?_ | (refine X_var (fun yn bn hn1 hn2 hn3 hn4 hn5 => ?_)) | refine W_seqk (fun K hK => ?_) | refine W_seqr ?_ | refine W_draw (by kernel_rfl) (by kernel_rfl) ?_ | refine W_ret ?_ | refine W_skip ?_ | refine W_block ?_ | refine W_exit ?_ | (refine X_s (fun x K hK => ?_); go_simp; refine hK _ _ (Ext.alloc _ _) ?_; clear hK K; refine X_al x ?_; generalize (World.later _ x).heap.size = bn; intro yn hn1 hn2 hn3 hn4 hn5; clear x) | refine W_tt ?_ | refine W_ff ?_ | refine W_test (fun hc => ?_) (fun hc => ?_) | go_step)
  exact Body_ret hd ⟨rfl, by simp⟩
theorem rto_nil_calls {w : World} (n : Int) : Pure Try.prog 32 #[.pointer none, .int .i64 n] w (.tuple #[.slice none 0 0, .int .i64 1]) := by
  refine Fn_of Try.func32 rfl (Nat.le_of_ble_eq_true rfl) ?_; intro A hd hA; simp only [ix, Nat.reduceAdd]; replace hA : A.tmps.size = 63 := hA
  repeat' (first | refine X_pure Try.func70 (rnone_nil_calls) ?_ | refine X_gpure Try.func70 (fun _ => rnone_nil_calls) ?_ | refine X_d (fun vb hvb => ?_) | refine X_dg (fun vb hvb => ?_) | refine X_q ?_ | refine X_g ?_ | refine X_gf ?_ | refine X_niln ?_ | refine X_nil ?_ | (refine X_var (fun yn bn hn1 hn2 hn3 hn4 hn5 => ?_)) | refine W_seqk (fun K hK => ?_) | refine W_seqr ?_ | refine W_draw (by kernel_rfl) (by kernel_rfl) ?_ | refine W_ret ?_ | refine W_skip ?_ | refine W_block ?_ | refine W_exit ?_ | (refine X_s (fun x K hK => ?_); go_simp; refine hK _ _ (Ext.alloc _ _) ?_; clear hK K; refine X_al x ?_; generalize (World.later _ x).heap.size = bn; intro yn hn1 hn2 hn3 hn4 hn5; clear x) | refine W_tt ?_ | refine W_ff ?_ | refine W_test (fun hc => ?_) (fun hc => ?_) | go_step)
  exact Body_ret2 hd ⟨rfl, by simp⟩
theorem rcopy_nil_calls {w : World} : Pure Try.prog 40 #[.pointer none] w (.pointer none) := by
  refine Fn_of Try.func40 rfl (Nat.le_of_ble_eq_true rfl) ?_; intro A hd hA; simp only [ix, Nat.reduceAdd]; replace hA : A.tmps.size = 41 := hA
  repeat' (first | refine X_pure Try.func70 (rnone_nil_calls) ?_ | refine X_gpure Try.func70 (fun _ => rnone_nil_calls) ?_ | refine X_d (fun vb hvb => ?_) | refine X_dg (fun vb hvb => ?_) | refine X_q ?_ | refine X_g ?_ | refine X_gf ?_ | refine X_niln ?_ | refine X_nil ?_ | (refine X_var (fun yn bn hn1 hn2 hn3 hn4 hn5 => ?_)) | refine W_seqk (fun K hK => ?_) | refine W_seqr ?_ | refine W_draw (by kernel_rfl) (by kernel_rfl) ?_ | refine W_ret ?_ | refine W_skip ?_ | refine W_block ?_ | refine W_exit ?_ | (refine X_s (fun x K hK => ?_); go_simp; refine hK _ _ (Ext.alloc _ _) ?_; clear hK K; refine X_al x ?_; generalize (World.later _ x).heap.size = bn; intro yn hn1 hn2 hn3 hn4 hn5; clear x) | refine W_tt ?_ | refine W_ff ?_ | refine W_test (fun hc => ?_) (fun hc => ?_) | go_step)
  exact Body_ret hd ⟨rfl, by simp⟩
theorem reads_calls (l : List Ent) (ns : List Int) (v x : Value) (w : World) (hl : RdE w v l) (hx : RdI w x ns) : Pure Try.prog 8 #[v, x] w (.bool true) := by
  have hl0 := Lib.hid hl
  have hx0 := Lib.hid hx
  obtain ⟨A0, c, rfl, hc, hcm, HL⟩ := hl.ent
  obtain ⟨A1, c1, rfl, hc1, hcm1, HN⟩ := hx.int
  clear hl hx
  by_cases hlen : l.length ≤ 60
  · have hli : ¬ (60 : Int) < (l.length : Int) := by omega
    refine Fn_of Try.func8 rfl (Nat.le_of_ble_eq_true rfl) ?_; intro A hd hA; simp only [ix, Nat.reduceAdd]; replace hA : A.tmps.size = 138 := hA
    repeat' (first | refine X_gt ?_ | refine X_q ?_ | refine X_g ?_ | refine X_gf ?_ | refine X_niln ?_ | refine X_nil ?_ | (refine X_var (fun yn bn hn1 hn2 hn3 hn4 hn5 => ?_)) | refine W_seqk (fun K hK => ?_) | refine W_seqr ?_ | refine W_ret ?_ | refine W_skip ?_ | refine W_block ?_ | refine W_exit ?_ | (refine X_s (fun x K hK => ?_); go_simp; refine hK _ _ (Ext.alloc _ _) ?_; clear hK K; refine X_al x ?_; generalize (World.later _ x).heap.size = bn; intro yn hn1 hn2 hn3 hn4 hn5; clear x) | refine W_tt ?_ | refine W_ff ?_ | refine W_test (fun hc => ?_) (fun hc => ?_) | go_step)
    refine X_ret Try.func30 rnew_calls (fun v2 w1 hR => ?_)
    obtain ⟨rb, rfl, hE1, hR⟩ := hR
    have HR := Lib.hid hR.here
    clear hR
    repeat' (first | refine X_gt ?_ | refine X_q ?_ | refine X_g ?_ | refine X_gf ?_ | refine X_niln ?_ | refine X_nil ?_ | (refine X_var (fun yn bn hn1 hn2 hn3 hn4 hn5 => ?_)) | refine W_seqk (fun K hK => ?_) | refine W_seqr ?_ | refine W_ret ?_ | refine W_skip ?_ | refine W_block ?_ | refine W_exit ?_ | (refine X_s (fun x K hK => ?_); go_simp; refine hK _ _ (Ext.alloc _ _) ?_; clear hK K; refine X_al x ?_; generalize (World.later _ x).heap.size = bn; intro yn hn1 hn2 hn3 hn4 hn5; clear x) | refine W_tt ?_ | refine W_ff ?_ | refine W_test (fun hc => ?_) (fun hc => ?_) | go_step)
    rename Nat => b6
    have hs1 := hE1.size
    have hs2 : w1.heap.size ≤ (w1.later yn).heap.size := yn.2.size
    have hT0 : Twin w (w1.later yn) rb b6 _ [] 0 (.slice none 0 0) (.slice none 0 0) := Twin.new (HR.out.later yn.2) (fun k hk => ⟨hk.1, by omega, by omega⟩) (by omega) ((Blk.new hn5.out).congr (fun k hk => by
      obtain rfl | rfl | rfl : k = 0 ∨ k = 1 ∨ k = 2 := by simp at hk; omega
      all_goals rfl))
    have hE0 : Ext w (w1.later yn) := Ext.trans hE1 yn.2
    obtain ⟨y0, hy0⟩ := hE0.get
    rw [hy0] at hT0
    refine W_loops [0, 1, 5, 6, 7] (fun n vs w' => ∃ (k : Nat) (y : Later w) (G : Nat → Prop) (L : List Ent) (m : Nat) (u v : Value), w' = w.later y ∧ n + k = l.length ∧ vs = [.slice A0 l.length c, .slice A1 ns.length c1, .pointer (some ⟨rb, 0, none⟩), .pointer (some ⟨b6, 0, none⟩), .int .i64 k] ∧ Twin w (w.later y) rb b6 G L m u v ∧ L.length ≤ k) l.length hd hA (by decide) ⟨0, y0, _, [], 0, _, _, hy0, by omega, by simp, hT0, by simp⟩ ?_
    clear HR hE1 hn1 hn2 hn3 hn4 hn5 hT0 hE0 hy0 hs1 hs2 yn
    clear hd hA A; intro n vs B w' hd hA _ ⟨k, y, G, L, m, u, v, hw, hk, hvs, hT, hL⟩; subst hw hvs
    simp only [List.zip_cons_cons, List.zip_nil_right, List.zip_nil_left]
    obtain ⟨Au, nu, cu, rfl⟩ := slice_of hT.lu
    obtain ⟨Av, nv, cv, rfl⟩ := slice_of hT.tv
    have HT := Lib.hid hT
    have hLl := Lib.hid hL
    clear hT hL
    by_cases hlt : k < l.length
    · obtain ⟨e, be, oe, he, hA0, hbe, r0, r1, r2, r3, r4, r5⟩ := HL.out k hlt
      subst hA0
      have hki : (k : Int) < l.length := by omega
      obtain ⟨hb6, c60, c61, c62⟩ := HT.out.want.cells
      repeat' (first | refine X_gt ?_ | refine X_q ?_ | refine X_g ?_ | refine X_gf ?_ | refine X_niln ?_ | refine X_nil ?_ | (refine X_var (fun yn bn hn1 hn2 hn3 hn4 hn5 => ?_)) | refine W_seqk (fun K hK => ?_) | refine W_seqr ?_ | refine W_ret ?_ | refine W_skip ?_ | refine W_block ?_ | refine W_exit ?_ | (refine X_s (fun x K hK => ?_); go_simp; refine hK _ _ (Ext.alloc _ _) ?_; clear hK K; refine X_al x ?_; generalize (World.later _ x).heap.size = bn; intro yn hn1 hn2 hn3 hn4 hn5; clear x) | refine W_tt ?_ | refine W_ff ?_ | refine W_test (fun hc => ?_) (fun hc => ?_) | go_step)
      refine W_cut [0, 1, 5, 6, 7, 8, 9] (fun vs w' => ∃ (y2 : Later (w.later y)) (u' : Value) (b8 : Nat), w' = (w.later y).later y2 ∧ vs = [.slice (some ⟨be, oe, none⟩) l.length c, .slice A1 ns.length c1, .pointer (some ⟨rb, 0, none⟩), .pointer (some ⟨b6, 0, none⟩), .int .i64 k, .pointer (some ⟨b8, 0, none⟩), .int .i64 (pushNo L e)] ∧
        (w.later y).heap.size ≤ b8 ∧ Blk ((w.later y).later y2) b8 48 3 (fun k => if k = 0 then u' else if k = 1 then .int .i64 m else .slice Av nv cv) ∧ RdE ((w.later y).later y2) u' (pushLog L e) ∧ (u' = .slice Au nu cu ∨ ∀ k, u'.ownBlock = some k → (w.later y).heap.size ≤ k) ∧ u'.ownBlock ≠ some b8) hd hA (by decide) ?_ ?_
      · refine W_fork [10] (by kernel_rfl) ?_
        refine F_q (i := 0) ?_
        refine F_q (i := 1) ?_
        refine F_q (i := 2) ?_
        refine F_q (i := 3) ?_
        refine F_q (i := 4) ?_
        refine F_alts (i := 5) (rs := [9]) (S_cons ?_ (S_cons ?_ S_end))
        · refine S_ret (R := fun w0 v' w' => Ext w0 w' ∧ ∃ u', v' = .tuple #[.agg #[u', .int .i64 m, .slice Av nv cv], .int .i64 (refNo L e)] ∧ RdE w' u' (refLog L e) ∧ (u' = .slice Au nu cu ∨ ∀ b, u'.ownBlock = some b → w0.heap.size ≤ b)) Try.func34 (fun x => refpush_calls L _ _ _ m e _ (HT.out.lu.later x.2) (HT.out.tv.later x.2)) (fun x v' w' hR => ⟨hR.1, ?_⟩)
          obtain ⟨hE, u', rfl, hu, hfu⟩ := hR
          rw [refLog_push (goodP_ok HT.out.good)] at hu
          rw [refNo_push (goodP_ok HT.out.good)]
          obtain ⟨Aw, nw, cw, rfl⟩ := slice_of hu
          have hEx : Ext (w.later y) w' := Ext.trans x.2 hE
          have hfu' : Value.slice Aw nw cw = .slice Au nu cu ∨ ∀ b, Value.ownBlock (.slice Aw nw cw) = some b → (w.later y).heap.size ≤ b := hfu.imp id (fun h b hb => Nat.le_trans x.2.size (h b hb))
          have HU := Lib.hid hu
          have HFU := Lib.hid hfu'
          clear hu hfu hfu' hE
          refine F_q (i := 6) ?_
          refine F_q (i := 7) ?_
          refine F_q (i := 8) ?_
          refine F_s (i := 9) (fun z K hK => ?_)
          go_simp; refine hK _ _ _ (Ext.alloc _ _) (Ext.refl _) ?_; clear hK K; refine F_al z ?_; generalize (World.later _ z).heap.size = b8; intro y8 g1 g2 g3 g4 g5; clear z
          refine F_alts (i := 10) (rs := []) (S_cons (S_store (off := 0) (Blk.new g5.out) (fun W' hM hB => ?_)) S_end)
          have hW' : Ext (w.later y) W' := Ext.fresh (Ext.trans hEx y8.2) hM (by rintro _ rfl; exact Nat.le_trans hEx.size g1)
          have hub : Value.ownBlock (.slice Aw nw cw) ≠ some b8 := fun hk => by have := HU.out.own_lt _ hk; omega
          refine F_q (i := 11) ?_
          obtain ⟨yW, hyW⟩ := hW'.get
          exact F_nil (by kernel_rfl) ⟨rfl, _, _, rfl, hd, hA, yW, _, b8, hyW, by simp, Nat.le_trans hEx.size g1, hyW ▸ hB.congr (fun k hk => by
            obtain rfl | rfl | rfl : k = 0 ∨ k = 1 ∨ k = 2 := by simp at hk; omega
            all_goals rfl), hyW ▸ (HU.out.later y8.2).mod hM (fun k hk e => hub (e ▸ hk)), HFU.out, hub⟩
        · refine S_s (fun z K hK => ?_)
          go_simp; refine hK _ _ _ (Ext.alloc _ _) (Ext.refl _) ?_; clear hK K; refine F_al z ?_; generalize (World.later _ z).heap.size = b8; intro y8 g1 g2 g3 g4 g5; clear z
          refine F_alts (i := 5) (rs := []) (S_cons ?_ S_end)
          refine S_ret (R := fun w0 v' w' => Ext w0 w' ∧ ∃ u', v' = .tuple #[.agg #[u', .int .i64 m, .slice Av nv cv], .int .i64 (refNo L e)] ∧ RdE w' u' (refLog L e) ∧ (u' = .slice Au nu cu ∨ ∀ b, u'.ownBlock = some b → w0.heap.size ≤ b)) Try.func34 (fun x => refpush_calls L _ _ _ m e _ (HT.out.lu.later (Ext.trans y8.2 x.2)) (HT.out.tv.later (Ext.trans y8.2 x.2))) (fun x v' w' hR => ⟨hR.1, ?_⟩)
          obtain ⟨hE, u', rfl, hu, hfu⟩ := hR
          rw [refLog_push (goodP_ok HT.out.good)] at hu
          rw [refNo_push (goodP_ok HT.out.good)]
          obtain ⟨Aw, nw, cw, rfl⟩ := slice_of hu
          have hEx : Ext ((w.later y).later y8) w' := Ext.trans x.2 hE
          have hub : Value.ownBlock (.slice Aw nw cw) ≠ some b8 := fun hk => by
            rcases hfu with h | h
            · rw [h] at hk; have := HT.out.lu.own_lt _ hk; omega
            · have h1 := h _ hk; have h2 : ((w.later y).later y8).heap.size ≤ (((w.later y).later y8).later x).heap.size := x.2.size; omega
          have hfu' : Value.slice Aw nw cw = .slice Au nu cu ∨ ∀ b, Value.ownBlock (.slice Aw nw cw) = some b → (w.later y).heap.size ≤ b := hfu.imp id (fun h b hb => Nat.le_trans (Ext.trans y8.2 x.2).size (h b hb))
          have HU := Lib.hid hu
          have HFU := Lib.hid hfu'
          clear hu hfu hfu' hE
          refine F_q (i := 6) ?_
          refine F_q (i := 7) ?_
          refine F_q (i := 8) ?_
          refine F_alts (i := 10) (rs := []) (S_cons (S_store (off := 0) ((Blk.new g5.out).later hEx) (fun W' hM hB => ?_)) S_end)
          have hW' : Ext (w.later y) W' := Ext.fresh (Ext.trans y8.2 hEx) hM (by rintro _ rfl; exact g1)
          refine F_q (i := 11) ?_
          obtain ⟨yW, hyW⟩ := hW'.get
          exact F_nil (by kernel_rfl) ⟨rfl, _, _, rfl, hd, hA, yW, _, b8, hyW, by simp, g1, hyW ▸ hB.congr (fun k hk => by
            obtain rfl | rfl | rfl : k = 0 ∨ k = 1 ∨ k = 2 := by simp at hk; omega
            all_goals rfl), hyW ▸ HU.out.mod hM (fun k hk e => hub (e ▸ hk)), HFU.out, hub⟩
      · clear hd hA
        rintro vs B2 w' hd hA ⟨y2, u', b8, rfl, rfl, hb8, hB8, hu, hfu, hub⟩
        simp only [List.zip_cons_cons, List.zip_nil_right, List.zip_nil_left]
        refine hK _ _ ?_
        clear hK
        obtain ⟨Aw, nw, cw, rfl⟩ := slice_of hu
        have hwy : w.heap.size ≤ (w.later y).heap.size := y.2.size
        have hy2 : (w.later y).heap.size ≤ ((w.later y).later y2).heap.size := y2.2.size
        have HB8 := Lib.hid hB8
        have HU := Lib.hid hu
        have HFU := Lib.hid hfu
        have HUB := Lib.hid hub
        clear hB8 hu hfu hub c60 c61 c62
        repeat' (first | refine X_gt ?_ | refine X_q ?_ | refine X_g ?_ | refine X_gf ?_ | refine X_niln ?_ | refine X_nil ?_ | (refine X_var (fun yn bn hn1 hn2 hn3 hn4 hn5 => ?_)) | refine W_seqk (fun K hK => ?_) | refine W_seqr ?_ | refine W_ret ?_ | refine W_skip ?_ | refine W_block ?_ | refine W_exit ?_ | (refine X_s (fun x K hK => ?_); go_simp; refine hK _ _ (Ext.alloc _ _) ?_; clear hK K; refine X_al x ?_; generalize (World.later _ x).heap.size = bn; intro yn hn1 hn2 hn3 hn4 hn5; clear x) | refine W_tt ?_ | refine W_ff ?_ | refine W_test (fun hc => ?_) (fun hc => ?_) | go_step)
        refine X_ret Try.func31 (rpush_calls (HT.out.rd.later y2.2) e) (fun v' w3 hR => ?_)
        obtain ⟨rfl, hM, hR⟩ := hR
        have hG8 : ¬ G b8 := fun h => by have := (HT.out.g _ h).2.1; omega
        have hB83 := HB8.out.mod hM hG8
        have hB63 := (HT.out.blk.later y2.2).mod hM (fun h => (HT.out.g _ h).2.2.1 rfl)
        have c80 : w3.cell? ⟨b8, 0, none⟩ = some (.slice Aw nw cw) := (hB83.cell (k := 0) (by omega)).trans rfl
        have c81 : w3.cell? ⟨b8, 1, none⟩ = some (.int .i64 m) := (hB83.cell (k := 1) (by omega)).trans rfl
        have c82 : w3.cell? ⟨b8, 2, none⟩ = some (.slice Av nv cv) := (hB83.cell (k := 2) (by omega)).trans rfl
        have hl83 := hB83.lt
        have HM := Lib.hid hM
        have HR := Lib.hid hR
        have HB83 := Lib.hid hB83
        have HB63 := Lib.hid hB63
        clear hM hR hB83 hB63 r0 r1 r2 r3 r4 r5
        repeat' (first | refine X_pure Try.func24 (num9_calls _ _) ?_ | refine X_gpure Try.func24 (fun _ => num9_calls _ _) ?_ | refine X_gt ?_ | refine X_q ?_ | refine X_g ?_ | refine X_gf ?_ | refine X_niln ?_ | refine X_nil ?_ | (refine X_var (fun yn bn hn1 hn2 hn3 hn4 hn5 => ?_)) | refine W_seqk (fun K hK => ?_) | refine W_seqr ?_ | refine W_ret ?_ | refine W_skip ?_ | refine W_block ?_ | refine W_exit ?_ | (refine X_s (fun x K hK => ?_); go_simp; refine hK _ _ (Ext.alloc _ _) ?_; clear hK K; refine X_al x ?_; generalize (World.later _ x).heap.size = bn; intro yn hn1 hn2 hn3 hn4 hn5; clear x) | refine W_tt ?_ | refine W_ff ?_ | refine W_test (fun hc => ?_) (fun hc => ?_) | go_step)
        refine X_store (off := 0) (v := .agg #[.slice Aw nw cw, .int .i64 m, .slice Av nv cv]) HB63.out (fun w4 hM4 hB4 => ?_)
        have hT4 := HT.out.push hwy (show Ext (w.later y) ((w.later y).later y2) from y2.2) HU.out HFU.out HM.out HR.out hM4 (hB4.congr (fun k hk => by
          obtain rfl | rfl | rfl : k = 0 ∨ k = 1 ∨ k = 2 := by omega
          all_goals rfl))
        have hB84 := HB83.out.mod hM4 (show b8 ≠ b6 by have := HT.out.blk.lt; omega)
        have hE4 : Ext w w4 := by
          have h1 : Mod (fun k => G k ∨ k = b6) ((w.later y).later y2) w4 := Mod.trans HM.out hM4 (fun k _ h => .inl h) (fun k _ h => .inr h)
          exact Ext.fresh (by simp : Ext w ((w.later y).later y2)) h1 (fun k h => h.elim (fun h => (HT.out.g k h).1) (fun h => h ▸ HT.out.nb))
        have hs34 := hM4.size
        have hs23 := HM.out.size
        have hG84 : ¬ ((G b8 ∨ ((w.later y).later y2).heap.size ≤ b8) ∧ b8 < w3.heap.size) := fun h => h.1.elim hG8 (fun h2 => by have := HB8.out.lt; omega)
        have hl84 := hB84.lt
        have hLL := pushLog_len L e
        have hLe : (pushLog L e).length ≤ k + 1 := by have := hLl.out; omega
        generalize hPL : pushLog L e = PL at *
        generalize hG4 : (fun k => (G k ∨ ((w.later y).later y2).heap.size ≤ k) ∧ k < w3.heap.size) = G4 at *
        have hG84' : ¬ G4 b8 := by rw [← hG4]; exact hG84
        have HT4 := Lib.hid hT4
        have HB84 := Lib.hid hB84
        have HG84 := Lib.hid hG84'
        have hwb8 : w.heap.size ≤ b8 := by omega
        have HUB8 : Hid (∀ k, Value.ownBlock (.slice Aw nw cw) = some k → ¬ k = b8) := Lib.hid (fun k hk e => HUB.out (e ▸ hk))
        have HVB8 : Hid (∀ k, Value.ownBlock (.slice Av nv cv) = some k → ¬ k = b8) := Lib.hid (fun k hk e => by have := HT.out.tv.own_lt k hk; omega)
        have hb86 : b8 ≠ b6 := by have := HT.out.blk.lt; omega
        clear hT4 hB84 hG84 hG84' hM4 hB4 HB63 HB83 HR HM c80 c81 c82 hl83 HU HFU HUB HB8 hG8 hs34 hs23 hPL hG4 HT hLl hLL hwy hy2 hb8
        obtain ⟨y4, rfl⟩ := hE4.get
        repeat' (first | refine X_gt ?_ | refine X_q ?_ | refine X_g ?_ | refine X_gf ?_ | refine X_niln ?_ | refine X_nil ?_ | (refine X_var (fun yn bn hn1 hn2 hn3 hn4 hn5 => ?_)) | refine W_seqk (fun K hK => ?_) | refine W_seqr ?_ | refine W_ret ?_ | refine W_skip ?_ | refine W_block ?_ | refine W_exit ?_ | (refine X_s (fun x K hK => ?_); go_simp; refine hK _ _ (Ext.alloc _ _) ?_; clear hK K; refine X_al x ?_; generalize (World.later _ x).heap.size = bn; intro yn hn1 hn2 hn3 hn4 hn5; clear x) | refine W_tt ?_ | refine W_ff ?_ | refine W_test (fun hc => ?_) (fun hc => ?_) | go_step)
        · exact ⟨_, _, rfl, hd, hA, n - 1, by omega, k + 1, y4, G4, PL, m, _, _, rfl, by omega, by simp, HT4.out, hLe⟩
        have hkn : k < ns.length := by simp at hc; omega
        have hkni : (k : Int) < ns.length := by omega
        obtain ⟨nk, b1, o1, HX, hA1, hb1, cx⟩ := HN.out k hkn
        subst hA1
        obtain ⟨hb6', c60, c61, c62⟩ := HT4.out.want.cells
        have hTl := HT4.out.vlen
        clear hc
        refine W_draw (by kernel_rfl) (by kernel_rfl) ?_
        repeat' (first | refine X_d (fun vb hvb => ?_) | refine X_dg (fun vb hvb => ?_) | refine X_q ?_ | refine X_g ?_ | refine X_gf ?_ | refine X_niln ?_ | refine X_nil ?_ | (refine X_var (fun yn bn hn1 hn2 hn3 hn4 hn5 => ?_)) | refine W_seqk (fun K hK => ?_) | refine W_seqr ?_ | refine W_ret ?_ | refine W_skip ?_ | refine W_block ?_ | refine W_exit ?_ | (refine X_s (fun x K hK => ?_); go_simp; refine hK _ _ (Ext.alloc _ _) ?_; clear hK K; refine X_al x ?_; generalize (World.later _ x).heap.size = bn; intro yn hn1 hn2 hn3 hn4 hn5; clear x) | refine W_tt ?_ | refine W_ff ?_ | refine W_test (fun hc => ?_) (fun hc => ?_) | go_step)
        refine X_ret Try.func35 (refto_calls PL (viewL (PL.take m)) _ _ m nk _ HT4.out.lu HT4.out.tv (by omega) (by omega)) (fun v' w5 hR => ?_)
        obtain ⟨hE5, hR1, hR2⟩ := hR
        have hl85 : b8 < w5.heap.size := Nat.lt_of_lt_of_le hl84 hE5.size
        by_cases h0 : toNo PL m nk = 0
        · obtain ⟨t, q, rfl, ht, hq, hft, hfq⟩ := hR2 h0
          have hrg : ¬ (nk < 0 ∨ (PL.length : Int) < nk) := by
            intro h; unfold toNo at h0; rw [if_pos h] at h0; cases h0
          obtain ⟨N, rfl⟩ : ∃ N : Nat, nk = N := ⟨nk.toNat, by omega⟩
          have hmN : m ≤ N := by
            unfold toNo at h0; rw [if_neg hrg] at h0
            by_cases h : (N : Int) < m
            · rw [if_pos h] at h0; cases h0
            · omega
          have hNl : N ≤ PL.length := by omega
          obtain ⟨hm1, hm2, hm3⟩ := more_same HT4.out.good hmN
          rw [hm3] at hq ht
          rw [hm2] at ht
          obtain ⟨At, nt, ct, rfl⟩ := slice_of ht
          obtain ⟨Aq, nq, cq, rfl⟩ := slice_of hq
          have HQ := Lib.hid hq
          have HTT := Lib.hid ht
          have HFT := Lib.hid hft
          have HFQ := Lib.hid hfq
          have H0 := Lib.hid h0
          have HM2 := Lib.hid hm2
          have HM1 := Lib.hid hm1
          clear h0 hR1 hR2 hm1 hm2 hm3 hq ht hft hfq c60 c61 c62 hrg
          repeat' (first | refine X_d (fun vb hvb => ?_) | refine X_dg (fun vb hvb => ?_) | refine X_q ?_ | refine X_g ?_ | refine X_gf ?_ | refine X_niln ?_ | refine X_nil ?_ | (refine X_var (fun yn bn hn1 hn2 hn3 hn4 hn5 => ?_)) | refine W_seqk (fun K hK => ?_) | refine W_seqr ?_ | refine W_ret ?_ | refine W_skip ?_ | refine W_block ?_ | refine W_exit ?_ | (refine X_s (fun x K hK => ?_); go_simp; refine hK _ _ (Ext.alloc _ _) ?_; clear hK K; refine X_al x ?_; generalize (World.later _ x).heap.size = bn; intro yn hn1 hn2 hn3 hn4 hn5; clear x) | refine W_tt ?_ | refine W_ff ?_ | refine W_test (fun hc => ?_) (fun hc => ?_) | go_step)
          refine X_store (off := 0) (v := .agg #[.slice Aw nw cw, .int .i64 N, .slice At nt ct]) (HB84.out.later hE5) (fun w6 hM6 hB6 => ?_)
          have hs45 := hE5.size
          have hs56 := hM6.size
          have hR6 := (HT4.out.rd.later hE5).mod hM6 (fun k hk e => HG84.out (e ▸ hk))
          have HR6 := Lib.hid hR6
          have c80 : w6.cell? ⟨b8, 0, none⟩ = some (.slice Aw nw cw) := (hB6.cell (k := 0) (by omega)).trans rfl
          have c81 : w6.cell? ⟨b8, 1, none⟩ = some (.int .i64 N) := (hB6.cell (k := 1) (by omega)).trans rfl
          have c82 : w6.cell? ⟨b8, 2, none⟩ = some (.slice At nt ct) := (hB6.cell (k := 2) (by omega)).trans rfl
          have hl86 := hB6.lt
          have hE6 : Ext w w6 := Ext.fresh (Ext.trans (by simp : Ext w (w.later y4)) hE5) hM6 (by rintro _ rfl; exact hwb8)
          have HM6 := Lib.hid hM6
          clear hM6 hB6 hR6
          obtain ⟨y6, rfl⟩ := hE6.get
          repeat' (first | refine X_d (fun vb hvb => ?_) | refine X_dg (fun vb hvb => ?_) | refine X_q ?_ | refine X_g ?_ | refine X_gf ?_ | refine X_niln ?_ | refine X_nil ?_ | (refine X_var (fun yn bn hn1 hn2 hn3 hn4 hn5 => ?_)) | refine W_seqk (fun K hK => ?_) | refine W_seqr ?_ | refine W_ret ?_ | refine W_skip ?_ | refine W_block ?_ | refine W_exit ?_ | (refine X_s (fun x K hK => ?_); go_simp; refine hK _ _ (Ext.alloc _ _) ?_; clear hK K; refine X_al x ?_; generalize (World.later _ x).heap.size = bn; intro yn hn1 hn2 hn3 hn4 hn5; clear x) | refine W_tt ?_ | refine W_ff ?_ | refine W_test (fun hc => ?_) (fun hc => ?_) | go_step)
          refine X_ret Try.func32 (rto_calls HR6.out N (by omega) (by omega) (fun _ => by simpa using HM1.out)) (fun v' w7 hR => ?_)
          obtain ⟨q2, rfl, hM7, G', hG', hR7, hq2, hfq2⟩ := hR.2 H0.out
          rw [HM2.out] at hR7
          have hs67 := hM7.size
          have e8 : ∀ o, w7.cell? ⟨b8, o, none⟩ = (w.later y6).cell? ⟨b8, o, none⟩ := fun o => cell?_mod hM7 hl86 HG84.out
          have c80' := (e8 0).trans c80
          have c81' := (e8 1).trans c81
          have c82' := (e8 2).trans c82
          have hl87 : b8 < w7.heap.size := by omega
          have hB67 := (((HT4.out.blk.later hE5).mod HM6.out (fun e => hb86 e.symm)).mod hM7 (fun h => (HT4.out.g _ h).2.2.1 rfl))
          have HM7 := Lib.hid hM7
          have HR7 := Lib.hid hR7
          have HQ2 := Lib.hid hq2
          have HFQ2 := Lib.hid hfq2
          have HG' := Lib.hid hG'
          have HB67 := Lib.hid hB67
          obtain ⟨A2, n2, c2, rfl⟩ := slice_of (hq2.rd (enc := ics) (k := 1) (fun _ => rfl))
          clear hR hM7 hR7 hq2 hfq2 hG' hB67 c80 c81 c82 e8
          repeat' (first | refine X_d (fun vb hvb => ?_) | refine X_dg (fun vb hvb => ?_) | refine X_q ?_ | refine X_g ?_ | refine X_gf ?_ | refine X_niln ?_ | refine X_nil ?_ | (refine X_var (fun yn bn hn1 hn2 hn3 hn4 hn5 => ?_)) | refine W_seqk (fun K hK => ?_) | refine W_seqr ?_ | refine W_ret ?_ | refine W_skip ?_ | refine W_block ?_ | refine W_exit ?_ | (refine X_s (fun x K hK => ?_); go_simp; refine hK _ _ (Ext.alloc _ _) ?_; clear hK K; refine X_al x ?_; generalize (World.later _ x).heap.size = bn; intro yn hn1 hn2 hn3 hn4 hn5; clear x) | refine W_tt ?_ | refine W_ff ?_ | refine W_test (fun hc => ?_) (fun hc => ?_) | go_step)
          refine X_store (off := 0) (v := .agg #[.slice Aw nw cw, .int .i64 N, .slice At nt ct]) HB67.out (fun w8 hM8 hB8 => ?_)
          have hT8 := HT4.out.to hNl hE5 HTT.out HFT.out hl84 hb86 HG84.out ⟨_, HB84.out.later hE5⟩ HM6.out HM7.out HR7.out HG'.out hM8 (hB8.congr (fun k hk => by
            obtain rfl | rfl | rfl : k = 0 ∨ k = 1 ∨ k = 2 := by omega
            all_goals rfl))
          have hs78 := hM8.size
          have hqb : ∀ k, Value.ownBlock (.slice Aq nq cq) = some k → (w.later y4).heap.size ≤ k := HFQ.out
          have hQ8 : RdI w8 (.slice Aq nq cq) _ := ((HQ.out.mod HM6.out (fun k hk e => by have := hqb k hk; omega)).mod HM7.out (fun k hk e => by have := hqb k hk; have := (HT4.out.g k e).2.1; omega)).mod hM8 (fun k hk e => by have := hqb k hk; omega)
          have hq2b : ∀ k, Value.ownBlock (.slice A2 n2 c2) = some k → (w.later y6).heap.size ≤ k := fun k hk => (HFQ2.out k hk).1
          have hQ28 : OwnI w8 (.slice A2 n2 c2) _ := HQ2.out.mod hM8 (fun k hk e => by have := hq2b k hk; omega)
          have hE8 : Ext w w8 := by
            have h1 : Mod (fun k => (k = b8 ∨ G4 k) ∨ k = b6) w5 w8 := Mod.trans (Mod.trans HM6.out HM7.out (fun k _ h => .inl h) (fun k _ h => .inr h)) hM8 (fun k _ h => .inl h) (fun k _ h => .inr h)
            refine Ext.fresh (Ext.trans y4.2 hE5) h1 (fun k h => ?_)
            rcases h with (h | h) | h
            · omega
            · exact (HT4.out.g k h).1
            · exact h ▸ HT4.out.nb
          have HT8 := Lib.hid hT8
          have HQ8 := Lib.hid hQ8
          have HQ28 := Lib.hid hQ28
          have HQ2B : Hid (∀ k, Value.ownBlock (.slice A2 n2 c2) = some k → ¬ (G' k ∧ k < w7.heap.size) ∧ k ≠ b6 ∧ Value.ownBlock (.slice Aw nw cw) ≠ some k ∧ Value.ownBlock (.slice At nt ct) ≠ some k ∧ w.heap.size ≤ k) := Lib.hid (fun k hk => by
            have h1 := HFQ2.out k hk
            refine ⟨fun h => h1.2 h.1, by omega, fun h => ?_, fun h => ?_, ?_⟩
            · have := HT4.out.lu.own_lt k h; omega
            · have := HTT.out.own_lt k h; omega
            · have : w.heap.size ≤ (w.later y4).heap.size := y4.2.size
              omega)
          have hT8l := HT8.out.vlen
          obtain ⟨hb68, c60, c61, c62⟩ := HT8.out.want.cells
          generalize hG8 : (fun k => G' k ∧ k < w7.heap.size) = G8 at *
          clear hT8 hQ8 hQ28 hM8 hB8 HR7 HQ2 HFQ2 HM7 HM6 HB67 HR6 HFT HFQ HQ HG' hqb hq2b c80' c81' c82' hl87 hl86 hl85 hs78 hs67 hs56 hs45 hE5
          obtain ⟨y8, rfl⟩ := hE8.get
          repeat' (first | refine X_pure Try.func25 (same9_calls (toMore PL (viewL (PL.take m)) N) (toMore PL (viewL (PL.take m)) N) _ _ _ ((HQ28.out.rd (enc := ics) (k := 1) (fun _ => rfl)).later (by simp)) (HQ8.out.later (by simp))) ?_ | refine X_gpure Try.func25 (fun _ => same9_calls (toMore PL (viewL (PL.take m)) N) (toMore PL (viewL (PL.take m)) N) _ _ _ ((HQ28.out.rd (enc := ics) (k := 1) (fun _ => rfl)).later (by simp)) (HQ8.out.later (by simp))) ?_ | refine X_pure Try.func24 (num9_calls _ _) ?_ | refine X_gpure Try.func24 (fun _ => num9_calls _ _) ?_ | refine X_pure Try.func36 (is9_calls (HT8.out.rd.later (by simp)) (HT8.out.lu.later (by simp)) (HT8.out.tv.later (by simp)) (by omega)) ?_ | refine X_gpure Try.func36 (fun _ => is9_calls (HT8.out.rd.later (by simp)) (HT8.out.lu.later (by simp)) (HT8.out.tv.later (by simp)) (by omega)) ?_ | refine X_gt ?_ | refine X_q ?_ | refine X_g ?_ | refine X_gf ?_ | refine X_niln ?_ | refine X_nil ?_ | (refine X_var (fun yn bn hn1 hn2 hn3 hn4 hn5 => ?_)) | refine W_seqk (fun K hK => ?_) | refine W_seqr ?_ | refine W_ret ?_ | refine W_skip ?_ | refine W_block ?_ | refine W_exit ?_ | (refine X_s (fun x K hK => ?_); go_simp; refine hK _ _ (Ext.alloc _ _) ?_; clear hK K; refine X_al x ?_; generalize (World.later _ x).heap.size = bn; intro yn hn1 hn2 hn3 hn4 hn5; clear x) | refine W_tt ?_ | refine W_ff ?_ | refine W_test (fun hc => ?_) (fun hc => ?_) | go_step)
          rcases own_blk HQ28.out with hnil | ⟨gb, cap, g, hsome, hcap1, hcap2, hgB⟩
          · cases hnil
            refine W_loops [0, 1, 5, 6, 7, 12, 14] (fun n2 vs w' => n2 = 0 ∧ w' = w.later y8 ∧ vs = [.slice (some ⟨be, oe, none⟩) l.length c, .slice (some ⟨b1, o1, none⟩) ns.length c1, .pointer (some ⟨rb, 0, none⟩), .pointer (some ⟨b6, 0, none⟩), .int .i64 k, .slice none 0 0, .int .i64 0]) 0 hd hA (by decide) ⟨rfl, rfl, by simp⟩ ?_
            clear hd hA B2; intro n2 vs B3 w' hd hA _ ⟨h1, h2, h3⟩; subst h1 h2 h3
            simp only [List.zip_cons_cons, List.zip_nil_right, List.zip_nil_left]
            repeat' (first | refine X_gt ?_ | refine X_q ?_ | refine X_g ?_ | refine X_gf ?_ | refine X_niln ?_ | refine X_nil ?_ | (refine X_var (fun yn bn hn1 hn2 hn3 hn4 hn5 => ?_)) | refine W_seqk (fun K hK => ?_) | refine W_seqr ?_ | refine W_ret ?_ | refine W_skip ?_ | refine W_block ?_ | refine W_exit ?_ | (refine X_s (fun x K hK => ?_); go_simp; refine hK _ _ (Ext.alloc _ _) ?_; clear hK K; refine X_al x ?_; generalize (World.later _ x).heap.size = bn; intro yn hn1 hn2 hn3 hn4 hn5; clear x) | refine W_tt ?_ | refine W_ff ?_ | refine W_test (fun hc => ?_) (fun hc => ?_) | go_step)
            exact ⟨_, _, rfl, hd, hA, n - 1, by omega, k + 1, y8, _, PL, N, _, _, rfl, by omega, by simp, HT8.out, hLe⟩
          · cases hsome
            obtain ⟨q1, q2, q3, q4, q5⟩ := HQ2B.out gb rfl
            have HGB := Lib.hid hgB
            clear hgB HQ28 HQ8 HQ2B HM2 HTT HT4 HB84 HG84 HUB8 HVB8 H0 HM1 c60 c61 c62
            generalize (toMore PL (viewL (PL.take m)) N).length = M at *
            have q1' : ¬ G8 gb := by rw [← hG8]; exact q1
            have hc29 : c2 ≤ 9223372036854775807 := hcap2
            have hM9 : M ≤ 9223372036854775807 := by omega
            refine W_loops [0, 1, 5, 6, 7, 12, 14] (fun n2 vs w' => ∃ (j : Nat) (y9 : Later w) (g : Nat → Value), w' = w.later y9 ∧ n2 + j = M ∧ vs = [.slice (some ⟨be, oe, none⟩) l.length c, .slice (some ⟨b1, o1, none⟩) ns.length c1, .pointer (some ⟨rb, 0, none⟩), .pointer (some ⟨b6, 0, none⟩), .int .i64 k, .slice (some ⟨gb, 0, none⟩) M c2, .int .i64 j] ∧ Blk (w.later y9) gb 3 c2 g ∧ Twin w (w.later y9) rb b6 G8 PL N (.slice Aw nw cw) (.slice At nt ct)) M hd hA (by decide) ⟨0, y8, g, rfl, by omega, by simp, HGB.out, HT8.out⟩ ?_
            clear hd hA B2 HT8 HGB hb68 hT8l; intro n2 vs B3 w' hd hA _ ⟨j, y9, g9, hw9, hj, hvs, hg9, hT9⟩; subst hw9 hvs
            simp only [List.zip_cons_cons, List.zip_nil_right, List.zip_nil_left]
            have HT9 := Lib.hid hT9
            have HG9 := Lib.hid hg9
            clear hT9 hg9
            by_cases hjl : j < M
            · have hji : (j : Int) < M := by omega
              repeat' (first | refine X_gt ?_ | refine X_q ?_ | refine X_g ?_ | refine X_gf ?_ | refine X_niln ?_ | refine X_nil ?_ | (refine X_var (fun yn bn hn1 hn2 hn3 hn4 hn5 => ?_)) | refine W_seqk (fun K hK => ?_) | refine W_seqr ?_ | refine W_ret ?_ | refine W_skip ?_ | refine W_block ?_ | refine W_exit ?_ | (refine X_s (fun x K hK => ?_); go_simp; refine hK _ _ (Ext.alloc _ _) ?_; clear hK K; refine X_al x ?_; generalize (World.later _ x).heap.size = bn; intro yn hn1 hn2 hn3 hn4 hn5; clear x) | refine W_tt ?_ | refine W_ff ?_ | refine W_test (fun hc => ?_) (fun hc => ?_) | go_step)
              refine X_store (off := j) (v := .int .i64 (-9)) HG9.out (fun w10 hM10 hB10 => ?_)
              have hT10 := HT9.out.mod hM10 (fun k hk e => q1' (e ▸ hk)) (fun e => q2 e.symm) (fun k hk e => q3 (e ▸ hk)) (fun k hk e => q4 (e ▸ hk))
              have hE10 : Ext w w10 := Ext.fresh y9.2 hM10 (by rintro _ rfl; exact q5)
              obtain ⟨y10, hy10⟩ := hE10.get
              subst hy10
              repeat' (first | refine X_gt ?_ | refine X_q ?_ | refine X_g ?_ | refine X_gf ?_ | refine X_niln ?_ | refine X_nil ?_ | (refine X_var (fun yn bn hn1 hn2 hn3 hn4 hn5 => ?_)) | refine W_seqk (fun K hK => ?_) | refine W_seqr ?_ | refine W_ret ?_ | refine W_skip ?_ | refine W_block ?_ | refine W_exit ?_ | (refine X_s (fun x K hK => ?_); go_simp; refine hK _ _ (Ext.alloc _ _) ?_; clear hK K; refine X_al x ?_; generalize (World.later _ x).heap.size = bn; intro yn hn1 hn2 hn3 hn4 hn5; clear x) | refine W_tt ?_ | refine W_ff ?_ | refine W_test (fun hc => ?_) (fun hc => ?_) | go_step)
              exact ⟨_, _, rfl, hd, hA, n2 - 1, by omega, j + 1, y10, _, rfl, by omega, by simp, hB10, hT10⟩
            · have hji : ¬ (j : Int) < M := by omega
              repeat' (first | refine X_gt ?_ | refine X_q ?_ | refine X_g ?_ | refine X_gf ?_ | refine X_niln ?_ | refine X_nil ?_ | (refine X_var (fun yn bn hn1 hn2 hn3 hn4 hn5 => ?_)) | refine W_seqk (fun K hK => ?_) | refine W_seqr ?_ | refine W_ret ?_ | refine W_skip ?_ | refine W_block ?_ | refine W_exit ?_ | (refine X_s (fun x K hK => ?_); go_simp; refine hK _ _ (Ext.alloc _ _) ?_; clear hK K; refine X_al x ?_; generalize (World.later _ x).heap.size = bn; intro yn hn1 hn2 hn3 hn4 hn5; clear x) | refine W_tt ?_ | refine W_ff ?_ | refine W_test (fun hc => ?_) (fun hc => ?_) | go_step)
              exact ⟨_, _, rfl, hd, hA, n - 1, by omega, k + 1, y9, _, PL, N, _, _, rfl, by omega, by simp, HT9.out, hLe⟩
        · obtain rfl := hR1 h0
          clear hR1 hR2 c60 c61 c62
          have H0 := Lib.hid h0
          clear h0
          repeat' (first | refine X_d (fun vb hvb => ?_) | refine X_dg (fun vb hvb => ?_) | refine X_q ?_ | refine X_g ?_ | refine X_gf ?_ | refine X_niln ?_ | refine X_nil ?_ | (refine X_var (fun yn bn hn1 hn2 hn3 hn4 hn5 => ?_)) | refine W_seqk (fun K hK => ?_) | refine W_seqr ?_ | refine W_ret ?_ | refine W_skip ?_ | refine W_block ?_ | refine W_exit ?_ | (refine X_s (fun x K hK => ?_); go_simp; refine hK _ _ (Ext.alloc _ _) ?_; clear hK K; refine X_al x ?_; generalize (World.later _ x).heap.size = bn; intro yn hn1 hn2 hn3 hn4 hn5; clear x) | refine W_tt ?_ | refine W_ff ?_ | refine W_test (fun hc => ?_) (fun hc => ?_) | go_step)
          refine X_store (off := 0) (v := .agg #[.slice Aw nw cw, .int .i64 m, .slice Av nv cv]) (HB84.out.later hE5) (fun w6 hM6 hB6 => ?_)
          have hE6 : Ext w w6 := Ext.fresh (Ext.trans (by simp : Ext w (w.later y4)) hE5) hM6 (by rintro _ rfl; exact hwb8)
          have hT6 := (HT4.out.later hE5).mod hM6 (fun k hk e => HG84.out (e ▸ hk)) (fun e => hb86 e.symm) HUB8.out HVB8.out
          have HT6 := Lib.hid hT6
          have c80 : w6.cell? ⟨b8, 0, none⟩ = some (.slice Aw nw cw) := (hB6.cell (k := 0) (by omega)).trans rfl
          have c81 : w6.cell? ⟨b8, 1, none⟩ = some (.int .i64 m) := (hB6.cell (k := 1) (by omega)).trans rfl
          have c82 : w6.cell? ⟨b8, 2, none⟩ = some (.slice Av nv cv) := (hB6.cell (k := 2) (by omega)).trans rfl
          have hl86 := hB6.lt
          clear hT6 hM6 hB6
          obtain ⟨y6, rfl⟩ := hE6.get
          repeat' (first | refine X_d (fun vb hvb => ?_) | refine X_dg (fun vb hvb => ?_) | refine X_q ?_ | refine X_g ?_ | refine X_gf ?_ | refine X_niln ?_ | refine X_nil ?_ | (refine X_var (fun yn bn hn1 hn2 hn3 hn4 hn5 => ?_)) | refine W_seqk (fun K hK => ?_) | refine W_seqr ?_ | refine W_ret ?_ | refine W_skip ?_ | refine W_block ?_ | refine W_exit ?_ | (refine X_s (fun x K hK => ?_); go_simp; refine hK _ _ (Ext.alloc _ _) ?_; clear hK K; refine X_al x ?_; generalize (World.later _ x).heap.size = bn; intro yn hn1 hn2 hn3 hn4 hn5; clear x) | refine W_tt ?_ | refine W_ff ?_ | refine W_test (fun hc => ?_) (fun hc => ?_) | go_step)
          refine X_ret Try.func32 (rto_calls HT6.out.rd nk (by omega) (by omega) (fun h => absurd h H0.out)) (fun v' w7 hR => ?_)
          obtain ⟨rfl, hE7⟩ := hR.1 H0.out
          have hB67 := HT6.out.blk.later hE7
          have hE7w := Ext.trans (by simp : Ext w (w.later y6)) hE7
          have hT7 := Lib.hid (HT6.out.later hE7)
          clear hR
          obtain ⟨y7, hy7⟩ := hE7.get
          subst hy7
          repeat' (first | refine X_d (fun vb hvb => ?_) | refine X_dg (fun vb hvb => ?_) | refine X_q ?_ | refine X_g ?_ | refine X_gf ?_ | refine X_niln ?_ | refine X_nil ?_ | (refine X_var (fun yn bn hn1 hn2 hn3 hn4 hn5 => ?_)) | refine W_seqk (fun K hK => ?_) | refine W_seqr ?_ | refine W_ret ?_ | refine W_skip ?_ | refine W_block ?_ | refine W_exit ?_ | (refine X_s (fun x K hK => ?_); go_simp; refine hK _ _ (Ext.alloc _ _) ?_; clear hK K; refine X_al x ?_; generalize (World.later _ x).heap.size = bn; intro yn hn1 hn2 hn3 hn4 hn5; clear x) | refine W_tt ?_ | refine W_ff ?_ | refine W_test (fun hc => ?_) (fun hc => ?_) | go_step)
          refine X_store (off := 0) (v := .agg #[.slice Aw nw cw, .int .i64 m, .slice Av nv cv]) hB67 (fun w8 hM8 hB8 => ?_)
          have hT8 := hT7.out.keep hM8 (hB8.congr (fun k hk => by
            obtain rfl | rfl | rfl : k = 0 ∨ k = 1 ∨ k = 2 := by omega
            all_goals rfl))
          have hE8 : Ext w w8 := Ext.fresh hE7w hM8 (by rintro _ rfl; exact HT4.out.nb)
          have HT8 := Lib.hid hT8
          have hT8l := HT8.out.vlen
          obtain ⟨hb68, c60, c61, c62⟩ := HT8.out.want.cells
          clear hT8 hM8 hB8 hB67 c80 c81 c82 hl86 hE7 hE7w y7 hT7 HT6 hE6
          obtain ⟨y8, rfl⟩ := hE8.get
          repeat' (first | refine X_pure Try.func25 (same9_calls [] [] _ _ _ (Rd.nil _) (Rd.nil _)) ?_ | refine X_gpure Try.func25 (fun _ => same9_calls [] [] _ _ _ (Rd.nil _) (Rd.nil _)) ?_ | refine X_pure Try.func24 (num9_calls _ _) ?_ | refine X_gpure Try.func24 (fun _ => num9_calls _ _) ?_ | refine X_pure Try.func36 (is9_calls (HT8.out.rd.later (by simp)) (HT8.out.lu.later (by simp)) (HT8.out.tv.later (by simp)) (by omega)) ?_ | refine X_gpure Try.func36 (fun _ => is9_calls (HT8.out.rd.later (by simp)) (HT8.out.lu.later (by simp)) (HT8.out.tv.later (by simp)) (by omega)) ?_ | refine X_gt ?_ | refine X_q ?_ | refine X_g ?_ | refine X_gf ?_ | refine X_niln ?_ | refine X_nil ?_ | (refine X_var (fun yn bn hn1 hn2 hn3 hn4 hn5 => ?_)) | refine W_seqk (fun K hK => ?_) | refine W_seqr ?_ | refine W_ret ?_ | refine W_skip ?_ | refine W_block ?_ | refine W_exit ?_ | (refine X_s (fun x K hK => ?_); go_simp; refine hK _ _ (Ext.alloc _ _) ?_; clear hK K; refine X_al x ?_; generalize (World.later _ x).heap.size = bn; intro yn hn1 hn2 hn3 hn4 hn5; clear x) | refine W_tt ?_ | refine W_ff ?_ | refine W_test (fun hc => ?_) (fun hc => ?_) | go_step)
          refine W_loops [0, 1, 5, 6, 7, 12, 14] (fun n2 vs w' => n2 = 0 ∧ w' = w.later y8 ∧ vs = [.slice (some ⟨be, oe, none⟩) l.length c, .slice (some ⟨b1, o1, none⟩) ns.length c1, .pointer (some ⟨rb, 0, none⟩), .pointer (some ⟨b6, 0, none⟩), .int .i64 k, .slice none 0 0, .int .i64 0]) 0 hd hA (by decide) ⟨rfl, rfl, by simp⟩ ?_
          clear hd hA B2; intro n2 vs B3 w' hd hA _ ⟨h1, h2, h3⟩; subst h1 h2 h3
          simp only [List.zip_cons_cons, List.zip_nil_right, List.zip_nil_left]
          repeat' (first | refine X_gt ?_ | refine X_q ?_ | refine X_g ?_ | refine X_gf ?_ | refine X_niln ?_ | refine X_nil ?_ | (refine X_var (fun yn bn hn1 hn2 hn3 hn4 hn5 => ?_)) | refine W_seqk (fun K hK => ?_) | refine W_seqr ?_ | refine W_ret ?_ | refine W_skip ?_ | refine W_block ?_ | refine W_exit ?_ | (refine X_s (fun x K hK => ?_); go_simp; refine hK _ _ (Ext.alloc _ _) ?_; clear hK K; refine X_al x ?_; generalize (World.later _ x).heap.size = bn; intro yn hn1 hn2 hn3 hn4 hn5; clear x) | refine W_tt ?_ | refine W_ff ?_ | refine W_test (fun hc => ?_) (fun hc => ?_) | go_step)
          exact ⟨_, _, rfl, hd, hA, n - 1, by omega, k + 1, y8, _, PL, m, _, _, rfl, by omega, by simp, HT8.out, hLe⟩
    · have hki : ¬ (k : Int) < l.length := by omega
      obtain ⟨hb6, c60, c61, c62⟩ := HT.out.want.cells
      have hTl := HT.out.vlen
      have hLk := hLl.out
      repeat' (first | refine X_pure Try.func32 (rto_nil_calls 0) ?_ | refine X_gpure Try.func32 (fun _ => rto_nil_calls 0) ?_ | refine X_pure Try.func36 (is9_calls (HT.out.rd.later (by simp)) (HT.out.lu.later (by simp)) (HT.out.tv.later (by simp)) (by omega)) ?_ | refine X_gpure Try.func36 (fun _ => is9_calls (HT.out.rd.later (by simp)) (HT.out.lu.later (by simp)) (HT.out.tv.later (by simp)) (by omega)) ?_ | refine X_pure Try.func24 (num9_calls _ _) ?_ | refine X_gpure Try.func24 (fun _ => num9_calls _ _) ?_ | refine X_pure Try.func31 (rpush_nil_calls ⟨0, 0, 0, 0, 0, 0⟩) ?_ | refine X_gpure Try.func31 (fun _ => rpush_nil_calls ⟨0, 0, 0, 0, 0, 0⟩) ?_ | refine X_pure Try.func37 (rlen_nil_calls) ?_ | refine X_gpure Try.func37 (fun _ => rlen_nil_calls) ?_ | refine X_pure Try.func38 (rat_nil_calls) ?_ | refine X_gpure Try.func38 (fun _ => rat_nil_calls) ?_ | refine X_pure Try.func39 (rtold_nil_calls) ?_ | refine X_gpure Try.func39 (fun _ => rtold_nil_calls) ?_ | refine X_pure Try.func40 (rcopy_nil_calls) ?_ | refine X_gpure Try.func40 (fun _ => rcopy_nil_calls) ?_ | refine X_pure Try.func19 (works_calls) ?_ | refine X_gpure Try.func19 (fun _ => works_calls) ?_ | refine X_gt ?_ | refine X_q ?_ | refine X_g ?_ | refine X_gf ?_ | refine X_niln ?_ | refine X_nil ?_ | (refine X_var (fun yn bn hn1 hn2 hn3 hn4 hn5 => ?_)) | refine W_seqk (fun K hK => ?_) | refine W_seqr ?_ | refine W_ret ?_ | refine W_skip ?_ | refine W_block ?_ | refine W_exit ?_ | (refine X_s (fun x K hK => ?_); go_simp; refine hK _ _ (Ext.alloc _ _) ?_; clear hK K; refine X_al x ?_; generalize (World.later _ x).heap.size = bn; intro yn hn1 hn2 hn3 hn4 hn5; clear x) | refine W_tt ?_ | refine W_ff ?_ | refine W_test (fun hc => ?_) (fun hc => ?_) | go_step)
      exact Body_ret hd ⟨rfl, by simp⟩
  · have hli : (60 : Int) < l.length := by omega
    refine Fn_of Try.func8 rfl (Nat.le_of_ble_eq_true rfl) ?_; intro A hd hA; simp only [ix, Nat.reduceAdd]; replace hA : A.tmps.size = 138 := hA
    repeat' (first | refine X_pure Try.func19 (works_calls) ?_ | refine X_gpure Try.func19 (fun _ => works_calls) ?_ | refine X_gt ?_ | refine X_q ?_ | refine X_g ?_ | refine X_gf ?_ | refine X_niln ?_ | refine X_nil ?_ | (refine X_var (fun yn bn hn1 hn2 hn3 hn4 hn5 => ?_)) | refine W_seqk (fun K hK => ?_) | refine W_seqr ?_ | refine W_ret ?_ | refine W_skip ?_ | refine W_block ?_ | refine W_exit ?_ | (refine X_s (fun x K hK => ?_); go_simp; refine hK _ _ (Ext.alloc _ _) ?_; clear hK K; refine X_al x ?_; generalize (World.later _ x).heap.size = bn; intro yn hn1 hn2 hn3 hn4 hn5; clear x) | refine W_tt ?_ | refine W_ff ?_ | refine W_test (fun hc => ?_) (fun hc => ?_) | go_step)
    exact Body_ret hd ⟨rfl, by simp⟩
end Go.Ws
