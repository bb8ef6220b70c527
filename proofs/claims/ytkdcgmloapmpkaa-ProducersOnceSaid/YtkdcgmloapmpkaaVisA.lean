import Derived.Test.YtkdcgmloapmpkaaTabS
namespace Go.Ws
open Go Go.RowKit Go.Proofs
set_option maxHeartbeats 2000000
set_option maxRecDepth 100000
set_option linter.unusedVariables false
set_option linter.unusedSimpArgs false
set_option pp.deepTerms true
set_option pp.maxSteps 100000000

theorem none_nil_calls {w : World} : Pure Try.prog 74 #[.pointer none] w (.bool true) := by
  refine Fn_of Try.func74 rfl (Nat.le_of_ble_eq_true rfl) ?_; intro A hd hA; simp only [ix, Nat.reduceAdd]; replace hA : A.tmps.size = 12 := hA
  repeat' (first | refine X_d (fun vb hvb => ?_) | refine X_dg (fun vb hvb => ?_) | refine X_q ?_ | refine X_g ?_ | refine X_gf ?_ | refine X_niln ?_ | refine X_nil ?_ | (refine X_var (fun yn bn hn1 hn2 hn3 hn4 hn5 => ?_)) | refine W_seqk (fun K hK => ?_) | refine W_seqr ?_ | refine W_draw (by kernel_rfl) (by kernel_rfl) ?_ | refine W_ret ?_ | refine W_skip ?_ | refine W_block ?_ | refine W_exit ?_ | (refine X_s (fun x K hK => ?_); go_simp; refine hK _ _ (Ext.alloc _ _) ?_; clear hK K; refine X_al x ?_; generalize (World.later _ x).heap.size = bn; intro yn hn1 hn2 hn3 hn4 hn5; clear x) | refine W_tt ?_ | refine W_ff ?_ | refine W_test (fun hc => ?_) (fun hc => ?_) | go_step)
  all_goals (cases hvb)
  repeat' (first | refine X_d (fun vb hvb => ?_) | refine X_dg (fun vb hvb => ?_) | refine X_q ?_ | refine X_g ?_ | refine X_gf ?_ | refine X_niln ?_ | refine X_nil ?_ | (refine X_var (fun yn bn hn1 hn2 hn3 hn4 hn5 => ?_)) | refine W_seqk (fun K hK => ?_) | refine W_seqr ?_ | refine W_draw (by kernel_rfl) (by kernel_rfl) ?_ | refine W_ret ?_ | refine W_skip ?_ | refine W_block ?_ | refine W_exit ?_ | (refine X_s (fun x K hK => ?_); go_simp; refine hK _ _ (Ext.alloc _ _) ?_; clear hK K; refine X_al x ?_; generalize (World.later _ x).heap.size = bn; intro yn hn1 hn2 hn3 hn4 hn5; clear x) | refine W_tt ?_ | refine W_ff ?_ | refine W_test (fun hc => ?_) (fun hc => ?_) | go_step)
  exact Body_ret hd ⟨rfl, by simp⟩
theorem tabStable_nil_calls {w : World} : Pure Try.prog 53 #[.pointer none] w (.int .i64 0) := by
  refine Fn_of Try.func53 rfl (Nat.le_of_ble_eq_true rfl) ?_; intro A hd hA; simp only [ix, Nat.reduceAdd]; replace hA : A.tmps.size = 28 := hA
  repeat' (first | refine X_pure Try.func74 (none_nil_calls) ?_ | refine X_gpure Try.func74 (fun _ => none_nil_calls) ?_ | refine X_d (fun vb hvb => ?_) | refine X_dg (fun vb hvb => ?_) | refine X_q ?_ | refine X_g ?_ | refine X_gf ?_ | refine X_niln ?_ | refine X_nil ?_ | (refine X_var (fun yn bn hn1 hn2 hn3 hn4 hn5 => ?_)) | refine W_seqk (fun K hK => ?_) | refine W_seqr ?_ | refine W_ret ?_ | refine W_skip ?_ | refine W_block ?_ | refine W_exit ?_ | (refine X_s (fun x K hK => ?_); go_simp; refine hK _ _ (Ext.alloc _ _) ?_; clear hK K; refine X_al x ?_; generalize (World.later _ x).heap.size = bn; intro yn hn1 hn2 hn3 hn4 hn5; clear x) | refine W_tt ?_ | refine W_ff ?_ | refine W_test (fun hc => ?_) (fun hc => ?_) | go_step)
  exact Body_ret hd ⟨rfl, by simp⟩
theorem first_calls (l : List Ent) (v : Value) (n : Int) (w : World) (hl : RdE w v l) : Ret Try.prog 63 #[v, .int .i64 n] w fun v' w' => Ext w w' ∧ (ofNo l ≠ 0 → v' = .tuple #[.pointer none, .int .i64 2]) ∧
    (ofNo l = 0 → (n < 0 ∨ (l.length : Int) < n) → v' = .tuple #[.pointer none, .int .i64 4]) ∧
    (ofNo l = 0 → ¬ (n < 0 ∨ (l.length : Int) < n) → ∃ b, v' = .tuple #[.pointer (some ⟨b, 0, none⟩), .int .i64 0] ∧ Tab w' b (fun k => w.heap.size ≤ k) (l.take n.toNat)) := by
  have hl0 := Lib.hid hl
  obtain ⟨A0, c, rfl, hc, hcm, HR⟩ := hl.ent
  clear hl HR
  refine Fn_of Try.func63 rfl (Nat.le_of_ble_eq_true rfl) ?_; intro A hd hA; simp only [ix, Nat.reduceAdd]; replace hA : A.tmps.size = 22 := hA
  repeat' (first | refine X_d (fun vb hvb => ?_) | refine X_dg (fun vb hvb => ?_) | refine X_q ?_ | refine X_g ?_ | refine X_gf ?_ | refine X_niln ?_ | refine X_nil ?_ | (refine X_var (fun yn bn hn1 hn2 hn3 hn4 hn5 => ?_)) | refine W_seqk (fun K hK => ?_) | refine W_seqr ?_ | refine W_ret ?_ | refine W_skip ?_ | refine W_block ?_ | refine W_exit ?_ | (refine X_s (fun x K hK => ?_); go_simp; refine hK _ _ (Ext.alloc _ _) ?_; clear hK K; refine X_al x ?_; generalize (World.later _ x).heap.size = bn; intro yn hn1 hn2 hn3 hn4 hn5; clear x) | refine W_tt ?_ | refine W_ff ?_ | refine W_test (fun hc => ?_) (fun hc => ?_) | go_step)
  refine X_ret Try.func43 (tabOf_calls l _ _ hl0.out) (fun v' w' hR => ?_)
  obtain ⟨hE', hR0, hR1⟩ := hR
  obtain ⟨y', rfl⟩ := hE'.get
  clear hE'
  by_cases h0 : ofNo l = 0
  · obtain ⟨b, rfl, hT⟩ := hR0 h0
    have HT := Lib.hid hT
    clear hR0 hR1 hT
    repeat' (first | refine X_d (fun vb hvb => ?_) | refine X_dg (fun vb hvb => ?_) | refine X_q ?_ | refine X_g ?_ | refine X_gf ?_ | refine X_niln ?_ | refine X_nil ?_ | (refine X_var (fun yn bn hn1 hn2 hn3 hn4 hn5 => ?_)) | refine W_seqk (fun K hK => ?_) | refine W_seqr ?_ | refine W_ret ?_ | refine W_skip ?_ | refine W_block ?_ | refine W_exit ?_ | (refine X_s (fun x K hK => ?_); go_simp; refine hK _ _ (Ext.alloc _ _) ?_; clear hK K; refine X_al x ?_; generalize (World.later _ x).heap.size = bn; intro yn hn1 hn2 hn3 hn4 hn5; clear x) | refine W_tt ?_ | refine W_ff ?_ | refine W_test (fun hc => ?_) (fun hc => ?_) | go_step)
    refine X_ret Try.func54 (tabTrunc_calls HT.out h0 n) (fun v' w' hR => ?_)
    by_cases hn : n < 0 ∨ (l.length : Int) < n
    · rw [if_pos hn] at hR
      obtain ⟨rfl, hE'⟩ := hR
      obtain ⟨y2, rfl⟩ := hE'.get
      have HN := Lib.hid hn
      clear hn
      repeat' (first | refine X_d (fun vb hvb => ?_) | refine X_dg (fun vb hvb => ?_) | refine X_q ?_ | refine X_g ?_ | refine X_gf ?_ | refine X_niln ?_ | refine X_nil ?_ | (refine X_var (fun yn bn hn1 hn2 hn3 hn4 hn5 => ?_)) | refine W_seqk (fun K hK => ?_) | refine W_seqr ?_ | refine W_ret ?_ | refine W_skip ?_ | refine W_block ?_ | refine W_exit ?_ | (refine X_s (fun x K hK => ?_); go_simp; refine hK _ _ (Ext.alloc _ _) ?_; clear hK K; refine X_al x ?_; generalize (World.later _ x).heap.size = bn; intro yn hn1 hn2 hn3 hn4 hn5; clear x) | refine W_tt ?_ | refine W_ff ?_ | refine W_test (fun hc => ?_) (fun hc => ?_) | go_step)
      exact Body_ret2 hd ⟨by simp, fun h => absurd h0 h, fun _ _ => rfl, fun _ h => absurd HN.out h⟩
    · rw [if_neg hn] at hR
      obtain ⟨rfl, hM, hT'⟩ := hR
      have hE' : Ext w w' := Ext.fresh y'.2 hM (fun i h => h)
      obtain ⟨y2, rfl⟩ := hE'.get
      have HN := Lib.hid hn
      have HT' := Lib.hid hT'
      clear hn hT' hE'
      repeat' (first | refine X_d (fun vb hvb => ?_) | refine X_dg (fun vb hvb => ?_) | refine X_q ?_ | refine X_g ?_ | refine X_gf ?_ | refine X_niln ?_ | refine X_nil ?_ | (refine X_var (fun yn bn hn1 hn2 hn3 hn4 hn5 => ?_)) | refine W_seqk (fun K hK => ?_) | refine W_seqr ?_ | refine W_ret ?_ | refine W_skip ?_ | refine W_block ?_ | refine W_exit ?_ | (refine X_s (fun x K hK => ?_); go_simp; refine hK _ _ (Ext.alloc _ _) ?_; clear hK K; refine X_al x ?_; generalize (World.later _ x).heap.size = bn; intro yn hn1 hn2 hn3 hn4 hn5; clear x) | refine W_tt ?_ | refine W_ff ?_ | refine W_test (fun hc => ?_) (fun hc => ?_) | go_step)
      exact Body_ret2 hd ⟨y2.2, fun h => absurd h0 h, fun _ h => absurd h HN.out, fun _ _ => ⟨b, rfl, HT'.out.mono (fun k hk => hk.elim id (fun h => Nat.le_trans y'.2.size h))⟩⟩
  · have hv := hR1 h0
    subst hv
    clear hR0 hR1
    have H0 := Lib.hid h0
    have h0' : (ofNo l != 0) = true := by simpa using h0
    clear h0
    repeat' (first | refine X_d (fun vb hvb => ?_) | refine X_dg (fun vb hvb => ?_) | refine X_q ?_ | refine X_g ?_ | refine X_gf ?_ | refine X_niln ?_ | refine X_nil ?_ | (refine X_var (fun yn bn hn1 hn2 hn3 hn4 hn5 => ?_)) | refine W_seqk (fun K hK => ?_) | refine W_seqr ?_ | refine W_ret ?_ | refine W_skip ?_ | refine W_block ?_ | refine W_exit ?_ | (refine X_s (fun x K hK => ?_); go_simp; refine hK _ _ (Ext.alloc _ _) ?_; clear hK K; refine X_al x ?_; generalize (World.later _ x).heap.size = bn; intro yn hn1 hn2 hn3 hn4 hn5; clear x) | refine W_tt ?_ | refine W_ff ?_ | refine W_test (fun hc => ?_) (fun hc => ?_) | go_step)
    exact Body_ret2 hd ⟨y'.2, fun _ => rfl, fun h => absurd h H0.out, fun h => absurd h H0.out⟩
theorem visStable_calls (l : List Ent) (v : Value) (n : Int) (w : World) (hl : RdE w v l) : Ret Try.prog 21 #[v, .int .i64 n] w fun v' w' => Ext w w' ∧
    v' = if ofNo l ≠ 0 then .tuple #[.int .i64 0, .int .i64 2] else if n < 0 ∨ (l.length : Int) < n then .tuple #[.int .i64 0, .int .i64 4] else .tuple #[.int .i64 (stableB (l.take n.toNat)), .int .i64 0] := by
  refine Fn_of Try.func21 rfl (Nat.le_of_ble_eq_true rfl) ?_; intro A hd hA; simp only [ix, Nat.reduceAdd]; replace hA : A.tmps.size = 17 := hA
  repeat' (first | refine X_d (fun vb hvb => ?_) | refine X_dg (fun vb hvb => ?_) | refine X_q ?_ | refine X_g ?_ | refine X_gf ?_ | refine X_niln ?_ | refine X_nil ?_ | (refine X_var (fun yn bn hn1 hn2 hn3 hn4 hn5 => ?_)) | refine W_seqk (fun K hK => ?_) | refine W_seqr ?_ | refine W_ret ?_ | refine W_skip ?_ | refine W_block ?_ | refine W_exit ?_ | (refine X_s (fun x K hK => ?_); go_simp; refine hK _ _ (Ext.alloc _ _) ?_; clear hK K; refine X_al x ?_; generalize (World.later _ x).heap.size = bn; intro yn hn1 hn2 hn3 hn4 hn5; clear x) | refine W_tt ?_ | refine W_ff ?_ | refine W_test (fun hc => ?_) (fun hc => ?_) | go_step)
  refine X_ret Try.func63 (first_calls l v n _ hl) (fun v' w' hR => ?_)
  obtain ⟨hE', h1, h2, h3⟩ := hR
  obtain ⟨y', rfl⟩ := hE'.get
  clear hE'
  by_cases h0 : ofNo l = 0
  · by_cases hn : n < 0 ∨ (l.length : Int) < n
    · have hv := h2 h0 hn
      subst hv
      clear h1 h2 h3
      have H0 := Lib.hid h0
      have HN := Lib.hid hn
      clear h0 hn
      repeat' (first | refine X_pure Try.func53 (tabStable_nil_calls) ?_ | refine X_gpure Try.func53 (fun _ => tabStable_nil_calls) ?_ | refine X_d (fun vb hvb => ?_) | refine X_dg (fun vb hvb => ?_) | refine X_q ?_ | refine X_g ?_ | refine X_gf ?_ | refine X_niln ?_ | refine X_nil ?_ | (refine X_var (fun yn bn hn1 hn2 hn3 hn4 hn5 => ?_)) | refine W_seqk (fun K hK => ?_) | refine W_seqr ?_ | refine W_ret ?_ | refine W_skip ?_ | refine W_block ?_ | refine W_exit ?_ | (refine X_s (fun x K hK => ?_); go_simp; refine hK _ _ (Ext.alloc _ _) ?_; clear hK K; refine X_al x ?_; generalize (World.later _ x).heap.size = bn; intro yn hn1 hn2 hn3 hn4 hn5; clear x) | refine W_tt ?_ | refine W_ff ?_ | refine W_test (fun hc => ?_) (fun hc => ?_) | go_step)
      exact Body_ret2 hd ⟨by simp, by rw [if_neg (fun h => h H0.out), if_pos HN.out]⟩
    · obtain ⟨b, rfl, hT⟩ := h3 h0 hn
      clear h1 h2 h3
      have H0 := Lib.hid h0
      have HN := Lib.hid hn
      have HT := Lib.hid hT
      clear h0 hn hT
      repeat' (first | refine X_pure Try.func53 (tabStable_calls HT.out (ofNo_take H0.out _)) ?_ | refine X_gpure Try.func53 (fun _ => tabStable_calls HT.out (ofNo_take H0.out _)) ?_ | refine X_d (fun vb hvb => ?_) | refine X_dg (fun vb hvb => ?_) | refine X_q ?_ | refine X_g ?_ | refine X_gf ?_ | refine X_niln ?_ | refine X_nil ?_ | (refine X_var (fun yn bn hn1 hn2 hn3 hn4 hn5 => ?_)) | refine W_seqk (fun K hK => ?_) | refine W_seqr ?_ | refine W_ret ?_ | refine W_skip ?_ | refine W_block ?_ | refine W_exit ?_ | (refine X_s (fun x K hK => ?_); go_simp; refine hK _ _ (Ext.alloc _ _) ?_; clear hK K; refine X_al x ?_; generalize (World.later _ x).heap.size = bn; intro yn hn1 hn2 hn3 hn4 hn5; clear x) | refine W_tt ?_ | refine W_ff ?_ | refine W_test (fun hc => ?_) (fun hc => ?_) | go_step)
      exact Body_ret2 hd ⟨by simp, by rw [if_neg (fun h => h H0.out), if_neg HN.out]⟩
  · have hv := h1 h0
    subst hv
    clear h1 h2 h3
    have H0 := Lib.hid h0
    clear h0
    repeat' (first | refine X_pure Try.func53 (tabStable_nil_calls) ?_ | refine X_gpure Try.func53 (fun _ => tabStable_nil_calls) ?_ | refine X_d (fun vb hvb => ?_) | refine X_dg (fun vb hvb => ?_) | refine X_q ?_ | refine X_g ?_ | refine X_gf ?_ | refine X_niln ?_ | refine X_nil ?_ | (refine X_var (fun yn bn hn1 hn2 hn3 hn4 hn5 => ?_)) | refine W_seqk (fun K hK => ?_) | refine W_seqr ?_ | refine W_ret ?_ | refine W_skip ?_ | refine W_block ?_ | refine W_exit ?_ | (refine X_s (fun x K hK => ?_); go_simp; refine hK _ _ (Ext.alloc _ _) ?_; clear hK K; refine X_al x ?_; generalize (World.later _ x).heap.size = bn; intro yn hn1 hn2 hn3 hn4 hn5; clear x) | refine W_tt ?_ | refine W_ff ?_ | refine W_test (fun hc => ?_) (fun hc => ?_) | go_step)
    exact Body_ret2 hd ⟨by simp, by rw [if_pos H0.out]⟩
theorem Body_retcell {P : Program} {fn : Func} {R : Res} {e : Exit} {t b : Nat} {ty : TypeId} {td : TypeDesc} {cs : List Value} {w : World} {l : List (Nat × Value)} {A : Act} {g : Nat → Value} {E : TypeId} (hd : A.defers = []) (hR : R (.returned (.agg cs.toArray)) w) (hb : Blk w b E cs.length g) (hg : ∀ k, k < cs.length → cs[k]? = some (g k))
    (hu : P.underlying ty = some td) (hr : fn.results = #[.cell t ty] := by rfl) (htd : (match td with | .struct _ | .array _ _ => true | _ => false) = true := by rfl) (hi : (P.info? ty).map (·.size) = some cs.length := by kernel_rfl)
    (he : e = .ret ∨ e = .normal := by first | exact .inl rfl | exact .inr rfl) (hv : Is ((fr l A).tmps.getD t undef) (.pointer (some ⟨b, 0, none⟩)) := by go_simp; exact Is.mk _) : Body P fn R e (fr l A) w := by
  have key : ∀ x : Later w, (results fn (fr l A).tmps).run P (w.later x) = .ok (.agg cs.toArray) (w.later x) := by
    intro x
    obtain ⟨arr, h, hs, hk⟩ := hb.later (w' := w.later x) x.2
    have : arr = cs.toArray := by
      apply Array.ext
      · simpa using hs
      · intro k h1 h2
        have h3 := hk k (by omega)
        have h4 := hg k (by omega)
        rw [← h4] at h3
        simpa [h1, List.getElem?_eq_getElem (show k < cs.length by omega)] using h3
    subst this
    exact results_cell_row hr _ _ b E cs.toArray (0, 0) td hv.eq h hu htd (by simpa using hi)
  unfold Body
  rcases he with rfl | rfl <;> exact ⟨w, by rw [fr_defers, hd]; rfl, _, key, hR⟩
/-- An entry's transaction. -/
theorem txnOf_calls (e : Ent) (w : World) : Pure Try.prog 71 #[e.v] w (kp (e.id, e.num)) := by
  refine Fn_of Try.func71 rfl (Nat.le_of_ble_eq_true rfl) ?_; intro A hd hA; simp only [ix, Nat.reduceAdd]; replace hA : A.tmps.size = 8 := hA
  repeat' (first | refine X_d (fun vb hvb => ?_) | refine X_dg (fun vb hvb => ?_) | refine X_q ?_ | refine X_g ?_ | refine X_gf ?_ | refine X_niln ?_ | refine X_nil ?_ | (refine X_var (fun yn bn hn1 hn2 hn3 hn4 hn5 => ?_)) | refine W_seqk (fun K hK => ?_) | refine W_seqr ?_ | refine W_ret ?_ | refine W_skip ?_ | refine W_block ?_ | refine W_exit ?_ | (refine X_s (fun x K hK => ?_); go_simp; refine hK _ _ (Ext.alloc _ _) ?_; clear hK K; refine X_al x ?_; generalize (World.later _ x).heap.size = bn; intro yn hn1 hn2 hn3 hn4 hn5; clear x) | refine W_tt ?_ | refine W_ff ?_ | refine W_test (fun hc => ?_) (fun hc => ?_) | go_step)
  refine X_store (off := 0) (n := 2) (Blk.new hn5.out) (fun W' hM hB => ?_)
  have hE : Ext w W' := Ext.fresh (F := (· = bn)) (by simp : Ext w ((w.later _).later yn)) hM (fun i h => by subst h; have := size_later w ‹Later w›; omega)
  repeat' (first | refine X_d (fun vb hvb => ?_) | refine X_dg (fun vb hvb => ?_) | refine X_q ?_ | refine X_g ?_ | refine X_gf ?_ | refine X_niln ?_ | refine X_nil ?_ | (refine X_var (fun yn bn hn1 hn2 hn3 hn4 hn5 => ?_)) | refine W_seqk (fun K hK => ?_) | refine W_seqr ?_ | refine W_ret ?_ | refine W_skip ?_ | refine W_block ?_ | refine W_exit ?_ | (refine X_s (fun x K hK => ?_); go_simp; refine hK _ _ (Ext.alloc _ _) ?_; clear hK K; refine X_al x ?_; generalize (World.later _ x).heap.size = bn; intro yn hn1 hn2 hn3 hn4 hn5; clear x) | refine W_tt ?_ | refine W_ff ?_ | refine W_test (fun hc => ?_) (fun hc => ?_) | go_step)
  exact Body_retcell (cs := [.int .i64 e.id, .int .i64 e.num]) hd ⟨rfl, hE⟩ hB (fun k hk => by
    obtain rfl | rfl : k = 0 ∨ k = 1 := by simp at hk; omega
    · rfl
    · rfl) Try.underlying97
theorem keysTxn : Keys Try.prog 97 kp := pairs_keys (e2 := 2) Try.underlying97 Try.underlying2 (i2 := _) rfl rfl
theorem with_calls {w : World} {m b : Nat} {f : Int × Int → Option Bool} {p : Int × Int} (hm : MapIs kp vB w m f) (hb : b < w.heap.size) (c0 : w.cell? ⟨b, 0, none⟩ = some (.int .i64 p.1)) (c1 : w.cell? ⟨b, 1, none⟩ = some (.int .i64 p.2)) (hbm : b ≠ m) :
    Ret Try.prog 72 #[.map (some m), .slice (some ⟨b, 0, none⟩) 1 1] w fun v w' => v = .map (some m) ∧ Mod (· = m) w w' ∧ MapIs kp vB w' m (upd f p (some true)) := by
  refine Fn_of Try.func72 rfl (Nat.le_of_ble_eq_true rfl) ?_; intro A hd hA; simp only [ix, Nat.reduceAdd]; replace hA : A.tmps.size = 17 := hA
  repeat' (first | refine X_d (fun vb hvb => ?_) | refine X_dg (fun vb hvb => ?_) | refine X_q ?_ | refine X_g ?_ | refine X_gf ?_ | refine X_niln ?_ | refine X_nil ?_ | (refine X_var (fun yn bn hn1 hn2 hn3 hn4 hn5 => ?_)) | refine W_seqk (fun K hK => ?_) | refine W_seqr ?_ | refine W_ret ?_ | refine W_skip ?_ | refine W_block ?_ | refine W_exit ?_ | (refine X_s (fun x K hK => ?_); go_simp; refine hK _ _ (Ext.alloc _ _) ?_; clear hK K; refine X_al x ?_; generalize (World.later _ x).heap.size = bn; intro yn hn1 hn2 hn3 hn4 hn5; clear x) | refine W_tt ?_ | refine W_ff ?_ | refine W_test (fun hc => ?_) (fun hc => ?_) | go_step)
  refine W_loops [0, 7, 8, 9] (fun n vs w' => (n = 1 ∧ w' = w ∧ vs = [.map (some m), .slice (some ⟨b, 0, none⟩) 1 1, .int .i64 1, .int .i64 0]) ∨ (n = 0 ∧ Mod (· = m) w w' ∧ MapIs kp vB w' m (upd f p (some true)) ∧ vs = [.map (some m), .slice (some ⟨b, 0, none⟩) 1 1, .int .i64 1, .int .i64 1])) 1 hd hA (by decide) (.inl ⟨rfl, rfl, by simp⟩) ?_
  clear hd hA A; intro n vs B w' hd hA _ hI
  rcases hI with ⟨rfl, rfl, rfl⟩ | ⟨rfl, hM, hMI, rfl⟩
  · simp only [List.zip_cons_cons, List.zip_nil_right, List.zip_nil_left]
    repeat' (first | refine X_d (fun vb hvb => ?_) | refine X_dg (fun vb hvb => ?_) | refine X_q ?_ | refine X_g ?_ | refine X_gf ?_ | refine X_niln ?_ | refine X_nil ?_ | (refine X_var (fun yn bn hn1 hn2 hn3 hn4 hn5 => ?_)) | refine W_seqk (fun K hK => ?_) | refine W_seqr ?_ | refine W_ret ?_ | refine W_skip ?_ | refine W_block ?_ | refine W_exit ?_ | (refine X_s (fun x K hK => ?_); go_simp; refine hK _ _ (Ext.alloc _ _) ?_; clear hK K; refine X_al x ?_; generalize (World.later _ x).heap.size = bn; intro yn hn1 hn2 hn3 hn4 hn5; clear x) | refine W_tt ?_ | refine W_ff ?_ | refine W_test (fun hc => ?_) (fun hc => ?_) | go_step)
    refine X_mapset (kenc := kp) (venc := vB) (hm.later (by simp)) keysTxn Try.underlying93 p true (fun W' hM hB => ?_)
    repeat' (first | refine X_d (fun vb hvb => ?_) | refine X_dg (fun vb hvb => ?_) | refine X_q ?_ | refine X_g ?_ | refine X_gf ?_ | refine X_niln ?_ | refine X_nil ?_ | (refine X_var (fun yn bn hn1 hn2 hn3 hn4 hn5 => ?_)) | refine W_seqk (fun K hK => ?_) | refine W_seqr ?_ | refine W_ret ?_ | refine W_skip ?_ | refine W_block ?_ | refine W_exit ?_ | (refine X_s (fun x K hK => ?_); go_simp; refine hK _ _ (Ext.alloc _ _) ?_; clear hK K; refine X_al x ?_; generalize (World.later _ x).heap.size = bn; intro yn hn1 hn2 hn3 hn4 hn5; clear x) | refine W_tt ?_ | refine W_ff ?_ | refine W_test (fun hc => ?_) (fun hc => ?_) | go_step)
    refine ⟨_, _, rfl, hd, hA, 0, by omega, .inr ⟨rfl, Mod.trans yn.2 hM (fun _ _ h => h.elim) (fun _ _ h => h), hB, by simp⟩⟩
  · simp only [List.zip_cons_cons, List.zip_nil_right, List.zip_nil_left]
    repeat' (first | refine X_d (fun vb hvb => ?_) | refine X_dg (fun vb hvb => ?_) | refine X_q ?_ | refine X_g ?_ | refine X_gf ?_ | refine X_niln ?_ | refine X_nil ?_ | (refine X_var (fun yn bn hn1 hn2 hn3 hn4 hn5 => ?_)) | refine W_seqk (fun K hK => ?_) | refine W_seqr ?_ | refine W_ret ?_ | refine W_skip ?_ | refine W_block ?_ | refine W_exit ?_ | (refine X_s (fun x K hK => ?_); go_simp; refine hK _ _ (Ext.alloc _ _) ?_; clear hK K; refine X_al x ?_; generalize (World.later _ x).heap.size = bn; intro yn hn1 hn2 hn3 hn4 hn5; clear x) | refine W_tt ?_ | refine W_ff ?_ | refine W_test (fun hc => ?_) (fun hc => ?_) | go_step)
    exact Body_ret hd ⟨rfl, hM, hMI⟩
end Go.Ws
