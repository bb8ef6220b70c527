import Derived.Test.YtkdcgmloapmpkaaVisD
namespace Go.Ws
open Go Go.RowKit Go.Proofs
set_option maxHeartbeats 2000000
set_option maxRecDepth 100000
set_option linter.unusedVariables false
set_option linter.unusedSimpArgs false
set_option pp.deepTerms true
set_option pp.maxSteps 100000000

theorem firstOf_nonneg {l : List Ent} {i num f : Int} (h : firstOf l i num = some f) : 0 ≤ f := by
  unfold firstOf at h
  cases hx : l.findIdx? (dataB i num) with
  | none => rw [hx] at h; cases h
  | some n => rw [hx] at h; simp at h; omega
theorem stTo_nonneg (l : List Ent) : ∀ k, 0 ≤ stTo l k
  | 0 => by simp [stTo]
  | k + 1 => by
    have ih := stTo_nonneg l k
    rw [stTo, minF_eq]
    rcases foldl_min_mem ((opensB l k).map (·.first)) (stTo l k) with h | h
    · rw [h]; exact ih
    · obtain ⟨o, ho, e⟩ := List.mem_map.1 h
      rw [← e]
      exact firstOf_nonneg ((mem_opensB l k o).1 ho).2
theorem stableB_nonneg (l : List Ent) : 0 ≤ stableB l := stTo_nonneg l 4
theorem collect_calls {w : World} {gf : FuncId} {fn : Func} {lb : Array Value} {S : List Int → Prop} {Rb : Nat → Prop} {N : Nat} (hgf : Try.prog.funcs[gf]? = some fn) (hcall : callable fn = true) (hseq : Iter Try.prog gf lb (fun x : Int => #[.int .i64 x]) S (fun xs => xs.length ≤ N) Rb w) (hRd : ∀ k, Rb k → k < w.heap.size) (hN : N ≤ 1000000) :
    Ret Try.prog 64 #[.func (.func gf) #[] lb] w fun v w' => ∃ xs, S xs ∧ Ext w w' ∧ OwnI w' v xs ∧ ∀ b, v.ownBlock = some b → w.heap.size ≤ b := by
  refine Fn_of Try.func64 rfl (Nat.le_of_ble_eq_true rfl) ?_; intro A hd hA; simp only [ix, Nat.reduceAdd]; replace hA : A.tmps.size = 5 := hA
  repeat' (first | refine X_d (fun vb hvb => ?_) | refine X_dg (fun vb hvb => ?_) | refine X_q ?_ | refine X_g ?_ | refine X_gf ?_ | refine X_niln ?_ | refine X_nil ?_ | (refine X_var (fun yn bn hn1 hn2 hn3 hn4 hn5 => ?_)) | refine W_seqk (fun K hK => ?_) | refine W_seqr ?_ | refine W_ret ?_ | refine W_skip ?_ | refine W_block ?_ | refine W_exit ?_ | (refine X_s (fun x K hK => ?_); go_simp; refine hK _ _ (Ext.alloc _ _) ?_; clear hK K; refine X_al x ?_; generalize (World.later _ x).heap.size = bn; intro yn hn1 hn2 hn3 hn4 hn5; clear x) | refine W_tt ?_ | refine W_ff ?_ | refine W_test (fun hc => ?_) (fun hc => ?_) | go_step)
  refine X_ret Try.func84 (appendSeq_calls hgf hcall hseq hRd hN) (fun v' w' hR => ?_)
  have HR := Lib.hid hR
  clear hR
  repeat' (first | refine X_d (fun vb hvb => ?_) | refine X_dg (fun vb hvb => ?_) | refine X_q ?_ | refine X_g ?_ | refine X_gf ?_ | refine X_niln ?_ | refine X_nil ?_ | (refine X_var (fun yn bn hn1 hn2 hn3 hn4 hn5 => ?_)) | refine W_seqk (fun K hK => ?_) | refine W_seqr ?_ | refine W_ret ?_ | refine W_skip ?_ | refine W_block ?_ | refine W_exit ?_ | (refine X_s (fun x K hK => ?_); go_simp; refine hK _ _ (Ext.alloc _ _) ?_; clear hK K; refine X_al x ?_; generalize (World.later _ x).heap.size = bn; intro yn hn1 hn2 hn3 hn4 hn5; clear x) | refine W_tt ?_ | refine W_ff ?_ | refine W_test (fun hc => ?_) (fun hc => ?_) | go_step)
  exact Body_ret hd HR.out
theorem visView_calls (l : List Ent) (v : Value) (n : Int) (w : World) (hl : RdE w v l) (hln : l.length ≤ 1000000) : Ret Try.prog 20 #[v, .int .i64 n] w fun v' w' => Ext w w' ∧ (ofNo l ≠ 0 → v' = .tuple #[.slice none 0 0, .int .i64 2]) ∧
    (ofNo l = 0 → (n < 0 ∨ (l.length : Int) < n) → v' = .tuple #[.slice none 0 0, .int .i64 4]) ∧
    (ofNo l = 0 → ¬ (n < 0 ∨ (l.length : Int) < n) → ∃ u, v' = .tuple #[u, .int .i64 0] ∧ OwnI w' u (viewL (l.take n.toNat)) ∧ ∀ b, u.ownBlock = some b → w.heap.size ≤ b) := by
  have hl0 := Lib.hid hl
  obtain ⟨A0, c, rfl, hc, hcm, HR⟩ := hl.ent
  clear hl HR
  refine Fn_of Try.func20 rfl (Nat.le_of_ble_eq_true rfl) ?_; intro A hd hA; simp only [ix, Nat.reduceAdd]; replace hA : A.tmps.size = 24 := hA
  repeat' (first | refine X_d (fun vb hvb => ?_) | refine X_dg (fun vb hvb => ?_) | refine X_q ?_ | refine X_g ?_ | refine X_gf ?_ | refine X_niln ?_ | refine X_nil ?_ | (refine X_var (fun yn bn hn1 hn2 hn3 hn4 hn5 => ?_)) | refine W_seqk (fun K hK => ?_) | refine W_seqr ?_ | refine W_ret ?_ | refine W_skip ?_ | refine W_block ?_ | refine W_exit ?_ | (refine X_s (fun x K hK => ?_); go_simp; refine hK _ _ (Ext.alloc _ _) ?_; clear hK K; refine X_al x ?_; generalize (World.later _ x).heap.size = bn; intro yn hn1 hn2 hn3 hn4 hn5; clear x) | refine W_tt ?_ | refine W_ff ?_ | refine W_test (fun hc => ?_) (fun hc => ?_) | go_step)
  refine X_ret Try.func63 (first_calls l _ n _ hl0.out) (fun v' w' hR => ?_)
  obtain ⟨hE', h1, h2, h3⟩ := hR
  obtain ⟨y', rfl⟩ := hE'.get
  clear hE'
  by_cases h0 : ofNo l = 0
  · by_cases hn : n < 0 ∨ (l.length : Int) < n
    · have hv := h2 h0 hn
      subst hv
      clear h1 h2 h3
      have H0 := Lib.hid h0
      have HN := Lib.hid hn
      clear h0 hn
      repeat' (first | refine X_d (fun vb hvb => ?_) | refine X_dg (fun vb hvb => ?_) | refine X_q ?_ | refine X_g ?_ | refine X_gf ?_ | refine X_niln ?_ | refine X_nil ?_ | (refine X_var (fun yn bn hn1 hn2 hn3 hn4 hn5 => ?_)) | refine W_seqk (fun K hK => ?_) | refine W_seqr ?_ | refine W_ret ?_ | refine W_skip ?_ | refine W_block ?_ | refine W_exit ?_ | (refine X_s (fun x K hK => ?_); go_simp; refine hK _ _ (Ext.alloc _ _) ?_; clear hK K; refine X_al x ?_; generalize (World.later _ x).heap.size = bn; intro yn hn1 hn2 hn3 hn4 hn5; clear x) | refine W_tt ?_ | refine W_ff ?_ | refine W_test (fun hc => ?_) (fun hc => ?_) | go_step)
      exact Body_ret2 hd ⟨by simp, fun h => absurd H0.out h, fun _ _ => rfl, fun _ h => absurd HN.out h⟩
    · obtain ⟨b, rfl, hT⟩ := h3 h0 hn
      clear h1 h2 h3
      obtain ⟨N, rfl⟩ : ∃ N : Nat, n = N := ⟨n.toNat, by omega⟩
      have hNl : N ≤ l.length := by omega
      have hNi : (N : Int) ≤ l.length := by omega
      have hNc : (N : Int) ≤ c := by omega
      have hN0 : (0 : Int) ≤ N := by omega
      simp only [Int.toNat_natCast] at hT
      have H0 := Lib.hid h0
      have HN := Lib.hid hn
      have HT := Lib.hid hT
      have hS0 := Lib.hid (stableB_nonneg (l.take N))
      have hSl := Lib.hid (stableB_le (l.take N))
      have hlt : (l.take N).length = N := by simp; omega
      clear h0 hn hT
      repeat' (first | refine X_d (fun vb hvb => ?_) | refine X_dg (fun vb hvb => ?_) | refine X_q ?_ | refine X_g ?_ | refine X_gf ?_ | refine X_niln ?_ | refine X_nil ?_ | (refine X_var (fun yn bn hn1 hn2 hn3 hn4 hn5 => ?_)) | refine W_seqk (fun K hK => ?_) | refine W_seqr ?_ | refine W_ret ?_ | refine W_skip ?_ | refine W_block ?_ | refine W_exit ?_ | (refine X_s (fun x K hK => ?_); go_simp; refine hK _ _ (Ext.alloc _ _) ?_; clear hK K; refine X_al x ?_; generalize (World.later _ x).heap.size = bn; intro yn hn1 hn2 hn3 hn4 hn5; clear x) | refine W_tt ?_ | refine W_ff ?_ | refine W_test (fun hc => ?_) (fun hc => ?_) | go_step)
      refine W_drawσ [(0, 0), (1, 0), (2, 0), (3, 0), (4, 1), (5, 2), (6, 2), (7, 0), (8, 0)] (by kernel_rfl) (by kernel_rfl) ?_
      simp only [List.map_cons, List.map_nil, List.getD_cons_zero, List.getD_cons_succ]
      repeat' (first | refine X_d (fun vb hvb => ?_) | refine X_dg (fun vb hvb => ?_) | refine X_q ?_ | refine X_g ?_ | refine X_gf ?_ | refine X_niln ?_ | refine X_nil ?_ | (refine X_var (fun yn bn hn1 hn2 hn3 hn4 hn5 => ?_)) | refine W_seqk (fun K hK => ?_) | refine W_seqr ?_ | refine W_ret ?_ | refine W_skip ?_ | refine W_block ?_ | refine W_exit ?_ | (refine X_s (fun x K hK => ?_); go_simp; refine hK _ _ (Ext.alloc _ _) ?_; clear hK K; refine X_al x ?_; generalize (World.later _ x).heap.size = bn; intro yn hn1 hn2 hn3 hn4 hn5; clear x) | refine W_tt ?_ | refine W_ff ?_ | refine W_test (fun hc => ?_) (fun hc => ?_) | go_step)
      refine X_pure1 Try.func53 (fun x => tabStable_calls (HT.out.later x.2) (ofNo_take H0.out N)) ?_
      generalize hst : stableB (l.take N) = st at *
      obtain ⟨sn, rfl⟩ : ∃ sn : Nat, st = sn := ⟨st.toNat, by have := hS0.out; omega⟩
      have hsn : sn ≤ N := by have := hSl.out; omega
      have HST := Lib.hid hst
      clear hst hS0 hSl
      have hlN : RdE (w.later y') (.slice A0 N c) (l.take N) := (hl0.out.later y'.2).take N hNl
      refine X_ret Try.func65 (view_calls (l.take N) (.slice A0 N c) sn (w.later y') hlN) (fun v' w' hR => ?_)
      obtain ⟨lb, rfl, hE2, hV⟩ := hR
      have hlN2 := hlN.later hE2
      clear hlN
      have HVI := Lib.hid (view_iter (s := sn) hlN2 (by omega) hV)
      clear hV hlN2
      refine X_ret Try.func64 (collect_calls (N := N) Try.func86 (by kernel_rfl) (hlt ▸ HVI.out) (fun k h => h) (by omega)) (fun v' w'' hR => ?_)
      obtain ⟨xs, hxs, hE3, hO, hf⟩ := hR
      have HX := Lib.hid hxs
      have HO := Lib.hid hO
      have HF := Lib.hid hf
      clear hxs hO hf
      have hEE : Ext w w'' := Ext.trans y'.2 (Ext.trans hE2 hE3)
      have hsz : w.heap.size ≤ w'.heap.size := (Ext.trans y'.2 hE2).size
      repeat' (first | refine X_d (fun vb hvb => ?_) | refine X_dg (fun vb hvb => ?_) | refine X_q ?_ | refine X_g ?_ | refine X_gf ?_ | refine X_niln ?_ | refine X_nil ?_ | (refine X_var (fun yn bn hn1 hn2 hn3 hn4 hn5 => ?_)) | refine W_seqk (fun K hK => ?_) | refine W_seqr ?_ | refine W_ret ?_ | refine W_skip ?_ | refine W_block ?_ | refine W_exit ?_ | (refine X_s (fun x K hK => ?_); go_simp; refine hK _ _ (Ext.alloc _ _) ?_; clear hK K; refine X_al x ?_; generalize (World.later _ x).heap.size = bn; intro yn hn1 hn2 hn3 hn4 hn5; clear x) | refine W_tt ?_ | refine W_ff ?_ | refine W_test (fun hc => ?_) (fun hc => ?_) | go_step)
      exact Body_ret2 hd ⟨hEE, fun h => absurd H0.out h, fun _ h => absurd h HN.out, fun _ _ => ⟨v', rfl, by rw [viewL, Int.toNat_natCast, HST.out, Int.toNat_natCast, ← HX.out]; exact HO.out, fun b hb => Nat.le_trans hsz (HF.out b hb)⟩⟩
  · have hv := h1 h0
    subst hv
    clear h1 h2 h3
    have H0 := Lib.hid h0
    clear h0
    repeat' (first | refine X_d (fun vb hvb => ?_) | refine X_dg (fun vb hvb => ?_) | refine X_q ?_ | refine X_g ?_ | refine X_gf ?_ | refine X_niln ?_ | refine X_nil ?_ | (refine X_var (fun yn bn hn1 hn2 hn3 hn4 hn5 => ?_)) | refine W_seqk (fun K hK => ?_) | refine W_seqr ?_ | refine W_ret ?_ | refine W_skip ?_ | refine W_block ?_ | refine W_exit ?_ | (refine X_s (fun x K hK => ?_); go_simp; refine hK _ _ (Ext.alloc _ _) ?_; clear hK K; refine X_al x ?_; generalize (World.later _ x).heap.size = bn; intro yn hn1 hn2 hn3 hn4 hn5; clear x) | refine W_tt ?_ | refine W_ff ?_ | refine W_test (fun hc => ?_) (fun hc => ?_) | go_step)
    exact Body_ret2 hd ⟨by simp, fun _ => rfl, fun h => absurd h H0.out, fun h => absurd h H0.out⟩
end Go.Ws
