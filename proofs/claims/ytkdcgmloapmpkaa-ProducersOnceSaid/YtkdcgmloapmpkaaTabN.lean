import Derived.Test.YtkdcgmloapmpkaaTabA
namespace Go.Ws
open Go Go.RowKit Go.Proofs
set_option maxHeartbeats 2000000
set_option maxRecDepth 100000
set_option linter.unusedVariables false
set_option linter.unusedSimpArgs false
set_option pp.deepTerms true
set_option pp.maxSteps 100000000

theorem MapIs.empty {κ β : Type} [DecidableEq κ] {kenc : κ → Value} {venc : β → Value} {w : World} {b : Nat} (h : w.heap[b]? = some (.map #[] 0)) : MapIs kenc venc w b (fun _ => none) :=
  ⟨[], 0, ⟨h, by simp, by simp, by simp⟩, fun k => rfl⟩
/-- Amidst New: the first k are made. -/
structure Made (w W : World) (b : Nat) (mb : Nat → Nat → Nat) (g : Nat → Value) (k : Nat) : Prop where
  b0 : w.heap.size ≤ b
  blk : Blk W b 110 22 g
  g0 : g 0 = .slice none 0 0
  g21 : g 21 = .bool true
  cells : ∀ i, i < k → g (1 + i * 5) = .int .i64 0 ∧ g (1 + i * 5 + 1) = .int .i64 0 ∧ g (1 + i * 5 + 2) = .map (some (mb i 0)) ∧ g (1 + i * 5 + 3) = .map (some (mb i 1)) ∧ g (1 + i * 5 + 4) = .map (some (mb i 2))
  m0 : ∀ i, i < k → MapIs ki ki W (mb i 0) (fun _ => none)
  m1 : ∀ i, i < k → MapIs ki ki W (mb i 1) (fun _ => none)
  m2 : ∀ i, i < k → MapIs ki vB W (mb i 2) (fun _ => none)
  inj : ∀ i j i' j', i < k → j < 3 → i' < k → j' < 3 → mb i j = mb i' j' → i = i' ∧ j = j'
  new : ∀ i j, i < k → j < 3 → w.heap.size ≤ mb i j
theorem Made.lt {w W : World} {b : Nat} {mb : Nat → Nat → Nat} {g : Nat → Value} {k : Nat} (M : Made w W b mb g k) {i j : Nat} (hi : i < k) (hj : j < 3) : mb i j < W.heap.size := by
  match j, hj with
  | 0, _ => exact (M.m0 i hi).lt
  | 1, _ => exact (M.m1 i hi).lt
  | 2, _ => exact (M.m2 i hi).lt
theorem Made.next {w W W' : World} {b m0 m1 m2 : Nat} {mb : Nat → Nat → Nat} {g : Nat → Value} {k : Nat} (M : Made w W b mb g k) (hk : k < 4) (y0 : Later W) (y1 : Later (W.later y0)) (y2 : Later ((W.later y0).later y1))
    (h0 : W.heap.size ≤ m0) (h1 : (W.later y0).heap.size ≤ m1) (h2 : ((W.later y0).later y1).heap.size ≤ m2) (l0 : m0 < (W.later y0).heap.size) (l1 : m1 < ((W.later y0).later y1).heap.size) (l2 : m2 < (((W.later y0).later y1).later y2).heap.size)
    (e0 : (W.later y0).heap[m0]? = some (.map #[] 0)) (e1 : ((W.later y0).later y1).heap[m1]? = some (.map #[] 0)) (e2 : (((W.later y0).later y1).later y2).heap[m2]? = some (.map #[] 0))
    (hM : Mod (· = b) (((W.later y0).later y1).later y2) W') (hB : Blk W' b 110 22 (put g (1 + k * 5) [.int .i64 0, .int .i64 0, .map (some m0), .map (some m1), .map (some m2)])) :
    Made w W' b (fun i j => if i = k then (if j = 0 then m0 else if j = 1 then m1 else m2) else mb i j) (put g (1 + k * 5) [.int .i64 0, .int .i64 0, .map (some m0), .map (some m1), .map (some m2)]) (k + 1) := by
  have hbW := M.blk.lt
  have s0 := y0.2.size
  have s1 := y1.2.size
  have s2 := y2.2.size
  have hE : Ext W (((W.later y0).later y1).later y2) := ext_l2 _ _ _ _
  have hM' : Mod (· = b) W W' := Mod.trans hE hM (fun _ _ h => h.elim) (fun _ _ h => h)
  have hbm : ∀ i j, i < k → j < 3 → ¬ (mb i j = b) := by
    intro i j hi hj h
    obtain ⟨cs, hc, _⟩ := M.blk
    subst h
    match j, hj with
    | 0, _ => exact not_map_cells hc (M.m0 i hi)
    | 1, _ => exact not_map_cells hc (M.m1 i hi)
    | 2, _ => exact not_map_cells hc (M.m2 i hi)
  have hs0 : (W.later y0).heap.size ≤ (W.later y0).heap.size := Nat.le_refl _
  have s0' : W.heap.size ≤ (W.later y0).heap.size := s0
  have s1' : (W.later y0).heap.size ≤ ((W.later y0).later y1).heap.size := s1
  have s2' : ((W.later y0).later y1).heap.size ≤ (((W.later y0).later y1).later y2).heap.size := s2
  have f0 : W'.heap[m0]? = some (.map #[] 0) := by
    rw [hM.block m0 (by omega) (by omega), heap_later _ y2 _ (by omega), heap_later _ y1 _ (by omega)]; exact e0
  have f1 : W'.heap[m1]? = some (.map #[] 0) := by
    rw [hM.block m1 (by omega) (by omega), heap_later _ y2 _ (by omega)]; exact e1
  have f2 : W'.heap[m2]? = some (.map #[] 0) := by
    rw [hM.block m2 (by omega) (by omega)]; exact e2
  have hw := M.b0
  refine ⟨M.b0, hB, by rw [put_out (by omega)]; exact M.g0, by rw [put_out (by simp; omega)]; exact M.g21, ?_, ?_, ?_, ?_, ?_, ?_⟩
  · intro i hi
    by_cases hik : i = k
    · subst hik
      simp only [if_true]
      exact ⟨put_in 0 (by simp) (by omega), put_in 1 (by simp) (by omega), put_in 2 (by simp) (by omega), put_in 3 (by simp) (by omega), put_in 4 (by simp) (by omega)⟩
    · simp only [hik, if_false]
      obtain ⟨a0, a1, a2, a3, a4⟩ := M.cells i (by omega)
      exact ⟨by rw [put_out (by omega)]; exact a0, by rw [put_out (by omega)]; exact a1, by rw [put_out (by omega)]; exact a2, by rw [put_out (by omega)]; exact a3, by rw [put_out (by omega)]; exact a4⟩
  · intro i hi
    by_cases hik : i = k
    · subst hik; simp only [if_true]; exact MapIs.empty f0
    · simp only [hik, if_false]; exact (M.m0 i (by omega)).mod hM' (hbm i 0 (by omega) (by omega))
  · intro i hi
    by_cases hik : i = k
    · subst hik; simp only [if_true]; exact MapIs.empty f1
    · simp only [hik, if_false]; exact (M.m1 i (by omega)).mod hM' (hbm i 1 (by omega) (by omega))
  · intro i hi
    by_cases hik : i = k
    · subst hik; simp only [if_true]; exact MapIs.empty f2
    · simp only [hik, if_false]; exact (M.m2 i (by omega)).mod hM' (hbm i 2 (by omega) (by omega))
  · intro i j i' j' hi hj hi' hj' h
    have hold : ∀ i j, i < k → j < 3 → mb i j < W.heap.size := fun i j hi hj => M.lt hi hj
    have hnew : ∀ j, j < 3 → W.heap.size ≤ (if j = 0 then m0 else if j = 1 then m1 else m2) := fun j hj => by split <;> (try split) <;> omega
    by_cases hik : i = k <;> by_cases hik' : i' = k
    · simp only [hik, hik', if_true] at h
      refine ⟨hik.trans hik'.symm, ?_⟩
      obtain rfl | rfl | rfl : j = 0 ∨ j = 1 ∨ j = 2 := by omega
      all_goals (obtain rfl | rfl | rfl : j' = 0 ∨ j' = 1 ∨ j' = 2 := by omega) <;> simp at h <;> omega
    · simp only [hik, hik', if_true, if_false] at h
      have := hold i' j' (by omega) hj'
      have := hnew j hj
      omega
    · simp only [hik, hik', if_true, if_false] at h
      have := hold i j (by omega) hj
      have := hnew j' hj'
      omega
    · simp only [hik, hik', if_false] at h
      exact M.inj i j i' j' (by omega) hj (by omega) hj' h
  · intro i j hi hj
    by_cases hik : i = k
    · simp only [hik, if_true]
      have hwW : w.heap.size ≤ W.heap.size := Nat.le_trans M.b0 (Nat.le_of_lt hbW)
      split <;> (try split) <;> omega
    · simp only [hik, if_false]; exact M.new i j (by omega) hj
theorem Made.tab {w W : World} {b : Nat} {mb : Nat → Nat → Nat} {g : Nat → Value} (M : Made w W b mb g 4) : Tab W b (fun k => w.heap.size ≤ k) [] := by
  refine ⟨.slice none 0 0, mb, g, ⟨M.blk, M.g0, M.g21, Own.nil W, fun i hi => (M.cells i hi).1, fun i hi => (M.cells i hi).2.1, fun i hi => (M.cells i hi).2.2.1, fun i hi => (M.cells i hi).2.2.2.1, fun i hi => (M.cells i hi).2.2.2.2, M.m0, M.m1, M.m2, M.inj⟩, ?_⟩
  rintro k (rfl | h | ⟨i, j, hi, hj, rfl⟩)
  · exact M.b0
  · cases h
  · exact M.new i j hi hj

theorem tabNew_calls (w : World) : Ret Try.prog 48 #[] w fun v w' => ∃ b, v = .pointer (some ⟨b, 0, none⟩) ∧ Ext w w' ∧ Tab w' b (fun k => w.heap.size ≤ k) [] := by
  refine Fn_of Try.func48 rfl (Nat.le_of_ble_eq_true rfl) ?_; intro A hd hA; simp only [ix, Nat.reduceAdd]; replace hA : A.tmps.size = 19 := hA
  repeat' (first | refine X_d (fun vb hvb => ?_) | refine X_dg (fun vb hvb => ?_) | refine X_q ?_ | refine X_g ?_ | refine X_gf ?_ | refine X_niln ?_ | refine X_nil ?_ | (refine X_var (fun yn bn hn1 hn2 hn3 hn4 hn5 => ?_)) | refine W_seqk (fun K hK => ?_) | refine W_seqr ?_ | refine W_ret ?_ | refine W_skip ?_ | refine W_block ?_ | refine W_exit ?_ | (refine X_s (fun x K hK => ?_); go_simp; refine hK _ _ (Ext.alloc _ _) ?_; clear hK K; refine X_al x ?_; generalize (World.later _ x).heap.size = bn; intro yn hn1 hn2 hn3 hn4 hn5; clear x) | refine W_tt ?_ | refine W_ff ?_ | refine W_test (fun hc => ?_) (fun hc => ?_) | go_step)
  refine W_loops [1, 5] (fun n vs w' => ∃ (k : Nat) (y : Later w) (mb : Nat → Nat → Nat) (g : Nat → Value), w' = w.later y ∧ k + n = 4 ∧ vs = [.pointer (some ⟨bn, 0, none⟩), .int .i64 k] ∧ Made w (w.later y) bn mb g k) 4 hd hA (by decide) ?_ ?_
  · refine ⟨0, yn, fun _ _ => 0, _, rfl, by omega, by simp, ⟨hn1, Blk.new hn5.out, rfl, rfl, by intro i hi; omega, by intro i hi; omega, by intro i hi; omega, by intro i hi; omega, by intro i j i' j' hi; omega, by intro i j hi; omega⟩⟩
  clear hn3 hn4 hn5 hd hA A; intro n vs B w' hd hA _ ⟨k, y, mb, g, hw, hk, hvs, hM⟩; subst hw hvs
  simp only [List.zip_cons_cons, List.zip_nil_right, List.zip_nil_left]
  have HM := Lib.hid hM
  have hblt := hM.blk.lt
  clear hM
  by_cases hlt : k < 4
  · have hki : (k : Int) < 4 := by omega
    repeat' (first | refine X_d (fun vb hvb => ?_) | refine X_dg (fun vb hvb => ?_) | refine X_q ?_ | refine X_g ?_ | refine X_gf ?_ | refine X_niln ?_ | refine X_nil ?_ | (refine X_var (fun yn bn hn1 hn2 hn3 hn4 hn5 => ?_)) | refine W_seqk (fun K hK => ?_) | refine W_seqr ?_ | refine W_ret ?_ | refine W_skip ?_ | refine W_block ?_ | refine W_exit ?_ | (refine X_s (fun x K hK => ?_); go_simp; refine hK _ _ (Ext.alloc _ _) ?_; clear hK K; refine X_al x ?_; generalize (World.later _ x).heap.size = bn; intro yn hn1 hn2 hn3 hn4 hn5; clear x) | refine W_tt ?_ | refine W_ff ?_ | refine W_test (fun hc => ?_) (fun hc => ?_) | go_step)
    refine X_s (fun x K hK => ?_); go_simp; refine hK _ _ (Ext.alloc _ _) ?_; clear hK K; refine X_alm x ?_; generalize (World.later _ x).heap.size = m0; intro y0 h0 l0 e0; clear x
    refine X_s (fun x K hK => ?_); go_simp; refine hK _ _ (Ext.alloc _ _) ?_; clear hK K; refine X_alm x ?_; generalize (World.later _ x).heap.size = m1; intro y1 h1 l1 e1; clear x
    refine X_s (fun x K hK => ?_); go_simp; refine hK _ _ (Ext.alloc _ _) ?_; clear hK K; refine X_alm x ?_; generalize (World.later _ x).heap.size = m2; intro y2 h2 l2 e2; clear x
    repeat' (first | refine X_d (fun vb hvb => ?_) | refine X_dg (fun vb hvb => ?_) | refine X_q ?_ | refine X_g ?_ | refine X_gf ?_ | refine X_niln ?_ | refine X_nil ?_ | (refine X_var (fun yn bn hn1 hn2 hn3 hn4 hn5 => ?_)) | refine W_seqk (fun K hK => ?_) | refine W_seqr ?_ | refine W_ret ?_ | refine W_skip ?_ | refine W_block ?_ | refine W_exit ?_ | (refine X_s (fun x K hK => ?_); go_simp; refine hK _ _ (Ext.alloc _ _) ?_; clear hK K; refine X_al x ?_; generalize (World.later _ x).heap.size = bn; intro yn hn1 hn2 hn3 hn4 hn5; clear x) | refine W_tt ?_ | refine W_ff ?_ | refine W_test (fun hc => ?_) (fun hc => ?_) | go_step)
    refine X_store (off := 1 + k * 5) (HM.out.blk.later (by simp)) (fun W' hMM hB => ?_)
    have HN := Lib.hid (HM.out.next hlt y0 y1 y2 h0 h1 h2 l0 l1 l2 e0.out e1.out e2.out hMM hB)
    have hE : Ext w W' := Ext.fresh (F := fun k => k = bn) (by simp : Ext w ((((w.later y).later y0).later y1).later y2)) hMM (fun i h => by subst h; exact hn1)
    obtain ⟨y', rfl⟩ := hE.get
    repeat' (first | refine X_d (fun vb hvb => ?_) | refine X_dg (fun vb hvb => ?_) | refine X_q ?_ | refine X_g ?_ | refine X_gf ?_ | refine X_niln ?_ | refine X_nil ?_ | (refine X_var (fun yn bn hn1 hn2 hn3 hn4 hn5 => ?_)) | refine W_seqk (fun K hK => ?_) | refine W_seqr ?_ | refine W_ret ?_ | refine W_skip ?_ | refine W_block ?_ | refine W_exit ?_ | (refine X_s (fun x K hK => ?_); go_simp; refine hK _ _ (Ext.alloc _ _) ?_; clear hK K; refine X_al x ?_; generalize (World.later _ x).heap.size = bn; intro yn hn1 hn2 hn3 hn4 hn5; clear x) | refine W_tt ?_ | refine W_ff ?_ | refine W_test (fun hc => ?_) (fun hc => ?_) | go_step)
    exact ⟨_, _, rfl, hd, hA, n - 1, by omega, k + 1, y', _, _, rfl, by omega, by simp, HN.out⟩
  · obtain rfl : k = 4 := by omega
    repeat' (first | refine X_d (fun vb hvb => ?_) | refine X_dg (fun vb hvb => ?_) | refine X_q ?_ | refine X_g ?_ | refine X_gf ?_ | refine X_niln ?_ | refine X_nil ?_ | (refine X_var (fun yn bn hn1 hn2 hn3 hn4 hn5 => ?_)) | refine W_seqk (fun K hK => ?_) | refine W_seqr ?_ | refine W_ret ?_ | refine W_skip ?_ | refine W_block ?_ | refine W_exit ?_ | (refine X_s (fun x K hK => ?_); go_simp; refine hK _ _ (Ext.alloc _ _) ?_; clear hK K; refine X_al x ?_; generalize (World.later _ x).heap.size = bn; intro yn hn1 hn2 hn3 hn4 hn5; clear x) | refine W_tt ?_ | refine W_ff ?_ | refine W_test (fun hc => ?_) (fun hc => ?_) | go_step)
    exact Body_ret hd ⟨_, rfl, y.2, HM.out.tab⟩
end Go.Ws
