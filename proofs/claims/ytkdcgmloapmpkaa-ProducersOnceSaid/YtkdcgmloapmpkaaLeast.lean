import Derived.Test.YtkdcgmloapmpkaaMapSeq
import Derived.Test.YtkdcgmloapmpkaaTabT
namespace Go.Ws
open Go Go.RowKit Go.Proofs
set_option maxHeartbeats 2000000
set_option maxRecDepth 100000
set_option linter.unusedVariables false
set_option linter.unusedSimpArgs false
set_option pp.deepTerms true
set_option pp.maxSteps 100000000

theorem valuesOf_calls {w : World} {m : Nat} : Ret Try.prog 79 #[.map (some m)] w fun v w' => ∃ bx, v = .func (.func 104) #[] #[.pointer (some ⟨bx, 0, none⟩)] ∧ Ext w w' ∧ w.heap.size ≤ bx ∧ bx < w'.heap.size ∧ w'.cell? ⟨bx, 0, none⟩ = some (.map (some m)) := by
  refine Fn_of Try.func79 rfl (Nat.le_of_ble_eq_true rfl) ?_; intro A hd hA; simp only [ix, Nat.reduceAdd]; replace hA : A.tmps.size = 4 := hA
  repeat' (first | refine X_d (fun vb hvb => ?_) | refine X_dg (fun vb hvb => ?_) | refine X_q ?_ | refine X_g ?_ | refine X_gf ?_ | refine X_niln ?_ | refine X_nil ?_ | (refine X_var (fun yn bn hn1 hn2 hn3 hn4 hn5 => ?_)) | refine W_seqk (fun K hK => ?_) | refine W_seqr ?_ | refine W_draw (by kernel_rfl) (by kernel_rfl) ?_ | refine W_ret ?_ | refine W_skip ?_ | refine W_block ?_ | refine W_exit ?_ | (refine X_s (fun x K hK => ?_); go_simp; refine hK _ _ (Ext.alloc _ _) ?_; clear hK K; refine X_al x ?_; generalize (World.later _ x).heap.size = bn; intro yn hn1 hn2 hn3 hn4 hn5; clear x) | refine W_tt ?_ | refine W_ff ?_ | refine W_test (fun hc => ?_) (fun hc => ?_) | go_step)
  exact Body_ret hd ⟨bn, rfl, yn.2, hn1, hn2, hn3 0⟩
theorem keysOf_calls {w : World} {m : Nat} : Ret Try.prog 90 #[.map (some m)] w fun v w' => ∃ bx, v = .func (.func 108) #[] #[.pointer (some ⟨bx, 0, none⟩)] ∧ Ext w w' ∧ w.heap.size ≤ bx ∧ bx < w'.heap.size ∧ w'.cell? ⟨bx, 0, none⟩ = some (.map (some m)) := by
  refine Fn_of Try.func90 rfl (Nat.le_of_ble_eq_true rfl) ?_; intro A hd hA; simp only [ix, Nat.reduceAdd]; replace hA : A.tmps.size = 4 := hA
  repeat' (first | refine X_d (fun vb hvb => ?_) | refine X_dg (fun vb hvb => ?_) | refine X_q ?_ | refine X_g ?_ | refine X_gf ?_ | refine X_niln ?_ | refine X_nil ?_ | (refine X_var (fun yn bn hn1 hn2 hn3 hn4 hn5 => ?_)) | refine W_seqk (fun K hK => ?_) | refine W_seqr ?_ | refine W_draw (by kernel_rfl) (by kernel_rfl) ?_ | refine W_ret ?_ | refine W_skip ?_ | refine W_block ?_ | refine W_exit ?_ | (refine X_s (fun x K hK => ?_); go_simp; refine hK _ _ (Ext.alloc _ _) ?_; clear hK K; refine X_al x ?_; generalize (World.later _ x).heap.size = bn; intro yn hn1 hn2 hn3 hn4 hn5; clear x) | refine W_tt ?_ | refine W_ff ?_ | refine W_test (fun hc => ?_) (fun hc => ?_) | go_step)
  exact Body_ret hd ⟨bn, rfl, yn.2, hn1, hn2, hn3 0⟩
theorem least_calls {w : World} {lb : Array Value} {S Pre : List Int → Prop} {Rd : Nat → Prop} (n : Int) (hseq : Iter Try.prog 104 lb (fun x : Int => #[.int .i64 x]) S Pre Rd w) (hRd : ∀ k, Rd k → k < w.heap.size) :
    Ret Try.prog 78 #[.func (.func 104) #[] lb, .int .i64 n] w fun v w' => ∃ xs, S xs ∧ v = .int .i64 (xs.foldl min n) ∧ Ext w w' := by
  refine Fn_of Try.func78 rfl (Nat.le_of_ble_eq_true rfl) ?_; intro A hd hA; simp only [ix, Nat.reduceAdd]; replace hA : A.tmps.size = 12 := hA
  repeat' (first | refine X_d (fun vb hvb => ?_) | refine X_dg (fun vb hvb => ?_) | refine X_q ?_ | refine X_g ?_ | refine X_gf ?_ | refine X_niln ?_ | refine X_nil ?_ | (refine X_var (fun yn bn hn1 hn2 hn3 hn4 hn5 => ?_)) | refine W_seqk (fun K hK => ?_) | refine W_seqr ?_ | refine W_ret ?_ | refine W_skip ?_ | refine W_block ?_ | refine W_exit ?_ | (refine X_s (fun x K hK => ?_); go_simp; refine hK _ _ (Ext.alloc _ _) ?_; clear hK K; refine X_al x ?_; generalize (World.later _ x).heap.size = bn; intro yn hn1 hn2 hn3 hn4 hn5; clear x) | refine W_tt ?_ | refine W_ff ?_ | refine W_test (fun hc => ?_) (fun hc => ?_) | go_step)
  have hbk : Blk (w.later yn) bn 3 1 (fun _ => .int .i64 n) := Blk.one hn5.out
  refine W_range (ps := [7]) (encs := fun x : Int => [.int .i64 x]) Try.func104 (by kernel_rfl) (hseq.later yn.2) (fun _ => rfl) (by go_simp; exact Is.mk _)
    (fun pre B W => B = (fun k => k = bn) ∧ Ext w W ∧ Blk W bn 3 1 (fun _ => .int .i64 (pre.foldl min n))) (fun _ _ _ _ => False) ?_ ?_ (fun k => k = bn) ⟨rfl, yn.2, hbk⟩ ?_ ?_ ?_ ?_
  · rintro pre B W W' ⟨rfl, hE, hB⟩ hM
    exact ⟨rfl, Mod.trans hE hM (fun _ _ h => h) (fun k hk h => by have := h.2; have := yn.2.size; have : w.heap.size ≤ (w.later yn).heap.size := this; omega), hB.mod hM (fun h => h.1 rfl)⟩
  · intro c pre B W W' h; exact h.elim
  · rintro k rfl
    exact ⟨hn2, fun h => by have := hRd _ h; omega⟩
  · rintro l pre B x W hl1 hl2 ⟨rfl, hE, hB⟩ hBl _
    simp only [List.zip_cons_cons, List.zip_nil_right, List.reverse_cons, List.reverse_nil, List.nil_append, List.singleton_append]
    repeat' (first | refine X_d (fun vb hvb => ?_) | refine X_dg (fun vb hvb => ?_) | refine X_q ?_ | refine X_g ?_ | refine X_gf ?_ | refine X_niln ?_ | refine X_nil ?_ | (refine X_var (fun yn bn hn1 hn2 hn3 hn4 hn5 => ?_)) | refine W_seqk (fun K hK => ?_) | refine W_seqr ?_ | refine W_ret ?_ | refine W_skip ?_ | refine W_block ?_ | refine W_exit ?_ | (refine X_s (fun x K hK => ?_); go_simp; refine hK _ _ (Ext.alloc _ _) ?_; clear hK K; refine X_al x ?_; generalize (World.later _ x).heap.size = bn; intro yn hn1 hn2 hn3 hn4 hn5; clear x) | refine W_tt ?_ | refine W_ff ?_ | refine W_test (fun hc => ?_) (fun hc => ?_) | go_step)
    refine ⟨by simp, fun W2 hM2 => ?_⟩
    have hbl := (hBl bn rfl).1
    have hB2 := hB.mod hM2 hbl
    have c0 := hB2.cell (k := 0) (by omega)
    have hlt := hB2.lt
    repeat' (first | refine X_d (fun vb hvb => ?_) | refine X_dg (fun vb hvb => ?_) | refine X_q ?_ | refine X_g ?_ | refine X_gf ?_ | refine X_niln ?_ | refine X_nil ?_ | (refine X_var (fun yn bn hn1 hn2 hn3 hn4 hn5 => ?_)) | refine W_seqk (fun K hK => ?_) | refine W_seqr ?_ | refine W_ret ?_ | refine W_skip ?_ | refine W_block ?_ | refine W_exit ?_ | (refine X_s (fun x K hK => ?_); go_simp; refine hK _ _ (Ext.alloc _ _) ?_; clear hK K; refine X_al x ?_; generalize (World.later _ x).heap.size = bn; intro yn hn1 hn2 hn3 hn4 hn5; clear x) | refine W_tt ?_ | refine W_ff ?_ | refine W_test (fun hc => ?_) (fun hc => ?_) | go_step)
    refine X_store (off := 0) hB2 (fun W3 hM3 hB3 => ?_)
    have hB4 : Blk W3 bn 3 1 (fun _ => .int .i64 ((pre ++ [x]).foldl min n)) := hB3.congr (fun k hk => by
      obtain rfl : k = 0 := by omega
      rw [List.foldl_append]
      simp only [Value.cells, put_one, if_true, List.foldl_cons, List.foldl_nil]
      rw [Int.min_def]
      congr 1
      split <;> split <;> omega)
    have hE3 : Ext w W3 := Mod.trans (Mod.trans hE hM2 (fun _ _ h => h) (fun k hk e => by subst e; have : w.heap.size ≤ (w.later yn).heap.size := yn.2.size; omega)) hM3 (fun _ _ h => h) (fun k hk e => by subst e; omega)
    repeat' (first | refine X_d (fun vb hvb => ?_) | refine X_dg (fun vb hvb => ?_) | refine X_q ?_ | refine X_g ?_ | refine X_gf ?_ | refine X_niln ?_ | refine X_nil ?_ | (refine X_var (fun yn bn hn1 hn2 hn3 hn4 hn5 => ?_)) | refine W_seqk (fun K hK => ?_) | refine W_seqr ?_ | refine W_ret ?_ | refine W_skip ?_ | refine W_block ?_ | refine W_exit ?_ | (refine X_s (fun x K hK => ?_); go_simp; refine hK _ _ (Ext.alloc _ _) ?_; clear hK K; refine X_al x ?_; generalize (World.later _ x).heap.size = bn; intro yn hn1 hn2 hn3 hn4 hn5; clear x) | refine W_tt ?_ | refine W_ff ?_ | refine W_test (fun hc => ?_) (fun hc => ?_) | go_step)
    exact ⟨_, ⟨rfl, hE3, hB4⟩, Mod.mono hM3 (fun k _ e => .inl e), fun k hk => ⟨.inl hk, by subst hk; exact hB4.lt⟩⟩
  · rintro D xs B W hD hBD hS ⟨rfl, hE, hB⟩ hDD
    have c0 := hB.cell (k := 0) (by omega)
    have hlt := hB.lt
    have hwD : w.heap.size ≤ D := Nat.le_trans yn.2.size hD
    repeat' (first | refine X_d (fun vb hvb => ?_) | refine X_dg (fun vb hvb => ?_) | refine X_q ?_ | refine X_g ?_ | refine X_gf ?_ | refine X_niln ?_ | refine X_nil ?_ | (refine X_var (fun yn bn hn1 hn2 hn3 hn4 hn5 => ?_)) | refine W_seqk (fun K hK => ?_) | refine W_seqr ?_ | refine W_ret ?_ | refine W_skip ?_ | refine W_block ?_ | refine W_exit ?_ | (refine X_s (fun x K hK => ?_); go_simp; refine hK _ _ (Ext.alloc _ _) ?_; clear hK K; refine X_al x ?_; generalize (World.later _ x).heap.size = bn; intro yn hn1 hn2 hn3 hn4 hn5; clear x) | refine W_tt ?_ | refine W_ff ?_ | refine W_test (fun hc => ?_) (fun hc => ?_) | go_step)
    exact Body_retm (by simp [hd]) hDD ⟨xs, hS, rfl, hE.putNew hwD _⟩
  · intro D c pre B W _ _ h
    exact h.elim
end Go.Ws
