import Derived.Test.YtkdcgmloapmpkaaRef08A
namespace Go.Ws
open Go Go.RowKit Go.Proofs
set_option maxHeartbeats 2000000
set_option maxRecDepth 100000
set_option linter.unusedVariables false
set_option linter.unusedSimpArgs false
set_option pp.deepTerms true
set_option pp.maxSteps 100000000

theorem in_calls (a b n : Int) (w : World) :
    Pure Try.prog 112 #[.int .i64 n, .int .i64 a, .int .i64 b] w (.bool (inB n a b)) := by
  refine Fn_of Try.func112 rfl (Nat.le_of_ble_eq_true rfl) ?_; intro A hd hA; simp only [ix, Nat.reduceAdd]; replace hA : A.tmps.size = 15 := hA
  repeat' (first | refine X_d (fun vb hvb => ?_) | refine X_dg (fun vb hvb => ?_) | refine X_q ?_ | refine X_g ?_ | refine X_gf ?_ | refine X_niln ?_ | refine X_nil ?_ | (refine X_var (fun yn bn hn1 hn2 hn3 hn4 hn5 => ?_)) | refine W_seqk (fun K hK => ?_) | refine W_seqr ?_ | refine W_draw (by kernel_rfl) (by kernel_rfl) ?_ | refine W_ret ?_ | refine W_skip ?_ | refine W_block ?_ | refine W_exit ?_ | (refine X_s (fun x K hK => ?_); go_simp; refine hK _ _ (Ext.alloc _ _) ?_; clear hK K; refine X_al x ?_; generalize (World.later _ x).heap.size = bn; intro yn hn1 hn2 hn3 hn4 hn5; clear x) | refine W_tt ?_ | refine W_ff ?_ | refine W_test (fun hc => ?_) (fun hc => ?_) | go_step)
  refine Body_ret hd ⟨?_, Ext.refl _⟩
  repeat cases ‹Eqn _ _›
  rfl
theorem wrap_eq (n : Int) : (n == wrap64 (wrap32 n)) = inB n (-2147483648) 2147483647 := by
  rw [Bool.eq_iff_iff]
  simp only [inB, wrap64, wrap32, beq_iff_eq, Bool.and_eq_true, decide_eq_true_eq]
  omega
theorem wcheck_calls (e : Ent) (w : World) : Pure Try.prog 94 #[e.v] w (.int .i64 (if rightB e then 0 else 2)) := by
  refine Fn_of Try.func94 rfl (Nat.le_of_ble_eq_true rfl) ?_; intro A hd hA; simp only [ix, Nat.reduceAdd]; replace hA : A.tmps.size = 77 := hA
  repeat' (first | refine X_pure Try.func112 (in_calls _ _ _ _) ?_ | refine X_gpure Try.func112 (fun _ => in_calls _ _ _ _) ?_ | refine X_d (fun vb hvb => ?_) | refine X_dg (fun vb hvb => ?_) | refine X_q ?_ | refine X_g ?_ | refine X_gf ?_ | refine X_niln ?_ | refine X_nil ?_ | (refine X_var (fun yn bn hn1 hn2 hn3 hn4 hn5 => ?_)) | refine W_seqk (fun K hK => ?_) | refine W_seqr ?_ | refine W_draw (by kernel_rfl) (by kernel_rfl) ?_ | refine W_ret ?_ | refine W_skip ?_ | refine W_block ?_ | refine W_exit ?_ | (refine X_s (fun x K hK => ?_); go_simp; refine hK _ _ (Ext.alloc _ _) ?_; clear hK K; refine X_al x ?_; generalize (World.later _ x).heap.size = bn; intro yn hn1 hn2 hn3 hn4 hn5; clear x) | refine W_tt ?_ | refine W_ff ?_ | refine W_test (fun hc => ?_) (fun hc => ?_) | go_step)
  all_goals (clear hn1 hn2 hn3 hn4 hn5; try simp only [wrap_eq] at *)
  all_goals (first
    | (have hr : rightB e = false := by
         rw [← Bool.not_eq_true]
         intro hr
         repeat cases ‹Eqn _ _›
         simp [rightB, inB] at * <;> omega
       simp only [hr]
       exact Body_ret hd ⟨rfl, by simp⟩)
    | (have hr : rightB e = true := by
         repeat cases ‹Eqn _ _›
         simp [rightB, inB] at * <;> omega
       simp only [hr]
       exact Body_ret hd ⟨rfl, by simp⟩))

/-- What is read of a table. -/
structure Seen (w : World) (b : Nat) (u : Value) (l : List Ent) : Prop where
  lt : b < w.heap.size
  made : w.cell? ⟨b, 21, none⟩ = some (.bool true)
  log : w.cell? ⟨b, 0, none⟩ = some u
  rd : RdE w u l
theorem Seen.later {w w' : World} {b : Nat} {u : Value} {l : List Ent} (h : Seen w b u l) (hE : Ext w w') : Seen w' b u l := by
  obtain ⟨x, rfl⟩ := hE.get
  exact ⟨by simp [h.lt], by simp [h.lt, h.made], by simp [h.lt, h.log], h.rd.later hE⟩
theorem none_calls {b : Nat} {w : World} (hb : b < w.heap.size) (hm : w.cell? ⟨b, 21, none⟩ = some (.bool true)) : Pure Try.prog 74 #[.pointer (some ⟨b, 0, none⟩)] w (.bool false) := by
  refine Fn_of Try.func74 rfl (Nat.le_of_ble_eq_true rfl) ?_; intro A hd hA; simp only [ix, Nat.reduceAdd]; replace hA : A.tmps.size = 12 := hA
  repeat' (first | refine X_d (fun vb hvb => ?_) | refine X_dg (fun vb hvb => ?_) | refine X_q ?_ | refine X_g ?_ | refine X_gf ?_ | refine X_niln ?_ | refine X_nil ?_ | (refine X_var (fun yn bn hn1 hn2 hn3 hn4 hn5 => ?_)) | refine W_seqk (fun K hK => ?_) | refine W_seqr ?_ | refine W_draw (by kernel_rfl) (by kernel_rfl) ?_ | refine W_ret ?_ | refine W_skip ?_ | refine W_block ?_ | refine W_exit ?_ | (refine X_s (fun x K hK => ?_); go_simp; refine hK _ _ (Ext.alloc _ _) ?_; clear hK K; refine X_al x ?_; generalize (World.later _ x).heap.size = bn; intro yn hn1 hn2 hn3 hn4 hn5; clear x) | refine W_tt ?_ | refine W_ff ?_ | refine W_test (fun hc => ?_) (fun hc => ?_) | go_step)
  cases hvb
  exact Body_ret hd ⟨rfl, by simp⟩
theorem may_calls {b : Nat} {w : World} {u : Value} {l : List Ent} (h : Seen w b u l) (e : Ent) : Pure Try.prog 76 #[.pointer (some ⟨b, 0, none⟩), e.v] w (.int .i64 (appendNo l e)) := by
  obtain ⟨hb, hm, hl, hr⟩ := h
  have T2 : rightB e = false → appendNo l e = 2 := fun h => by simp [appendNo, h]
  have T3 : rightB e = true → 4096 ≤ l.length → appendNo l e = 3 := fun h h1 => by simp [appendNo, h, h1]
  have T4 : rightB e = true → l.length < 4096 → lastEp l e = true → appendNo l e = 180 := fun h h1 h2 => by simp [appendNo, h, h2]; omega
  have T0 : rightB e = true → l.length < 4096 → lastEp l e = false → appendNo l e = 0 := fun h h1 h2 => by simp [appendNo, h, h2]; omega
  have hl0 := Lib.hid hr
  obtain ⟨A0, c, rfl, hc, hcm, HR⟩ := hr.ent
  clear hr
  have HLEN : ∃ n, Hid (l.length = n) := ⟨_, rfl⟩
  obtain ⟨n, hln⟩ := HLEN
  rw [hln.out] at hc hl
  clear hl0
  have hrb : Hid (rightB e = true ∨ rightB e = false) := by cases rightB e <;> simp [Lib.hid]
  rcases n with _ | m
  · refine Fn_of Try.func76 rfl (Nat.le_of_ble_eq_true rfl) ?_; intro A hd hA; simp only [ix, Nat.reduceAdd]; replace hA : A.tmps.size = 44 := hA
    repeat' (first | refine X_pure Try.func74 (none_calls (b := b) (by simp [hb]) (by simp [hb, hm])) ?_ | refine X_gpure Try.func74 (fun _ => none_calls (b := b) (by simp [hb]) (by simp [hb, hm])) ?_ | refine X_pure Try.func94 (wcheck_calls e _) ?_ | refine X_gpure Try.func94 (fun _ => wcheck_calls e _) ?_ | refine X_d (fun vb hvb => ?_) | refine X_dg (fun vb hvb => ?_) | refine X_q ?_ | refine X_g ?_ | refine X_gf ?_ | refine X_niln ?_ | refine X_nil ?_ | (refine X_var (fun yn bn hn1 hn2 hn3 hn4 hn5 => ?_)) | refine W_seqk (fun K hK => ?_) | refine W_seqr ?_ | refine W_draw (by kernel_rfl) (by kernel_rfl) ?_ | refine W_ret ?_ | refine W_skip ?_ | refine W_block ?_ | refine W_exit ?_ | (refine X_s (fun x K hK => ?_); go_simp; refine hK _ _ (Ext.alloc _ _) ?_; clear hK K; refine X_al x ?_; generalize (World.later _ x).heap.size = bn; intro yn hn1 hn2 hn3 hn4 hn5; clear x) | refine W_tt ?_ | refine W_ff ?_ | refine W_test (fun hc => ?_) (fun hc => ?_) | go_step)
    · rw [T2 (by cases hq : rightB e <;> simp [hq] at hc ⊢)]
      exact Body_ret hd ⟨rfl, by simp⟩
    · have hcr : rightB e = true := by cases hq : rightB e <;> simp [hq] at hc ⊢
      cases hvb
      repeat' (first | refine X_d (fun vb hvb => ?_) | refine X_dg (fun vb hvb => ?_) | refine X_q ?_ | refine X_g ?_ | refine X_gf ?_ | refine X_niln ?_ | refine X_nil ?_ | (refine X_var (fun yn bn hn1 hn2 hn3 hn4 hn5 => ?_)) | refine W_seqk (fun K hK => ?_) | refine W_seqr ?_ | refine W_ret ?_ | refine W_skip ?_ | refine W_block ?_ | refine W_exit ?_ | (refine X_s (fun x K hK => ?_); go_simp; refine hK _ _ (Ext.alloc _ _) ?_; clear hK K; refine X_al x ?_; generalize (World.later _ x).heap.size = bn; intro yn hn1 hn2 hn3 hn4 hn5; clear x) | refine W_tt ?_ | refine W_ff ?_ | refine W_test (fun hc => ?_) (fun hc => ?_) | go_step)
      rw [T0 hcr (by rw [hln.out]; omega) (by
        have : l = [] := List.eq_nil_of_length_eq_zero hln.out
        subst this; rfl)]
      exact Body_ret hd ⟨rfl, by simp⟩
  · obtain ⟨x, b1, o, HE, rfl, hb1, c0, c1, c2, c3, c4, c5⟩ := HR.out m (by rw [hln.out]; omega)
    have HLE := lastEp_get (e := e) HE.out (by rw [hln.out])
    refine Fn_of Try.func76 rfl (Nat.le_of_ble_eq_true rfl) ?_; intro A hd hA; simp only [ix, Nat.reduceAdd]; replace hA : A.tmps.size = 44 := hA
    repeat' (first | refine X_pure Try.func74 (none_calls (b := b) (by simp [hb]) (by simp [hb, hm])) ?_ | refine X_gpure Try.func74 (fun _ => none_calls (b := b) (by simp [hb]) (by simp [hb, hm])) ?_ | refine X_pure Try.func94 (wcheck_calls e _) ?_ | refine X_gpure Try.func94 (fun _ => wcheck_calls e _) ?_ | refine X_d (fun vb hvb => ?_) | refine X_dg (fun vb hvb => ?_) | refine X_q ?_ | refine X_g ?_ | refine X_gf ?_ | refine X_niln ?_ | refine X_nil ?_ | (refine X_var (fun yn bn hn1 hn2 hn3 hn4 hn5 => ?_)) | refine W_seqk (fun K hK => ?_) | refine W_seqr ?_ | refine W_draw (by kernel_rfl) (by kernel_rfl) ?_ | refine W_ret ?_ | refine W_skip ?_ | refine W_block ?_ | refine W_exit ?_ | (refine X_s (fun x K hK => ?_); go_simp; refine hK _ _ (Ext.alloc _ _) ?_; clear hK K; refine X_al x ?_; generalize (World.later _ x).heap.size = bn; intro yn hn1 hn2 hn3 hn4 hn5; clear x) | refine W_tt ?_ | refine W_ff ?_ | refine W_test (fun hc => ?_) (fun hc => ?_) | go_step)
    · rw [T2 (by cases hq : rightB e <;> simp [hq] at hc ⊢)]
      exact Body_ret hd ⟨rfl, by simp⟩
    · have hcr : rightB e = true := by have := ‹((if rightB e = true then (0 : Int) else 2) != 0) = false›; cases hq : rightB e <;> simp [hq] at this ⊢
      rw [T3 hcr (by rw [hln.out]; simp at hc; omega)]
      exact Body_ret hd ⟨rfl, by simp⟩
    · have hcr : rightB e = true := by have := ‹((if rightB e = true then (0 : Int) else 2) != 0) = false›; cases hq : rightB e <;> simp [hq] at this ⊢
      cases hvb
      have hmm : (m : Int) < m + 1 := by omega
      have hl4 : l.length < 4096 := by rw [hln.out]; simp at hc; omega
      repeat' (first | refine X_d (fun vb hvb => ?_) | refine X_dg (fun vb hvb => ?_) | refine X_q ?_ | refine X_g ?_ | refine X_gf ?_ | refine X_niln ?_ | refine X_nil ?_ | (refine X_var (fun yn bn hn1 hn2 hn3 hn4 hn5 => ?_)) | refine W_seqk (fun K hK => ?_) | refine W_seqr ?_ | refine W_ret ?_ | refine W_skip ?_ | refine W_block ?_ | refine W_exit ?_ | (refine X_s (fun x K hK => ?_); go_simp; refine hK _ _ (Ext.alloc _ _) ?_; clear hK K; refine X_al x ?_; generalize (World.later _ x).heap.size = bn; intro yn hn1 hn2 hn3 hn4 hn5; clear x) | refine W_tt ?_ | refine W_ff ?_ | refine W_test (fun hc => ?_) (fun hc => ?_) | go_step)
      · rw [T4 hcr hl4 (by rw [HLE]; exact hc)]
        exact Body_ret hd ⟨rfl, by simp⟩
      · rw [T0 hcr hl4 (by rw [HLE]; exact hc)]
        exact Body_ret hd ⟨rfl, by simp⟩
end Go.Ws
