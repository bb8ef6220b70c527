import Derived.Test.YtkdcgmloapmpkaaRefW
namespace Go.Ws
open Go Go.RowKit Go.Proofs
set_option maxHeartbeats 2000000
set_option maxRecDepth 100000
set_option linter.unusedVariables false
set_option linter.unusedSimpArgs false
set_option pp.deepTerms true
set_option pp.maxSteps 100000000

/-- Behind Append: what the writer says. -/
def wrNo (H N M : Int) (O : Bool) (e : Ent) : Int :=
  if 1 < e.kind then (if e.num ≤ M then 183 else if e.num < H then 181 else if O = true then 181 else 0)
  else if e.num ≤ M then 181 else if e.num < H then 181 else if O = true then 182
  else if e.num = H then (if e.seq < N then 183 else if N < e.seq then 184 else 0)
  else (if e.seq < 0 then 183 else if 0 < e.seq then 184 else 0)
theorem wrNo_cases {H N M : Int} {O : Bool} {e : Ent} {r : Int} (h : wrNo H N M O e = r) :
    (1 < e.kind ∧ e.num ≤ M ∧ r = 183) ∨ (1 < e.kind ∧ ¬ e.num ≤ M ∧ e.num < H ∧ r = 181) ∨ (1 < e.kind ∧ ¬ e.num ≤ M ∧ ¬ e.num < H ∧ O = true ∧ r = 181) ∨ (1 < e.kind ∧ ¬ e.num ≤ M ∧ ¬ e.num < H ∧ O = false ∧ r = 0) ∨
    (¬ 1 < e.kind ∧ e.num ≤ M ∧ r = 181) ∨ (¬ 1 < e.kind ∧ ¬ e.num ≤ M ∧ e.num < H ∧ r = 181) ∨ (¬ 1 < e.kind ∧ ¬ e.num ≤ M ∧ ¬ e.num < H ∧ O = true ∧ r = 182) ∨
    (¬ 1 < e.kind ∧ ¬ e.num ≤ M ∧ ¬ e.num < H ∧ O = false ∧ e.num = H ∧ e.seq < N ∧ r = 183) ∨ (¬ 1 < e.kind ∧ ¬ e.num ≤ M ∧ ¬ e.num < H ∧ O = false ∧ e.num = H ∧ ¬ e.seq < N ∧ N < e.seq ∧ r = 184) ∨ (¬ 1 < e.kind ∧ ¬ e.num ≤ M ∧ ¬ e.num < H ∧ O = false ∧ e.num = H ∧ ¬ e.seq < N ∧ ¬ N < e.seq ∧ r = 0) ∨
    (¬ 1 < e.kind ∧ ¬ e.num ≤ M ∧ ¬ e.num < H ∧ O = false ∧ e.num ≠ H ∧ e.seq < 0 ∧ r = 183) ∨ (¬ 1 < e.kind ∧ ¬ e.num ≤ M ∧ ¬ e.num < H ∧ O = false ∧ e.num ≠ H ∧ ¬ e.seq < 0 ∧ 0 < e.seq ∧ r = 184) ∨ (¬ 1 < e.kind ∧ ¬ e.num ≤ M ∧ ¬ e.num < H ∧ O = false ∧ e.num ≠ H ∧ ¬ e.seq < 0 ∧ ¬ 0 < e.seq ∧ r = 0) := by
  subst h
  unfold wrNo
  by_cases h1 : 1 < e.kind
  · by_cases h2 : e.num ≤ M
    · exact .inl ⟨h1, h2, by rw [if_pos h1, if_pos h2]⟩
    · by_cases h3 : e.num < H
      · exact .inr (.inl ⟨h1, h2, h3, by rw [if_pos h1, if_neg h2, if_pos h3]⟩)
      · rcases Bool.eq_false_or_eq_true O with hO | hO
        · exact .inr (.inr (.inl ⟨h1, h2, h3, hO, by rw [if_pos h1, if_neg h2, if_neg h3, if_pos hO]⟩))
        · exact .inr (.inr (.inr (.inl ⟨h1, h2, h3, hO, by rw [if_pos h1, if_neg h2, if_neg h3, if_neg (by simp [hO])]⟩)))
  · by_cases h2 : e.num ≤ M
    · exact .inr (.inr (.inr (.inr (.inl ⟨h1, h2, by rw [if_neg h1, if_pos h2]⟩))))
    · by_cases h3 : e.num < H
      · exact .inr (.inr (.inr (.inr (.inr (.inl ⟨h1, h2, h3, by rw [if_neg h1, if_neg h2, if_pos h3]⟩)))))
      · rcases Bool.eq_false_or_eq_true O with hO | hO
        · exact .inr (.inr (.inr (.inr (.inr (.inr (.inl ⟨h1, h2, h3, hO, by rw [if_neg h1, if_neg h2, if_neg h3, if_pos hO]⟩))))))
        · by_cases h4 : e.num = H
          · by_cases h5 : e.seq < N
            · exact .inr (.inr (.inr (.inr (.inr (.inr (.inr (.inl ⟨h1, h2, h3, hO, h4, h5, by rw [if_neg h1, if_neg h2, if_neg h3, if_neg (by simp [hO]), if_pos h4, if_pos h5]⟩)))))))
            · by_cases h6 : N < e.seq
              · exact .inr (.inr (.inr (.inr (.inr (.inr (.inr (.inr (.inl ⟨h1, h2, h3, hO, h4, h5, h6, by rw [if_neg h1, if_neg h2, if_neg h3, if_neg (by simp [hO]), if_pos h4, if_neg h5, if_pos h6]⟩))))))))
              · exact .inr (.inr (.inr (.inr (.inr (.inr (.inr (.inr (.inr (.inl ⟨h1, h2, h3, hO, h4, h5, h6, by rw [if_neg h1, if_neg h2, if_neg h3, if_neg (by simp [hO]), if_pos h4, if_neg h5, if_neg h6]⟩)))))))))
          · by_cases h7 : e.seq < 0
            · exact .inr (.inr (.inr (.inr (.inr (.inr (.inr (.inr (.inr (.inr (.inl ⟨h1, h2, h3, hO, h4, h7, by rw [if_neg h1, if_neg h2, if_neg h3, if_neg (by simp [hO]), if_neg h4, if_pos h7]⟩))))))))))
            · by_cases h8 : 0 < e.seq
              · exact .inr (.inr (.inr (.inr (.inr (.inr (.inr (.inr (.inr (.inr (.inr (.inl ⟨h1, h2, h3, hO, h4, h7, h8, by rw [if_neg h1, if_neg h2, if_neg h3, if_neg (by simp [hO]), if_neg h4, if_neg h7, if_pos h8]⟩)))))))))))
              · exact .inr (.inr (.inr (.inr (.inr (.inr (.inr (.inr (.inr (.inr (.inr (.inr (⟨h1, h2, h3, hO, h4, h7, h8, by rw [if_neg h1, if_neg h2, if_neg h3, if_neg (by simp [hO]), if_neg h4, if_neg h7, if_neg h8]⟩))))))))))))
/-- The document's Check. -/
def checkNo (l : List Ent) (e : Ent) : Int :=
  if appendNo l e ≠ 0 then appendNo l e else if e.id < 0 then 0
  else wrNo (highB l e.id) (nextB l e.id (highB l e.id)) (markB l e.id) (otherB (opensB l e.id) e.num) e
theorem rcheck_calls (l : List Ent) (v : Value) (e : Ent) (w : World) (hl : RdE w v l) (hn : l.length ≤ 1000000) (hr : ∀ e ∈ l, rightB e = true) :
    Pure Try.prog 57 #[v, e.v] w (.int .i64 (checkNo l e)) := by
  have hl0 := Lib.hid hl
  have HRT := Lib.hid hr
  obtain ⟨A0, c, rfl, hc, hcm, HR⟩ := hl.ent
  clear hl hr HR
  by_cases hno : appendNo l e = 0
  · by_cases hid : e.id < 0
    · have hck : checkNo l e = 0 := by unfold checkNo; rw [if_neg (by simpa using hno), if_pos hid]
      rw [hck]
      refine Fn_of Try.func57 rfl (Nat.le_of_ble_eq_true rfl) ?_; intro A hd hA; simp only [ix, Nat.reduceAdd]; replace hA : A.tmps.size = 77 := hA
      repeat' (first | refine X_gt ?_ | refine X_q ?_ | refine X_g ?_ | refine X_gf ?_ | refine X_niln ?_ | refine X_nil ?_ | (refine X_var (fun yn bn hn1 hn2 hn3 hn4 hn5 => ?_)) | refine W_seqk (fun K hK => ?_) | refine W_seqr ?_ | refine W_ret ?_ | refine W_skip ?_ | refine W_block ?_ | refine W_exit ?_ | (refine X_s (fun x K hK => ?_); go_simp; refine hK _ _ (Ext.alloc _ _) ?_; clear hK K; refine X_al x ?_; generalize (World.later _ x).heap.size = bn; intro yn hn1 hn2 hn3 hn4 hn5; clear x) | refine W_tt ?_ | refine W_ff ?_ | refine W_test (fun hc => ?_) (fun hc => ?_) | go_step)
      refine X_ret Try.func55 (append_calls l _ e _ (hl0.out.later (by simp))) (fun r w1 hR => ?_)
      obtain ⟨u, rfl, hE1, hU⟩ := hR
      rw [hno] at hU ⊢
      obtain ⟨y1, rfl⟩ := hE1.get
      obtain ⟨A9, n9, c9, rfl⟩ := slice_of1 hU
      clear hU hE1
      repeat' (first | refine X_gt ?_ | refine X_q ?_ | refine X_g ?_ | refine X_gf ?_ | refine X_niln ?_ | refine X_nil ?_ | (refine X_var (fun yn bn hn1 hn2 hn3 hn4 hn5 => ?_)) | refine W_seqk (fun K hK => ?_) | refine W_seqr ?_ | refine W_ret ?_ | refine W_skip ?_ | refine W_block ?_ | refine W_exit ?_ | (refine X_s (fun x K hK => ?_); go_simp; refine hK _ _ (Ext.alloc _ _) ?_; clear hK K; refine X_al x ?_; generalize (World.later _ x).heap.size = bn; intro yn hn1 hn2 hn3 hn4 hn5; clear x) | refine W_tt ?_ | refine W_ff ?_ | refine W_test (fun hc => ?_) (fun hc => ?_) | go_step)
      exact Body_ret hd ⟨rfl, by simp⟩
    · have hck : checkNo l e = wrNo (highB l e.id) (nextB l e.id (highB l e.id)) (markB l e.id) (otherB (opensB l e.id) e.num) e := by unfold checkNo; rw [if_neg (by simpa using hno), if_neg hid]
      rw [hck]
      generalize hH : highB l e.id = H at *
      generalize hMk : markB l e.id = M at *
      generalize hNx : nextB l e.id H = N at *
      generalize hO : otherB (opensB l e.id) e.num = O at *
      have hOO := Lib.hid hO
      have hW := Lib.hid (show highB l e.id = H ∧ markB l e.id = M ∧ nextB l e.id H = N from ⟨hH, hMk, hNx⟩)
      have hno0 := Lib.hid hno
      generalize hr : wrNo H N M O e = r
      have hcs := wrNo_cases hr
      clear hck hH hMk hNx hO hno hr
      rcases hcs with ⟨h1, h2, rfl⟩ | ⟨h1, h2, h3, rfl⟩ | ⟨h1, h2, h3, rfl, rfl⟩ | ⟨h1, h2, h3, rfl, rfl⟩ | ⟨h1, h2, rfl⟩ | ⟨h1, h2, h3, rfl⟩ | ⟨h1, h2, h3, rfl, rfl⟩ | ⟨h1, h2, h3, rfl, rfl, h5, rfl⟩ | ⟨h1, h2, h3, rfl, rfl, h5, h6, rfl⟩ | ⟨h1, h2, h3, rfl, rfl, h5, h6, rfl⟩ | ⟨h1, h2, h3, rfl, h4, h5, rfl⟩ | ⟨h1, h2, h3, rfl, h4, h5, h6, rfl⟩ | ⟨h1, h2, h3, rfl, h4, h5, h6, rfl⟩
      all_goals (
        (try replace h4 := beq_false_of_ne h4)
        refine Fn_of Try.func57 rfl (Nat.le_of_ble_eq_true rfl) ?_; intro A hd hA; simp only [ix, Nat.reduceAdd]; replace hA : A.tmps.size = 77 := hA
        repeat' (first | refine X_gt ?_ | refine X_q ?_ | refine X_g ?_ | refine X_gf ?_ | refine X_niln ?_ | refine X_nil ?_ | (refine X_var (fun yn bn hn1 hn2 hn3 hn4 hn5 => ?_)) | refine W_seqk (fun K hK => ?_) | refine W_seqr ?_ | refine W_ret ?_ | refine W_skip ?_ | refine W_block ?_ | refine W_exit ?_ | (refine X_s (fun x K hK => ?_); go_simp; refine hK _ _ (Ext.alloc _ _) ?_; clear hK K; refine X_al x ?_; generalize (World.later _ x).heap.size = bn; intro yn hn1 hn2 hn3 hn4 hn5; clear x) | refine W_tt ?_ | refine W_ff ?_ | refine W_test (fun hc => ?_) (fun hc => ?_) | go_step)
        refine X_ret Try.func55 (append_calls l _ e _ (hl0.out.later (by simp))) (fun r w1 hR => ?_)
        obtain ⟨u, rfl, hE1, hU⟩ := hR
        rw [hno0.out] at hU ⊢
        obtain ⟨y1, rfl⟩ := hE1.get
        obtain ⟨A9, n9, c9, rfl⟩ := slice_of1 hU
        clear hU hE1
        rename Nat => be
        repeat' (first | refine X_gt ?_ | refine X_q ?_ | refine X_g ?_ | refine X_gf ?_ | refine X_niln ?_ | refine X_nil ?_ | (refine X_var (fun yn bn hn1 hn2 hn3 hn4 hn5 => ?_)) | refine W_seqk (fun K hK => ?_) | refine W_seqr ?_ | refine W_ret ?_ | refine W_skip ?_ | refine W_block ?_ | refine W_exit ?_ | (refine X_s (fun x K hK => ?_); go_simp; refine hK _ _ (Ext.alloc _ _) ?_; clear hK K; refine X_al x ?_; generalize (World.later _ x).heap.size = bn; intro yn hn1 hn2 hn3 hn4 hn5; clear x) | refine W_tt ?_ | refine W_ff ?_ | refine W_test (fun hc => ?_) (fun hc => ?_) | go_step)
        refine X_ret Try.func47 (rwriter_calls l _ e.id _ (hl0.out.later (by simp)) hn HRT.out) (fun r w2 hR => ?_)
        obtain ⟨u, rfl, hE2, hU⟩ := hR
        obtain ⟨y2, rfl⟩ := hE2.get
        have hU0 := Lib.hid hU
        obtain ⟨A8, n8, c8, rfl⟩ := slice_of1 hU
        clear hU hE2
        rw [hW.out.1, hW.out.2.1, hW.out.2.2]
        repeat' (first | refine X_pure Try.func81 (hOO.out ▸ rother_calls (opensB l e.id) _ _ _ _ _ _ (hU0.out.later (by simp))) ?_ | refine X_gpure Try.func81 (fun _ => hOO.out ▸ rother_calls (opensB l e.id) _ _ _ _ _ _ (hU0.out.later (by simp))) ?_ | (refine X_gf2 ?_) | refine X_gt ?_ | refine X_q ?_ | refine X_g ?_ | refine X_gf ?_ | refine X_niln ?_ | refine X_nil ?_ | (refine X_var (fun yn bn hn1 hn2 hn3 hn4 hn5 => ?_)) | refine W_seqk (fun K hK => ?_) | refine W_seqr ?_ | refine W_ret ?_ | refine W_skip ?_ | refine W_block ?_ | refine W_exit ?_ | (refine X_s (fun x K hK => ?_); go_simp; refine hK _ _ (Ext.alloc _ _) ?_; clear hK K; refine X_al x ?_; generalize (World.later _ x).heap.size = bn; intro yn hn1 hn2 hn3 hn4 hn5; clear x) | refine W_tt ?_ | refine W_ff ?_ | refine W_test (fun hc => ?_) (fun hc => ?_) | go_step)
        exact Body_ret hd ⟨rfl, by simp⟩)
  · have hck : checkNo l e = appendNo l e := by unfold checkNo; rw [if_pos hno]
    rw [hck]
    generalize hx : appendNo l e = no at *
    refine Fn_of Try.func57 rfl (Nat.le_of_ble_eq_true rfl) ?_; intro A hd hA; simp only [ix, Nat.reduceAdd]; replace hA : A.tmps.size = 77 := hA
    repeat' (first | refine X_gt ?_ | refine X_q ?_ | refine X_g ?_ | refine X_gf ?_ | refine X_niln ?_ | refine X_nil ?_ | (refine X_var (fun yn bn hn1 hn2 hn3 hn4 hn5 => ?_)) | refine W_seqk (fun K hK => ?_) | refine W_seqr ?_ | refine W_ret ?_ | refine W_skip ?_ | refine W_block ?_ | refine W_exit ?_ | (refine X_s (fun x K hK => ?_); go_simp; refine hK _ _ (Ext.alloc _ _) ?_; clear hK K; refine X_al x ?_; generalize (World.later _ x).heap.size = bn; intro yn hn1 hn2 hn3 hn4 hn5; clear x) | refine W_tt ?_ | refine W_ff ?_ | refine W_test (fun hc => ?_) (fun hc => ?_) | go_step)
    refine X_ret Try.func55 (append_calls l _ e _ (hl0.out.later (by simp))) (fun r w1 hR => ?_)
    obtain ⟨u, rfl, hE1, hU⟩ := hR
    rw [hx] at hU ⊢
    obtain ⟨y1, rfl⟩ := hE1.get
    obtain ⟨A9, n9, c9, rfl⟩ := slice_of1 hU
    clear hU hE1
    repeat' (first | refine X_gt ?_ | refine X_q ?_ | refine X_g ?_ | refine X_gf ?_ | refine X_niln ?_ | refine X_nil ?_ | (refine X_var (fun yn bn hn1 hn2 hn3 hn4 hn5 => ?_)) | refine W_seqk (fun K hK => ?_) | refine W_seqr ?_ | refine W_ret ?_ | refine W_skip ?_ | refine W_block ?_ | refine W_exit ?_ | (refine X_s (fun x K hK => ?_); go_simp; refine hK _ _ (Ext.alloc _ _) ?_; clear hK K; refine X_al x ?_; generalize (World.later _ x).heap.size = bn; intro yn hn1 hn2 hn3 hn4 hn5; clear x) | refine W_tt ?_ | refine W_ff ?_ | refine W_test (fun hc => ?_) (fun hc => ?_) | go_step)
    exact Body_ret hd ⟨rfl, by simp⟩
end Go.Ws
