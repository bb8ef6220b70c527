import Derived.Test.YtkdcgmloapmpkaaTypes
namespace Go.Ws
open Go Go.RowKit Go.Proofs
set_option maxHeartbeats 1000000
set_option maxRecDepth 100000
set_option linter.unusedVariables false
set_option linter.unusedSimpArgs false
set_option pp.deepTerms true
set_option pp.maxSteps 100000000

def markedB (l : List Ent) (id num : Int) : Bool := l.any fun e => (e.id == id) && (e.num == num) && decide (1 < e.kind)
theorem marked_calls (l : List Ent) (v : Value) (id num : Int) (w : World) (hl : RdE w v l) :
    Pure Try.prog 87 #[v, .int .i64 id, .int .i64 num] w (.bool (markedB l id num)) := by
  obtain ⟨A0, c, rfl, hc, hcm, HR⟩ := hl.ent
  clear hl
  refine Fn_of Try.func87 rfl (Nat.le_of_ble_eq_true rfl) ?_; intro A hd hA; simp only [ix, Nat.reduceAdd]; replace hA : A.tmps.size = 38 := hA
  repeat' (first | refine X_d (fun vb hvb => ?_) | refine X_dg (fun vb hvb => ?_) | refine X_q ?_ | refine X_g ?_ | refine X_gf ?_ | refine X_niln ?_ | refine X_nil ?_ | (refine X_var (fun yn bn hn1 hn2 hn3 hn4 hn5 => ?_)) | refine W_seqk (fun K hK => ?_) | refine W_seqr ?_ | refine W_draw (by kernel_rfl) (by kernel_rfl) ?_ | refine W_ret ?_ | refine W_skip ?_ | refine W_block ?_ | refine W_exit ?_ | (refine X_s (fun x K hK => ?_); go_simp; refine hK _ _ (Ext.alloc _ _) ?_; clear hK K; refine X_al x ?_; generalize (World.later _ x).heap.size = bn; intro yn hn1 hn2 hn3 hn4 hn5; clear x) | refine W_tt ?_ | refine W_ff ?_ | refine W_test (fun hc => ?_) (fun hc => ?_) | go_step)
  refine W_loops [0, 1, 2, 7] (fun n vs w' => ∃ k : Nat, w' = w ∧ k + n = l.length ∧ vs = [.slice A0 l.length c, .int .i64 id, .int .i64 num, .int .i64 k] ∧ markedB (l.take k) id num = false) l.length hd hA (by decide) ⟨0, rfl, by omega, by simp, by simp [markedB]⟩ ?_
  clear hd hA A; intro n vs B w' hd hA _ ⟨k, hw, hk, hvs, hm⟩; subst hw hvs
  simp only [List.zip_cons_cons, List.zip_nil_right, List.zip_nil_left]
  have Hm := Lib.hid hm; clear hm
  by_cases hlt : k < l.length
  · obtain ⟨e, b, o, HE, rfl, hb, c0, c1, c2, c3, c4, c5⟩ := HR.out k hlt
    repeat' (first | refine X_d (fun vb hvb => ?_) | refine X_dg (fun vb hvb => ?_) | refine X_q ?_ | refine X_g ?_ | refine X_gf ?_ | refine X_niln ?_ | refine X_nil ?_ | (refine X_var (fun yn bn hn1 hn2 hn3 hn4 hn5 => ?_)) | refine W_seqk (fun K hK => ?_) | refine W_seqr ?_ | refine W_draw (by kernel_rfl) (by kernel_rfl) ?_ | refine W_ret ?_ | refine W_skip ?_ | refine W_block ?_ | refine W_exit ?_ | (refine X_s (fun x K hK => ?_); go_simp; refine hK _ _ (Ext.alloc _ _) ?_; clear hK K; refine X_al x ?_; generalize (World.later _ x).heap.size = bn; intro yn hn1 hn2 hn3 hn4 hn5; clear x) | refine W_tt ?_ | refine W_ff ?_ | refine W_test (fun hc => ?_) (fun hc => ?_) | go_step)
    · refine Body_ret hd ⟨?_, by simp⟩
      repeat cases ‹Eqn _ _›
      simp [markedB]
      exact ⟨e, mem_of_get HE, by simpa using hc⟩
    · refine ⟨_, _, rfl, hd, hA, n - 1, by omega, k + 1, trivial, by omega, by simp, ?_⟩
      have := Hm.out
      repeat cases ‹Eqn _ _›
      unfold markedB at *
      rw [take_snoc HE, List.any_append, this]
      simpa using hc
  · repeat' (first | refine X_d (fun vb hvb => ?_) | refine X_dg (fun vb hvb => ?_) | refine X_q ?_ | refine X_g ?_ | refine X_gf ?_ | refine X_niln ?_ | refine X_nil ?_ | (refine X_var (fun yn bn hn1 hn2 hn3 hn4 hn5 => ?_)) | refine W_seqk (fun K hK => ?_) | refine W_seqr ?_ | refine W_draw (by kernel_rfl) (by kernel_rfl) ?_ | refine W_ret ?_ | refine W_skip ?_ | refine W_block ?_ | refine W_exit ?_ | (refine X_s (fun x K hK => ?_); go_simp; refine hK _ _ (Ext.alloc _ _) ?_; clear hK K; refine X_al x ?_; generalize (World.later _ x).heap.size = bn; intro yn hn1 hn2 hn3 hn4 hn5; clear x) | refine W_tt ?_ | refine W_ff ?_ | refine W_test (fun hc => ?_) (fun hc => ?_) | go_step)
    obtain rfl : k = l.length := by omega
    refine Body_ret hd ⟨?_, by simp⟩
    have := Hm.out
    rw [List.take_length] at this
    simp [this]

def openStep (l : List Ent) (id : Int) (out : List Opn) (i : Nat) (e : Ent) : List Opn :=
  if (e.id != id || e.kind != 1 || markedB l id e.num) = true then out else if (out.any fun o => o.num == e.num) = true then out else out ++ [⟨e.num, i⟩]
def opensTo (l : List Ent) (id : Int) : Nat → List Ent → List Opn → List Opn
  | _, [], out => out
  | i, e :: es, out => opensTo l id (i + 1) es (openStep l id out i e)
def opensB (l : List Ent) (id : Int) : List Opn := opensTo l id 0 l []
theorem opensTo_snoc (l : List Ent) (id : Int) (e : Ent) : ∀ (es : List Ent) (i : Nat) (out : List Opn), opensTo l id i (es ++ [e]) out = openStep l id (opensTo l id i es out) (i + es.length) e
  | [], i, out => by simp [opensTo]
  | x :: es, i, out => by
    simp only [List.cons_append, opensTo, List.length_cons]
    rw [opensTo_snoc l id e es]; congr 1; omega
theorem opensTo_len (l : List Ent) (id : Int) : ∀ (es : List Ent) (i : Nat) (out : List Opn), (opensTo l id i es out).length ≤ out.length + es.length
  | [], i, out => by simp [opensTo]
  | x :: es, i, out => by
    simp only [opensTo, List.length_cons]
    refine Nat.le_trans (opensTo_len l id es _ _) ?_
    unfold openStep
    split
    · omega
    · split
      · omega
      · simp; omega
theorem opens_calls (l : List Ent) (v : Value) (id : Int) (w : World) (hl : RdE w v l) (hn : l.length ≤ 1000000) :
    Ret Try.prog 66 #[v, .int .i64 id] w fun v' w' => Ext w w' ∧ Own Opn.cs 2 68 w' v' (opensB l id) ∧ ∀ b, v'.ownBlock = some b → w.heap.size ≤ b := by
  have hl0 := Lib.hid hl
  obtain ⟨A0, c, rfl, hc, hcm, HR⟩ := hl.ent
  clear hl
  refine Fn_of Try.func66 rfl (Nat.le_of_ble_eq_true rfl) ?_; intro A hd hA; simp only [ix, Nat.reduceAdd]; replace hA : A.tmps.size = 63 := hA
  repeat' (first | refine X_d (fun vb hvb => ?_) | refine X_dg (fun vb hvb => ?_) | refine X_q ?_ | refine X_g ?_ | refine X_gf ?_ | refine X_niln ?_ | refine X_nil ?_ | (refine X_var (fun yn bn hn1 hn2 hn3 hn4 hn5 => ?_)) | refine W_seqk (fun K hK => ?_) | refine W_seqr ?_ | refine W_draw (by kernel_rfl) (by kernel_rfl) ?_ | refine W_ret ?_ | refine W_skip ?_ | refine W_block ?_ | refine W_exit ?_ | (refine X_s (fun x K hK => ?_); go_simp; refine hK _ _ (Ext.alloc _ _) ?_; clear hK K; refine X_al x ?_; generalize (World.later _ x).heap.size = bn; intro yn hn1 hn2 hn3 hn4 hn5; clear x) | refine W_tt ?_ | refine W_ff ?_ | refine W_test (fun hc => ?_) (fun hc => ?_) | go_step)
  refine W_loops [0, 1, 5, 6] (fun n vs w' => ∃ (k : Nat) (y : Later w) (u : Value), w' = w.later y ∧ k + n = l.length ∧ vs = [.slice A0 l.length c, .int .i64 id, u, .int .i64 k] ∧ Own Opn.cs 2 68 (w.later y) u (opensTo l id 0 (l.take k) []) ∧ ∀ b, u.ownBlock = some b → w.heap.size ≤ b) l.length hd hA (by decide) ?_ ?_
  · exact ⟨0, ⟨w, Ext.refl w⟩, _, rfl, by omega, by simp, Own.nil _, by intro b hb; cases hb⟩
  clear hd hA A; intro n vs B w' hd hA _ ⟨k, y, u, hw, hk, hvs, hown, hfr⟩; subst hw hvs
  simp only [List.zip_cons_cons, List.zip_nil_right, List.zip_nil_left]
  have Ho := Lib.hid hown; clear hown
  have Hf := Lib.hid hfr; clear hfr
  by_cases hlt : k < l.length
  · obtain ⟨e, b, o, HE, rfl, hb, c0, c1, c2, c3, c4, c5⟩ := HR.out k hlt
    have hsn := take_snoc HE
    have HS : Hid (opensTo l id 0 (l.take (k + 1)) [] = openStep l id (opensTo l id 0 (l.take k) []) k e) := by
      rw [hsn, opensTo_snoc]; congr 1; simp; omega
    clear hsn
    repeat' (first | refine X_pure Try.func87 (marked_calls l _ _ _ _ (hl0.out.later (by simp))) ?_ | refine X_gpure Try.func87 (fun _ => marked_calls l _ _ _ _ (hl0.out.later (by simp))) ?_ | refine X_d (fun vb hvb => ?_) | refine X_dg (fun vb hvb => ?_) | refine X_q ?_ | refine X_g ?_ | refine X_gf ?_ | refine X_niln ?_ | refine X_nil ?_ | (refine X_var (fun yn bn hn1 hn2 hn3 hn4 hn5 => ?_)) | refine W_seqk (fun K hK => ?_) | refine W_seqr ?_ | refine W_draw (by kernel_rfl) (by kernel_rfl) ?_ | refine W_ret ?_ | refine W_skip ?_ | refine W_block ?_ | refine W_exit ?_ | (refine X_s (fun x K hK => ?_); go_simp; refine hK _ _ (Ext.alloc _ _) ?_; clear hK K; refine X_al x ?_; generalize (World.later _ x).heap.size = bn; intro yn hn1 hn2 hn3 hn4 hn5; clear x) | refine W_tt ?_ | refine W_ff ?_ | refine W_test (fun hc => ?_) (fun hc => ?_) | go_step)
    · refine ⟨_, _, rfl, hd, hA, n - 1, by omega, k + 1, y.trans yn, u, rfl, by omega, by simp, ?_, Hf.out⟩
      rw [HS.out]
      unfold openStep
      repeat cases ‹Eqn _ _›
      rw [if_pos hc]
      exact Ho.out.later yn.2
    · have HO := (Ho.out.later yn.2 : Own Opn.cs 2 68 ((w.later y).later yn) _ _)
      obtain ⟨A1, c1', hu, hc1, hcm1, HR1⟩ := (HO.rd Opn.len).opn
      have HU := Lib.hid hu; clear hu
      generalize hout : opensTo l id 0 (l.take k) [] = out at *
      have hlo : out.length ≤ 1000000 := by rw [← hout]; have := opensTo_len l id (l.take k) 0 []; simp at this; omega
      have HOUT := Lib.hid hout; clear hout
      have HO1 := Lib.hid HO; clear HO
      refine W_loops [0, 1, 5, 6, 7, 8, 9] (fun n vs w' => ∃ (j : Nat), w' = (w.later y).later yn ∧ j + n = out.length ∧ vs = [.slice (some ⟨b, o, none⟩) l.length c, .int .i64 id, u, .int .i64 k, .pointer (some ⟨bn, 0, none⟩), .bool ((out.take j).any fun x => x.num == e.num), .int .i64 j]) out.length hd hA (by decide) ⟨0, rfl, by omega, by simp⟩ ?_
      clear hd hA B; intro n2 vs B2 w' hd hA _ ⟨j, hw, hj, hvs⟩; subst hw hvs
      simp only [List.zip_cons_cons, List.zip_nil_right, List.zip_nil_left]
      have hu := HU.out; subst hu
      by_cases hlj : j < out.length
      · obtain ⟨x, b1, o1, HX, rfl, hb1, d0, d1⟩ := HR1.out j hlj
        repeat' (first | refine X_d (fun vb hvb => ?_) | refine X_dg (fun vb hvb => ?_) | refine X_q ?_ | refine X_g ?_ | refine X_gf ?_ | refine X_niln ?_ | refine X_nil ?_ | (refine X_var (fun yn bn hn1 hn2 hn3 hn4 hn5 => ?_)) | refine W_seqk (fun K hK => ?_) | refine W_seqr ?_ | refine W_draw (by kernel_rfl) (by kernel_rfl) ?_ | refine W_ret ?_ | refine W_skip ?_ | refine W_block ?_ | refine W_exit ?_ | (refine X_s (fun x K hK => ?_); go_simp; refine hK _ _ (Ext.alloc _ _) ?_; clear hK K; refine X_al x ?_; generalize (World.later _ x).heap.size = bn; intro yn hn1 hn2 hn3 hn4 hn5; clear x) | refine W_tt ?_ | refine W_ff ?_ | refine W_test (fun hc => ?_) (fun hc => ?_) | go_step)
        refine ⟨_, _, rfl, hd, hA, n2 - 1, by omega, j + 1, trivial, by omega, ?_⟩
        have := take_snoc HX
        repeat cases ‹Eqn _ _›
        simp [this]
      · obtain rfl : j = out.length := by omega
        repeat' (first | refine X_d (fun vb hvb => ?_) | refine X_dg (fun vb hvb => ?_) | refine X_q ?_ | refine X_g ?_ | refine X_gf ?_ | refine X_niln ?_ | refine X_nil ?_ | (refine X_var (fun yn bn hn1 hn2 hn3 hn4 hn5 => ?_)) | refine W_seqk (fun K hK => ?_) | refine W_seqr ?_ | refine W_draw (by kernel_rfl) (by kernel_rfl) ?_ | refine W_ret ?_ | refine W_skip ?_ | refine W_block ?_ | refine W_exit ?_ | (refine X_s (fun x K hK => ?_); go_simp; refine hK _ _ (Ext.alloc _ _) ?_; clear hK K; refine X_al x ?_; generalize (World.later _ x).heap.size = bn; intro yn hn1 hn2 hn3 hn4 hn5; clear x) | refine W_tt ?_ | refine W_ff ?_ | refine W_test (fun hc => ?_) (fun hc => ?_) | go_step)
        · refine X_push (w0 := w) (by simp) elemOpn (HO1.out.later (by simp)) Hf.out (Rd.one (x := (⟨e.num, k⟩ : Opn)) hn2 hn3 rfl) (by simp; omega) (by unfold maxLen; simp; omega) (fun y' v' hO hF _ _ => ?_)
          repeat' (first | refine X_d (fun vb hvb => ?_) | refine X_dg (fun vb hvb => ?_) | refine X_q ?_ | refine X_g ?_ | refine X_gf ?_ | refine X_niln ?_ | refine X_nil ?_ | (refine X_var (fun yn bn hn1 hn2 hn3 hn4 hn5 => ?_)) | refine W_seqk (fun K hK => ?_) | refine W_seqr ?_ | refine W_draw (by kernel_rfl) (by kernel_rfl) ?_ | refine W_ret ?_ | refine W_skip ?_ | refine W_block ?_ | refine W_exit ?_ | (refine X_s (fun x K hK => ?_); go_simp; refine hK _ _ (Ext.alloc _ _) ?_; clear hK K; refine X_al x ?_; generalize (World.later _ x).heap.size = bn; intro yn hn1 hn2 hn3 hn4 hn5; clear x) | refine W_tt ?_ | refine W_ff ?_ | refine W_test (fun hc => ?_) (fun hc => ?_) | go_step)
          refine ⟨_, _, rfl, hd, hA, n - 1, by omega, k + 1, y', v', rfl, by omega, by simp, ?_, hF⟩
          rw [HS.out]
          unfold openStep
          have hq := hc
          repeat cases ‹Eqn _ _›
          rw [if_neg (by rw [‹(e.id != id || e.kind != 1 || markedB l id e.num) = false›]; simp), if_neg (by simpa using hq)]
          exact hO
        · refine ⟨_, _, rfl, hd, hA, n - 1, by omega, k + 1, y.trans yn, .slice A1 out.length c1', rfl, by omega, by simp, ?_, Hf.out⟩
          rw [HS.out]
          unfold openStep
          have hq := hc
          repeat cases ‹Eqn _ _›
          rw [if_neg (by rw [‹(e.id != id || e.kind != 1 || markedB l id e.num) = false›]; simp), if_pos (by simpa using hq)]
          exact HO1.out
  · obtain rfl : k = l.length := by omega
    repeat' (first | refine X_d (fun vb hvb => ?_) | refine X_dg (fun vb hvb => ?_) | refine X_q ?_ | refine X_g ?_ | refine X_gf ?_ | refine X_niln ?_ | refine X_nil ?_ | (refine X_var (fun yn bn hn1 hn2 hn3 hn4 hn5 => ?_)) | refine W_seqk (fun K hK => ?_) | refine W_seqr ?_ | refine W_draw (by kernel_rfl) (by kernel_rfl) ?_ | refine W_ret ?_ | refine W_skip ?_ | refine W_block ?_ | refine W_exit ?_ | (refine X_s (fun x K hK => ?_); go_simp; refine hK _ _ (Ext.alloc _ _) ?_; clear hK K; refine X_al x ?_; generalize (World.later _ x).heap.size = bn; intro yn hn1 hn2 hn3 hn4 hn5; clear x) | refine W_tt ?_ | refine W_ff ?_ | refine W_test (fun hc => ?_) (fun hc => ?_) | go_step)
    refine Body_ret hd ⟨by simp, ?_, Hf.out⟩
    have := Ho.out
    rw [List.take_length] at this
    exact this
end Go.Ws
