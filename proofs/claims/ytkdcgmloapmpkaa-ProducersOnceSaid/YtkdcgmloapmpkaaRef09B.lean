import Derived.Test.YtkdcgmloapmpkaaRef09
namespace Go.Ws
open Go Go.RowKit Go.Proofs
set_option maxHeartbeats 1000000
set_option maxRecDepth 100000
set_option linter.unusedVariables false
set_option linter.unusedSimpArgs false
set_option pp.deepTerms true
set_option pp.maxSteps 100000000

def rightFrom : List Ent → List Ent → Bool
  | _, [] => true
  | log, e :: es => decide (appendNo log e = 0) && rightFrom (log ++ [e]) es
def rightL (l : List Ent) : Bool := rightFrom [] l
theorem drop_get {α : Type} {l : List α} {k : Nat} {e : α} (h : l[k]? = some e) : l.drop k = e :: l.drop (k + 1) := by
  obtain ⟨hk, he⟩ := List.getElem?_eq_some_iff.1 h
  rw [List.drop_eq_getElem_cons hk, he]
theorem right9_calls (l : List Ent) (v : Value) (w : World) (hl : RdE w v l) : Pure Try.prog 23 #[v] w (.bool (rightL l)) := by
  obtain ⟨A0, c, rfl, hc, hcm, HR⟩ := hl.ent
  clear hl
  refine Fn_of Try.func23 rfl (Nat.le_of_ble_eq_true rfl) ?_; intro A hd hA; simp only [ix, Nat.reduceAdd]; replace hA : A.tmps.size = 25 := hA
  repeat' (first | refine X_d (fun vb hvb => ?_) | refine X_dg (fun vb hvb => ?_) | refine X_q ?_ | refine X_g ?_ | refine X_gf ?_ | refine X_niln ?_ | refine X_nil ?_ | (refine X_var (fun yn bn hn1 hn2 hn3 hn4 hn5 => ?_)) | refine W_seqk (fun K hK => ?_) | refine W_seqr ?_ | refine W_draw (by kernel_rfl) (by kernel_rfl) ?_ | refine W_ret ?_ | refine W_skip ?_ | refine W_block ?_ | refine W_exit ?_ | (refine X_s (fun x K hK => ?_); go_simp; refine hK _ _ (Ext.alloc _ _) ?_; clear hK K; refine X_al x ?_; generalize (World.later _ x).heap.size = bn; intro yn hn1 hn2 hn3 hn4 hn5; clear x) | refine W_tt ?_ | refine W_ff ?_ | refine W_test (fun hc => ?_) (fun hc => ?_) | go_step)
  refine W_loops [0, 3, 4] (fun n vs w' => ∃ (k : Nat) (y : Later w) (u : Value), w' = w.later y ∧ k + n = l.length ∧ vs = [.slice A0 l.length c, u, .int .i64 k] ∧ RdE (w.later y) u (l.take k) ∧ rightL l = rightFrom (l.take k) (l.drop k)) l.length hd hA (by decide) ?_ ?_
  · exact ⟨0, ⟨w, Ext.refl w⟩, _, rfl, by omega, by simp, Rd.nil _, rfl⟩
  clear hd hA A; intro n vs B w' hd hA _ ⟨k, y, u, hw, hk, hvs, hR, hm⟩; subst hw hvs
  simp only [List.zip_cons_cons, List.zip_nil_right, List.zip_nil_left]
  have Hm := Lib.hid hm; clear hm
  have HU := Lib.hid hR; clear hR
  by_cases hlt : k < l.length
  · obtain ⟨e, b, o, HE, rfl, hb, c0, c1, c2, c3, c4, c5⟩ := HR.out k hlt
    have hrf := Hm.out
    rw [drop_get HE.out, rightFrom] at hrf
    have Hrf := Lib.hid hrf; clear hrf
    repeat' (first | (refine X_ret Try.func55 (append_calls (l.take k) u e _ HU.out) (fun v' w' hR => ?_); obtain ⟨u', rfl, hE', hR'⟩ := hR; obtain ⟨y', rfl⟩ := hE'.get; have HR' := Lib.hid hR'; clear hR' hE') | refine X_d (fun vb hvb => ?_) | refine X_dg (fun vb hvb => ?_) | refine X_q ?_ | refine X_g ?_ | refine X_gf ?_ | refine X_niln ?_ | refine X_nil ?_ | (refine X_var (fun yn bn hn1 hn2 hn3 hn4 hn5 => ?_)) | refine W_seqk (fun K hK => ?_) | refine W_seqr ?_ | refine W_draw (by kernel_rfl) (by kernel_rfl) ?_ | refine W_ret ?_ | refine W_skip ?_ | refine W_block ?_ | refine W_exit ?_ | (refine X_s (fun x K hK => ?_); go_simp; refine hK _ _ (Ext.alloc _ _) ?_; clear hK K; refine X_al x ?_; generalize (World.later _ x).heap.size = bn; intro yn hn1 hn2 hn3 hn4 hn5; clear x) | refine W_tt ?_ | refine W_ff ?_ | refine W_test (fun hc => ?_) (fun hc => ?_) | go_step)
    · refine Body_ret hd ⟨congrArg Value.bool ?_, by simp⟩
      rw [Hrf.out]
      simp at hc
      simp [hc]
    · have hno : appendNo (l.take k) e = 0 := by simpa using hc
      refine ⟨_, _, rfl, hd, hA, n - 1, by omega, k + 1, y.trans y', u', rfl, by omega, by simp, ?_, ?_⟩
      · have := HR'.out
        rw [if_pos hno, ← take_snoc HE.out] at this
        exact this
      · rw [Hrf.out, take_snoc HE.out]
        simp [hno]
  · repeat' (first | refine X_d (fun vb hvb => ?_) | refine X_dg (fun vb hvb => ?_) | refine X_q ?_ | refine X_g ?_ | refine X_gf ?_ | refine X_niln ?_ | refine X_nil ?_ | (refine X_var (fun yn bn hn1 hn2 hn3 hn4 hn5 => ?_)) | refine W_seqk (fun K hK => ?_) | refine W_seqr ?_ | refine W_draw (by kernel_rfl) (by kernel_rfl) ?_ | refine W_ret ?_ | refine W_skip ?_ | refine W_block ?_ | refine W_exit ?_ | (refine X_s (fun x K hK => ?_); go_simp; refine hK _ _ (Ext.alloc _ _) ?_; clear hK K; refine X_al x ?_; generalize (World.later _ x).heap.size = bn; intro yn hn1 hn2 hn3 hn4 hn5; clear x) | refine W_tt ?_ | refine W_ff ?_ | refine W_test (fun hc => ?_) (fun hc => ?_) | go_step)
    obtain rfl : k = l.length := by omega
    refine Body_ret hd ⟨congrArg Value.bool ?_, by simp⟩
    have := Hm.out
    rw [this, List.drop_length]; rfl

def minF (n : Int) (os : List Opn) : Int := os.foldl (fun n o => min n o.first) n
def stTo (l : List Ent) : Nat → Int
  | 0 => l.length
  | k + 1 => minF (stTo l k) (opensB l k)
def stableB (l : List Ent) : Int := stTo l 4
theorem minF_snoc (n : Int) (os : List Opn) (o : Opn) : minF n (os ++ [o]) = min (minF n os) o.first := by simp [minF]
theorem opensB_len (l : List Ent) (id : Int) : (opensB l id).length ≤ l.length := by
  have := opensTo_len l id l 0 []
  simpa [opensB] using this
theorem stable8_calls (l : List Ent) (v : Value) (w : World) (hl : RdE w v l) (hn : l.length ≤ 1000000) : Pure Try.prog 27 #[v] w (.int .i64 (stableB l)) := by
  have hl0 := Lib.hid hl
  obtain ⟨A0, c, rfl, hc, hcm, HR⟩ := hl.ent
  clear hl
  refine Fn_of Try.func27 rfl (Nat.le_of_ble_eq_true rfl) ?_; intro A hd hA; simp only [ix, Nat.reduceAdd]; replace hA : A.tmps.size = 30 := hA
  repeat' (first | refine X_d (fun vb hvb => ?_) | refine X_dg (fun vb hvb => ?_) | refine X_q ?_ | refine X_g ?_ | refine X_gf ?_ | refine X_niln ?_ | refine X_nil ?_ | (refine X_var (fun yn bn hn1 hn2 hn3 hn4 hn5 => ?_)) | refine W_seqk (fun K hK => ?_) | refine W_seqr ?_ | refine W_draw (by kernel_rfl) (by kernel_rfl) ?_ | refine W_ret ?_ | refine W_skip ?_ | refine W_block ?_ | refine W_exit ?_ | (refine X_s (fun x K hK => ?_); go_simp; refine hK _ _ (Ext.alloc _ _) ?_; clear hK K; refine X_al x ?_; generalize (World.later _ x).heap.size = bn; intro yn hn1 hn2 hn3 hn4 hn5; clear x) | refine W_tt ?_ | refine W_ff ?_ | refine W_test (fun hc => ?_) (fun hc => ?_) | go_step)
  refine W_loops [0, 3, 4] (fun n vs w' => ∃ (k : Nat) (y : Later w), w' = w.later y ∧ k + n = 4 ∧ vs = [.slice A0 l.length c, .int .i64 (stTo l k), .int .i64 k]) 4 hd hA (by decide) ?_ ?_
  · exact ⟨0, ⟨w, Ext.refl w⟩, rfl, by omega, by simp [stTo]⟩
  clear hd hA A; intro n vs B w' hd hA _ ⟨k, y, hw, hk, hvs⟩; subst hw hvs
  simp only [List.zip_cons_cons, List.zip_nil_right, List.zip_nil_left]
  by_cases hlt : k < 4
  · have hki : (k : Int) < 4 := by omega
    repeat' (first | (refine X_ret Try.func66 (opens_calls l _ k _ (hl0.out.later (by simp)) hn) (fun v' w' hR => ?_); obtain ⟨hE', hO', -⟩ := hR; obtain ⟨y', rfl⟩ := hE'.get; have hR' := hO'.rd Opn.len; clear hE' hO'; obtain ⟨A1, c1, rfl, hc1, hcm1, HR1⟩ := hR'.opn; clear hR') | refine X_d (fun vb hvb => ?_) | refine X_dg (fun vb hvb => ?_) | refine X_q ?_ | refine X_g ?_ | refine X_gf ?_ | refine X_niln ?_ | refine X_nil ?_ | (refine X_var (fun yn bn hn1 hn2 hn3 hn4 hn5 => ?_)) | refine W_seqk (fun K hK => ?_) | refine W_seqr ?_ | refine W_draw (by kernel_rfl) (by kernel_rfl) ?_ | refine W_ret ?_ | refine W_skip ?_ | refine W_block ?_ | refine W_exit ?_ | (refine X_s (fun x K hK => ?_); go_simp; refine hK _ _ (Ext.alloc _ _) ?_; clear hK K; refine X_al x ?_; generalize (World.later _ x).heap.size = bn; intro yn hn1 hn2 hn3 hn4 hn5; clear x) | refine W_tt ?_ | refine W_ff ?_ | refine W_test (fun hc => ?_) (fun hc => ?_) | go_step)
    have hob := opensB_len l k
    refine W_loops [0, 3, 4, 5, 6] (fun n vs w' => ∃ (j : Nat), w' = (w.later y).later y' ∧ j + n = (opensB l k).length ∧ vs = [.slice A0 l.length c, .int .i64 (minF (stTo l k) ((opensB l k).take j)), .int .i64 k, .slice A1 (opensB l k).length c1, .int .i64 j]) (opensB l k).length hd hA (by decide) ?_ ?_
    · exact ⟨0, rfl, by omega, by simp [minF]⟩
    clear hd hA B; intro n2 vs B2 w' hd hA _ ⟨j, hw, hj, hvs⟩; subst hw hvs
    simp only [List.zip_cons_cons, List.zip_nil_right, List.zip_nil_left]
    by_cases hlj : j < (opensB l k).length
    · obtain ⟨x, b1, o1, HX, rfl, hb1, d0, d1⟩ := HR1.out j hlj
      repeat' (first | refine X_d (fun vb hvb => ?_) | refine X_dg (fun vb hvb => ?_) | refine X_q ?_ | refine X_g ?_ | refine X_gf ?_ | refine X_niln ?_ | refine X_nil ?_ | (refine X_var (fun yn bn hn1 hn2 hn3 hn4 hn5 => ?_)) | refine W_seqk (fun K hK => ?_) | refine W_seqr ?_ | refine W_draw (by kernel_rfl) (by kernel_rfl) ?_ | refine W_ret ?_ | refine W_skip ?_ | refine W_block ?_ | refine W_exit ?_ | (refine X_s (fun x K hK => ?_); go_simp; refine hK _ _ (Ext.alloc _ _) ?_; clear hK K; refine X_al x ?_; generalize (World.later _ x).heap.size = bn; intro yn hn1 hn2 hn3 hn4 hn5; clear x) | refine W_tt ?_ | refine W_ff ?_ | refine W_test (fun hc => ?_) (fun hc => ?_) | go_step)
      refine ⟨_, _, rfl, hd, hA, n2 - 1, by omega, j + 1, trivial, by omega, ?_⟩
      rw [take_snoc HX.out, minF_snoc, Int.min_def]
      simp
      split <;> split <;> omega
    · obtain rfl : j = (opensB l k).length := by omega
      repeat' (first | refine X_d (fun vb hvb => ?_) | refine X_dg (fun vb hvb => ?_) | refine X_q ?_ | refine X_g ?_ | refine X_gf ?_ | refine X_niln ?_ | refine X_nil ?_ | (refine X_var (fun yn bn hn1 hn2 hn3 hn4 hn5 => ?_)) | refine W_seqk (fun K hK => ?_) | refine W_seqr ?_ | refine W_draw (by kernel_rfl) (by kernel_rfl) ?_ | refine W_ret ?_ | refine W_skip ?_ | refine W_block ?_ | refine W_exit ?_ | (refine X_s (fun x K hK => ?_); go_simp; refine hK _ _ (Ext.alloc _ _) ?_; clear hK K; refine X_al x ?_; generalize (World.later _ x).heap.size = bn; intro yn hn1 hn2 hn3 hn4 hn5; clear x) | refine W_tt ?_ | refine W_ff ?_ | refine W_test (fun hc => ?_) (fun hc => ?_) | go_step)
      refine ⟨_, _, rfl, hd, hA, n - 1, by omega, k + 1, y.trans y', rfl, by omega, ?_⟩
      simp [stTo]
  · obtain rfl : k = 4 := by omega
    repeat' (first | refine X_d (fun vb hvb => ?_) | refine X_dg (fun vb hvb => ?_) | refine X_q ?_ | refine X_g ?_ | refine X_gf ?_ | refine X_niln ?_ | refine X_nil ?_ | (refine X_var (fun yn bn hn1 hn2 hn3 hn4 hn5 => ?_)) | refine W_seqk (fun K hK => ?_) | refine W_seqr ?_ | refine W_draw (by kernel_rfl) (by kernel_rfl) ?_ | refine W_ret ?_ | refine W_skip ?_ | refine W_block ?_ | refine W_exit ?_ | (refine X_s (fun x K hK => ?_); go_simp; refine hK _ _ (Ext.alloc _ _) ?_; clear hK K; refine X_al x ?_; generalize (World.later _ x).heap.size = bn; intro yn hn1 hn2 hn3 hn4 hn5; clear x) | refine W_tt ?_ | refine W_ff ?_ | refine W_test (fun hc => ?_) (fun hc => ?_) | go_step)
    exact Body_ret hd ⟨rfl, by simp⟩

/-- Is none of them behind a marker? -/
def goodTo (l : List Ent) (k : Nat) : Bool := (List.range k).all fun i => match l[i]? with | some e => !behindB (l.take i) e | none => true
theorem goodTo_succ {l : List Ent} {k : Nat} {e : Ent} (h : l[k]? = some e) : goodTo l (k + 1) = (goodTo l k && !behindB (l.take k) e) := by
  simp [goodTo, List.range_succ, h]
theorem goodTo_mono {l : List Ent} {k m : Nat} (h : goodTo l k = false) (hm : k ≤ m) : goodTo l m = false := by
  unfold goodTo at *
  rw [← Bool.not_eq_true, List.all_eq_true] at *
  exact fun h' => h fun i hi => h' i (by simp at *; omega)
def goodL (l : List Ent) : Bool := rightL l && goodTo l l.length
theorem good9_calls (l : List Ent) (v : Value) (w : World) (hl : RdE w v l) : Pure Try.prog 29 #[v] w (.bool (goodL l)) := by
  have hl0 := Lib.hid hl
  obtain ⟨A0, c, rfl, hc, hcm, HR⟩ := hl.ent
  clear hl
  refine Fn_of Try.func29 rfl (Nat.le_of_ble_eq_true rfl) ?_; intro A hd hA; simp only [ix, Nat.reduceAdd]; replace hA : A.tmps.size = 21 := hA
  repeat' (first | refine X_pure Try.func23 (right9_calls l _ _ hl0.out) ?_ | refine X_gpure Try.func23 (fun _ => right9_calls l _ _ hl0.out) ?_ | refine X_d (fun vb hvb => ?_) | refine X_dg (fun vb hvb => ?_) | refine X_q ?_ | refine X_g ?_ | refine X_gf ?_ | refine X_niln ?_ | refine X_nil ?_ | (refine X_var (fun yn bn hn1 hn2 hn3 hn4 hn5 => ?_)) | refine W_seqk (fun K hK => ?_) | refine W_seqr ?_ | refine W_draw (by kernel_rfl) (by kernel_rfl) ?_ | refine W_ret ?_ | refine W_skip ?_ | refine W_block ?_ | refine W_exit ?_ | (refine X_s (fun x K hK => ?_); go_simp; refine hK _ _ (Ext.alloc _ _) ?_; clear hK K; refine X_al x ?_; generalize (World.later _ x).heap.size = bn; intro yn hn1 hn2 hn3 hn4 hn5; clear x) | refine W_tt ?_ | refine W_ff ?_ | refine W_test (fun hc => ?_) (fun hc => ?_) | go_step)
  · refine Body_ret hd ⟨congrArg Value.bool ?_, by simp⟩
    simp at hc
    simp [goodL, hc]
  have HRT : Hid (rightL l = true) := Lib.hid (by simpa using hc)
  clear hc
  refine W_loops [0, 3] (fun n vs w' => ∃ (k : Nat), w' = w ∧ k + n = l.length ∧ vs = [.slice A0 l.length c, .int .i64 k] ∧ goodTo l k = true) l.length hd hA (by decide) ⟨0, rfl, by omega, by simp, by simp [goodTo]⟩ ?_
  clear hd hA A; intro n vs B w' hd hA _ ⟨k, hw, hk, hvs, hm⟩; subst hw hvs
  simp only [List.zip_cons_cons, List.zip_nil_right, List.zip_nil_left]
  have Hm := Lib.hid hm; clear hm
  by_cases hlt : k < l.length
  · obtain ⟨e, b, o, HE, rfl, hb, c0, c1, c2, c3, c4, c5⟩ := HR.out k hlt
    have HG := Lib.hid (goodTo_succ HE.out)
    have hkc : k ≤ c := by omega
    repeat' (first | refine X_pure Try.func69 (behind_calls (l.take k) _ e _ ((hl0.out.take k (by omega)).later (by simp))) ?_ | refine X_gpure Try.func69 (fun _ => behind_calls (l.take k) _ e _ ((hl0.out.take k (by omega)).later (by simp))) ?_ | refine X_d (fun vb hvb => ?_) | refine X_dg (fun vb hvb => ?_) | refine X_q ?_ | refine X_g ?_ | refine X_gf ?_ | refine X_niln ?_ | refine X_nil ?_ | (refine X_var (fun yn bn hn1 hn2 hn3 hn4 hn5 => ?_)) | refine W_seqk (fun K hK => ?_) | refine W_seqr ?_ | refine W_draw (by kernel_rfl) (by kernel_rfl) ?_ | refine W_ret ?_ | refine W_skip ?_ | refine W_block ?_ | refine W_exit ?_ | (refine X_s (fun x K hK => ?_); go_simp; refine hK _ _ (Ext.alloc _ _) ?_; clear hK K; refine X_al x ?_; generalize (World.later _ x).heap.size = bn; intro yn hn1 hn2 hn3 hn4 hn5; clear x) | refine W_tt ?_ | refine W_ff ?_ | refine W_test (fun hc => ?_) (fun hc => ?_) | go_step)
    · refine Body_ret hd ⟨congrArg Value.bool ?_, by simp⟩
      have : goodTo l (k + 1) = false := by rw [HG.out, hc]; simp
      rw [goodL, goodTo_mono this (by omega)]; simp
    · refine ⟨_, _, rfl, hd, hA, n - 1, by omega, k + 1, trivial, by omega, by simp, ?_⟩
      rw [HG.out, hc, Hm.out]; rfl
  · repeat' (first | refine X_d (fun vb hvb => ?_) | refine X_dg (fun vb hvb => ?_) | refine X_q ?_ | refine X_g ?_ | refine X_gf ?_ | refine X_niln ?_ | refine X_nil ?_ | (refine X_var (fun yn bn hn1 hn2 hn3 hn4 hn5 => ?_)) | refine W_seqk (fun K hK => ?_) | refine W_seqr ?_ | refine W_draw (by kernel_rfl) (by kernel_rfl) ?_ | refine W_ret ?_ | refine W_skip ?_ | refine W_block ?_ | refine W_exit ?_ | (refine X_s (fun x K hK => ?_); go_simp; refine hK _ _ (Ext.alloc _ _) ?_; clear hK K; refine X_al x ?_; generalize (World.later _ x).heap.size = bn; intro yn hn1 hn2 hn3 hn4 hn5; clear x) | refine W_tt ?_ | refine W_ff ?_ | refine W_test (fun hc => ?_) (fun hc => ?_) | go_step)
    obtain rfl : k = l.length := by omega
    refine Body_ret hd ⟨congrArg Value.bool ?_, by simp⟩
    simp [goodL, HRT.out, Hm.out]

/-- Is a data entry seen? -/
def seenB (p : List Ent) (e : Ent) : Bool := decide (e.id < 0) || p.any fun x => (x.id == e.id) && (x.num == e.num) && (x.kind == 2)
def viewStep (p : List Ent) (i : Nat) (out : List Int) (e : Ent) : List Int := if e.kind != 1 then out else if seenB p e then out ++ [(i : Int)] else out
def viewTo (p : List Ent) : Nat → List Int
  | 0 => []
  | i + 1 => match p[i]? with | some e => viewStep p i (viewTo p i) e | none => viewTo p i
def viewL (p : List Ent) : List Int := viewTo p (stableB p).toNat
theorem viewTo_len (p : List Ent) : ∀ i, (viewTo p i).length ≤ i
  | 0 => by simp [viewTo]
  | i + 1 => by
    have ih := viewTo_len p i
    unfold viewTo
    split
    · unfold viewStep
      split
      · omega
      · split
        · simp; omega
        · omega
    · omega
theorem minF_le (n : Int) (os : List Opn) : minF n os ≤ n := by
  unfold minF
  induction os generalizing n with
  | nil => simp
  | cons o os ih => simp only [List.foldl_cons]; exact Int.le_trans (ih _) (Int.min_le_left _ _)
theorem stableB_le (l : List Ent) : stableB l ≤ l.length := by
  unfold stableB
  simp only [stTo]
  exact Int.le_trans (minF_le _ _) (Int.le_trans (minF_le _ _) (Int.le_trans (minF_le _ _) (minF_le _ _)))
theorem view9_calls (l : List Ent) (A0 : Option Addr) (c n : Nat) (w : World) (hl : RdE w (.slice A0 l.length c) l) (hn : n ≤ l.length) (hln : l.length ≤ 1000000) :
    Ret Try.prog 26 #[.slice A0 l.length c, .int .i64 n] w fun v' w' => Ext w w' ∧ RdI w' v' (viewL (l.take n)) := by
  have hp := hl.take n hn
  have hpl : (l.take n).length = n := by simp; omega
  generalize hpe : l.take n = p at *
  have hcl : n ≤ c := by obtain ⟨_, _, h1, h2, h3, _⟩ := hl; cases h1; omega
  subst hpl
  have hp0 := Lib.hid hp
  obtain ⟨A1, c1, heq, hc, hcm, HR⟩ := hp.ent
  cases heq
  clear hp hl hpe
  generalize l.length = N at *
  have hS := Lib.hid (stableB_le p)
  refine Fn_of Try.func26 rfl (Nat.le_of_ble_eq_true rfl) ?_; intro A hd hA; simp only [ix, Nat.reduceAdd]; replace hA : A.tmps.size = 71 := hA
  repeat' (first | refine X_pure Try.func27 (stable8_calls p _ _ hp0.out (by omega)) ?_ | refine X_gpure Try.func27 (fun _ => stable8_calls p _ _ hp0.out (by omega)) ?_ | refine X_d (fun vb hvb => ?_) | refine X_dg (fun vb hvb => ?_) | refine X_q ?_ | refine X_g ?_ | refine X_gf ?_ | refine X_niln ?_ | refine X_nil ?_ | (refine X_var (fun yn bn hn1 hn2 hn3 hn4 hn5 => ?_)) | refine W_seqk (fun K hK => ?_) | refine W_seqr ?_ | refine W_draw (by kernel_rfl) (by kernel_rfl) ?_ | refine W_ret ?_ | refine W_skip ?_ | refine W_block ?_ | refine W_exit ?_ | (refine X_s (fun x K hK => ?_); go_simp; refine hK _ _ (Ext.alloc _ _) ?_; clear hK K; refine X_al x ?_; generalize (World.later _ x).heap.size = bn; intro yn hn1 hn2 hn3 hn4 hn5; clear x) | refine W_tt ?_ | refine W_ff ?_ | refine W_test (fun hc => ?_) (fun hc => ?_) | go_step)
  generalize hst : stableB p = st at *
  have HST := Lib.hid hst; clear hst
  refine W_loops [0, 1, 5, 6, 7] (fun n vs w' => ∃ (k : Nat) (y : Later w) (u : Value), w' = w.later y ∧ k + n = st.toNat ∧ vs = [.slice A0 p.length c, .int .i64 p.length, .int .i64 st, u, .int .i64 k] ∧ OwnI (w.later y) u (viewTo p k) ∧ ∀ b, u.ownBlock = some b → w.heap.size ≤ b) st.toNat hd hA (by decide) ?_ ?_
  · exact ⟨0, ⟨w, Ext.refl w⟩, _, rfl, by omega, by simp, Own.nil _, by intro b hb; cases hb⟩
  clear hd hA A; intro n vs B w' hd hA _ ⟨k, y, u, hw, hk, hvs, hown, hfr⟩; subst hw hvs
  simp only [List.zip_cons_cons, List.zip_nil_right, List.zip_nil_left]
  have Ho := Lib.hid hown; clear hown
  have Hf := Lib.hid hfr; clear hfr
  by_cases hlt : k < st.toNat
  · have hki : (k : Int) < st := by omega
    have hkp : k < p.length := by have := hS.out; omega
    obtain ⟨e, b, o, HE, rfl, hb, c0, c1, c2, c3, c4, c5⟩ := HR.out k hkp
    have HV : Hid (viewTo p (k + 1) = viewStep p k (viewTo p k) e) := Lib.hid (by rw [viewTo, HE.out])
    repeat' (first | refine X_d (fun vb hvb => ?_) | refine X_dg (fun vb hvb => ?_) | refine X_q ?_ | refine X_g ?_ | refine X_gf ?_ | refine X_niln ?_ | refine X_nil ?_ | (refine X_var (fun yn bn hn1 hn2 hn3 hn4 hn5 => ?_)) | refine W_seqk (fun K hK => ?_) | refine W_seqr ?_ | refine W_draw (by kernel_rfl) (by kernel_rfl) ?_ | refine W_ret ?_ | refine W_skip ?_ | refine W_block ?_ | refine W_exit ?_ | (refine X_s (fun x K hK => ?_); go_simp; refine hK _ _ (Ext.alloc _ _) ?_; clear hK K; refine X_al x ?_; generalize (World.later _ x).heap.size = bn; intro yn hn1 hn2 hn3 hn4 hn5; clear x) | refine W_tt ?_ | refine W_ff ?_ | refine W_test (fun hc => ?_) (fun hc => ?_) | go_step)
    · refine ⟨_, _, rfl, hd, hA, n - 1, by omega, k + 1, y.trans yn, u, rfl, by omega, by simp, ?_, Hf.out⟩
      rw [HV.out]
      unfold viewStep
      rw [if_pos hc]
      exact Ho.out.later yn.2
    · have HKIND := Lib.hid hc; clear hc
      have HVL := Lib.hid (viewTo_len p k)
      refine W_loops [0, 1, 5, 6, 7, 8, 9, 10] (fun n vs w' => ∃ (j : Nat), w' = (w.later y).later yn ∧ j + n = p.length ∧ vs = [.slice (some ⟨b, o, none⟩) p.length c, .int .i64 p.length, .int .i64 st, u, .int .i64 k, .pointer (some ⟨bn, 0, none⟩), .bool (decide (e.id < 0) || (p.take j).any fun x => (x.id == e.id) && (x.num == e.num) && (x.kind == 2)), .int .i64 j]) p.length hd hA (by decide) ⟨0, rfl, by omega, by simp⟩ ?_
      clear hd hA B; intro n2 vs B2 w' hd hA _ ⟨j, hw, hj, hvs⟩; subst hw hvs
      simp only [List.zip_cons_cons, List.zip_nil_right, List.zip_nil_left]
      by_cases hlj : j < p.length
      · obtain ⟨x, b1, o1, HX, hbe, hb1, d0, d1, d2, d3, d4, d5⟩ := HR.out j hlj
        cases hbe
        repeat' (first | refine X_d (fun vb hvb => ?_) | refine X_dg (fun vb hvb => ?_) | refine X_q ?_ | refine X_g ?_ | refine X_gf ?_ | refine X_niln ?_ | refine X_nil ?_ | (refine X_var (fun yn bn hn1 hn2 hn3 hn4 hn5 => ?_)) | refine W_seqk (fun K hK => ?_) | refine W_seqr ?_ | refine W_draw (by kernel_rfl) (by kernel_rfl) ?_ | refine W_ret ?_ | refine W_skip ?_ | refine W_block ?_ | refine W_exit ?_ | (refine X_s (fun x K hK => ?_); go_simp; refine hK _ _ (Ext.alloc _ _) ?_; clear hK K; refine X_al x ?_; generalize (World.later _ x).heap.size = bn; intro yn hn1 hn2 hn3 hn4 hn5; clear x) | refine W_tt ?_ | refine W_ff ?_ | refine W_test (fun hc => ?_) (fun hc => ?_) | go_step)
        refine ⟨_, _, rfl, hd, hA, n2 - 1, by omega, j + 1, trivial, by omega, ?_⟩
        have := take_snoc HX.out
        repeat cases ‹Eqn _ _›
        simp [this, Bool.or_assoc]
      · obtain rfl : j = p.length := by omega
        repeat' (first | refine X_d (fun vb hvb => ?_) | refine X_dg (fun vb hvb => ?_) | refine X_q ?_ | refine X_g ?_ | refine X_gf ?_ | refine X_niln ?_ | refine X_nil ?_ | (refine X_var (fun yn bn hn1 hn2 hn3 hn4 hn5 => ?_)) | refine W_seqk (fun K hK => ?_) | refine W_seqr ?_ | refine W_draw (by kernel_rfl) (by kernel_rfl) ?_ | refine W_ret ?_ | refine W_skip ?_ | refine W_block ?_ | refine W_exit ?_ | (refine X_s (fun x K hK => ?_); go_simp; refine hK _ _ (Ext.alloc _ _) ?_; clear hK K; refine X_al x ?_; generalize (World.later _ x).heap.size = bn; intro yn hn1 hn2 hn3 hn4 hn5; clear x) | refine W_tt ?_ | refine W_ff ?_ | refine W_test (fun hc => ?_) (fun hc => ?_) | go_step)
        · refine X_push (w0 := w) (by simp) elemInt (Ho.out.later (by simp)) Hf.out (Rd.one (x := (k : Int)) hn2 hn3 rfl) (by have := HVL.out; simp; omega) (by have := HVL.out; unfold maxLen; simp; omega) (fun y' v' hO hF _ _ => ?_)
          repeat' (first | refine X_d (fun vb hvb => ?_) | refine X_dg (fun vb hvb => ?_) | refine X_q ?_ | refine X_g ?_ | refine X_gf ?_ | refine X_niln ?_ | refine X_nil ?_ | (refine X_var (fun yn bn hn1 hn2 hn3 hn4 hn5 => ?_)) | refine W_seqk (fun K hK => ?_) | refine W_seqr ?_ | refine W_draw (by kernel_rfl) (by kernel_rfl) ?_ | refine W_ret ?_ | refine W_skip ?_ | refine W_block ?_ | refine W_exit ?_ | (refine X_s (fun x K hK => ?_); go_simp; refine hK _ _ (Ext.alloc _ _) ?_; clear hK K; refine X_al x ?_; generalize (World.later _ x).heap.size = bn; intro yn hn1 hn2 hn3 hn4 hn5; clear x) | refine W_tt ?_ | refine W_ff ?_ | refine W_test (fun hc => ?_) (fun hc => ?_) | go_step)
          refine ⟨_, _, rfl, hd, hA, n - 1, by omega, k + 1, y', v', rfl, by omega, by simp, ?_, hF⟩
          rw [HV.out]
          unfold viewStep
          have hq := HKIND.out
          rw [if_neg (by rw [hq]; simp), if_pos (by unfold seenB; simpa using hc)]
          exact hO
        · refine ⟨_, _, rfl, hd, hA, n - 1, by omega, k + 1, y.trans yn, u, rfl, by omega, by simp, ?_, Hf.out⟩
          rw [HV.out]
          unfold viewStep
          have hq := HKIND.out
          rw [if_neg (by rw [hq]; simp), if_neg (by unfold seenB; simpa using hc)]
          exact Ho.out.later yn.2
  · obtain hks : k = st.toNat := by omega
    repeat' (first | refine X_d (fun vb hvb => ?_) | refine X_dg (fun vb hvb => ?_) | refine X_q ?_ | refine X_g ?_ | refine X_gf ?_ | refine X_niln ?_ | refine X_nil ?_ | (refine X_var (fun yn bn hn1 hn2 hn3 hn4 hn5 => ?_)) | refine W_seqk (fun K hK => ?_) | refine W_seqr ?_ | refine W_draw (by kernel_rfl) (by kernel_rfl) ?_ | refine W_ret ?_ | refine W_skip ?_ | refine W_block ?_ | refine W_exit ?_ | (refine X_s (fun x K hK => ?_); go_simp; refine hK _ _ (Ext.alloc _ _) ?_; clear hK K; refine X_al x ?_; generalize (World.later _ x).heap.size = bn; intro yn hn1 hn2 hn3 hn4 hn5; clear x) | refine W_tt ?_ | refine W_ff ?_ | refine W_test (fun hc => ?_) (fun hc => ?_) | go_step)
    · exact absurd hc (by simp; omega)
    refine Body_ret hd ⟨by simp, ?_⟩
    have := Own.rd (enc := ics) (k := 1) (fun _ => rfl) Ho.out
    rw [hks] at this
    unfold viewL
    rw [HST.out]
    exact this
end Go.Ws
