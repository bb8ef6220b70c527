import Derived.Test.YtkdcgmloapmpkaaVisH
namespace Go.Ws
open Go Go.RowKit Go.Proofs
set_option maxHeartbeats 2000000
set_option maxRecDepth 100000
set_option linter.unusedVariables false
set_option linter.unusedSimpArgs false
set_option pp.deepTerms true
set_option pp.maxSteps 100000000

/-- Is each entry taken, behind a log? -/
def goodFrom : List Ent → List Ent → Bool
  | _, [] => true
  | log, e :: es => decide (pushNo log e = 0) && goodFrom (log ++ [e]) es
def goodP (l : List Ent) : Bool := goodFrom [] l
theorem goodFrom_append : ∀ (a b log : List Ent), goodFrom log (a ++ b) = (goodFrom log a && goodFrom (log ++ a) b)
  | [], b, log => by simp [goodFrom]
  | x :: a, b, log => by
    rw [List.cons_append, goodFrom, goodFrom, goodFrom_append a b, Bool.and_assoc]
    simp
theorem goodP_snoc (l : List Ent) (e : Ent) : goodP (l ++ [e]) = (goodP l && decide (pushNo l e = 0)) := by
  unfold goodP
  rw [goodFrom_append]
  simp [goodFrom]
theorem goodP_bad {l : List Ent} {k : Nat} (h : goodP (l.take k) = false) : goodP l = false := by
  unfold goodP at *
  rw [← List.take_append_drop k l, goodFrom_append, h]; rfl
theorem goodf_calls {w : World} {bx rb : Nat} {G : Nat → Prop} {log : List Ent} {at_ : Int} {told : List Int} (hb : bx < w.heap.size) (c0 : w.cell? ⟨bx, 0, none⟩ = some (.pointer (some ⟨rb, 0, none⟩))) (h : Rdr w rb G log at_ told) (e : Ent) :
    Ret Try.prog 68 #[e.v, .pointer (some ⟨bx, 0, none⟩)] w fun v w' => v = .bool (pushNo log e != 0) ∧ Mod G w w' ∧ Rdr w' rb (fun k => G k ∨ w.heap.size ≤ k) (pushLog log e) at_ told := by
  have H := Lib.hid h
  clear h
  refine Fn_of Try.func68 rfl (Nat.le_of_ble_eq_true rfl) ?_; intro A hd hA; simp only [ix, Nat.reduceAdd]; replace hA : A.tmps.size = 8 := hA
  repeat' (first | refine X_d (fun vb hvb => ?_) | refine X_dg (fun vb hvb => ?_) | refine X_q ?_ | refine X_g ?_ | refine X_gf ?_ | refine X_niln ?_ | refine X_nil ?_ | (refine X_var (fun yn bn hn1 hn2 hn3 hn4 hn5 => ?_)) | refine W_seqk (fun K hK => ?_) | refine W_seqr ?_ | refine W_draw (by kernel_rfl) (by kernel_rfl) ?_ | refine W_ret ?_ | refine W_skip ?_ | refine W_block ?_ | refine W_exit ?_ | (refine X_s (fun x K hK => ?_); go_simp; refine hK _ _ (Ext.alloc _ _) ?_; clear hK K; refine X_al x ?_; generalize (World.later _ x).heap.size = bn; intro yn hn1 hn2 hn3 hn4 hn5; clear x) | refine W_tt ?_ | refine W_ff ?_ | refine W_test (fun hc => ?_) (fun hc => ?_) | go_step)
  refine X_ret Try.func31 (rpush_calls (H.out.later yn.2) e) (fun v' w' hR => ?_)
  obtain ⟨rfl, hM, hR⟩ := hR
  have HR := Lib.hid hR
  have HM := Lib.hid hM
  clear hR hM
  repeat' (first | refine X_d (fun vb hvb => ?_) | refine X_dg (fun vb hvb => ?_) | refine X_q ?_ | refine X_g ?_ | refine X_gf ?_ | refine X_niln ?_ | refine X_nil ?_ | (refine X_var (fun yn bn hn1 hn2 hn3 hn4 hn5 => ?_)) | refine W_seqk (fun K hK => ?_) | refine W_seqr ?_ | refine W_draw (by kernel_rfl) (by kernel_rfl) ?_ | refine W_ret ?_ | refine W_skip ?_ | refine W_block ?_ | refine W_exit ?_ | (refine X_s (fun x K hK => ?_); go_simp; refine hK _ _ (Ext.alloc _ _) ?_; clear hK K; refine X_al x ?_; generalize (World.later _ x).heap.size = bn; intro yn hn1 hn2 hn3 hn4 hn5; clear x) | refine W_tt ?_ | refine W_ff ?_ | refine W_test (fun hc => ?_) (fun hc => ?_) | go_step)
  refine Body_ret hd ⟨rfl, Mod.trans yn.2 HM.out (fun _ _ h => h.elim) (fun _ _ h => h), HR.out.mono (fun k hk => hk.imp id (fun h => Nat.le_trans yn.2.size h))⟩
theorem indexGood_calls {w : World} {bx rb : Nat} {G : Nat → Prop} {v : Value} {l : List Ent} (hl : RdE w v l) (hb : bx < w.heap.size) (c0 : w.cell? ⟨bx, 0, none⟩ = some (.pointer (some ⟨rb, 0, none⟩))) (h : Rdr w rb G [] 0 []) (hG : ∀ k, G k → k < w.heap.size ∧ k ≠ bx ∧ v.ownBlock ≠ some k) :
    Ret Try.prog 88 #[v, .func (.func 68) #[] #[.pointer (some ⟨bx, 0, none⟩)]] w fun v' w' => ∃ i : Int, v' = .int .i64 i ∧ decide (0 ≤ i) = !goodP l ∧ Mod G w w' := by
  have hl0 := Lib.hid hl
  have HG := Lib.hid hG
  have H := Lib.hid h
  obtain ⟨A0, c, rfl, hc, hcm, -⟩ := hl.ent
  clear hl h hG
  refine Fn_of Try.func88 rfl (Nat.le_of_ble_eq_true rfl) ?_; intro A hd hA; simp only [ix, Nat.reduceAdd]; replace hA : A.tmps.size = 19 := hA
  repeat' (first | refine X_d (fun vb hvb => ?_) | refine X_dg (fun vb hvb => ?_) | refine X_q ?_ | refine X_g ?_ | refine X_gf ?_ | refine X_niln ?_ | refine X_nil ?_ | (refine X_var (fun yn bn hn1 hn2 hn3 hn4 hn5 => ?_)) | refine W_seqk (fun K hK => ?_) | refine W_seqr ?_ | refine W_ret ?_ | refine W_skip ?_ | refine W_block ?_ | refine W_exit ?_ | (refine X_s (fun x K hK => ?_); go_simp; refine hK _ _ (Ext.alloc _ _) ?_; clear hK K; refine X_al x ?_; generalize (World.later _ x).heap.size = bn; intro yn hn1 hn2 hn3 hn4 hn5; clear x) | refine W_tt ?_ | refine W_ff ?_ | refine W_test (fun hc => ?_) (fun hc => ?_) | go_step)
  refine W_loops [0, 1, 7, 8] (fun n vs w' => ∃ (k : Nat) (G' : Nat → Prop), n + k = l.length ∧ vs = [.slice A0 l.length c, .func (.func 68) #[] #[.pointer (some ⟨bx, 0, none⟩)], .int .i64 l.length, .int .i64 k] ∧ Mod G w w' ∧ Rdr w' rb G' (l.take k) 0 [] ∧ (∀ x, G' x → G x ∨ w.heap.size ≤ x) ∧ goodP (l.take k) = true) l.length hd hA (by decide) ?_ ?_
  · exact ⟨0, G, by omega, by simp, Ext.refl w |>.mono (fun _ _ h => h.elim), H.out, fun x hx => .inl hx, rfl⟩
  clear hd hA A; intro n vs B w' hd hA _ ⟨k, G', hn, hvs, hM, hR, hG', hg⟩; subst hvs
  simp only [List.zip_cons_cons, List.zip_nil_right, List.zip_nil_left]
  have HM := Lib.hid hM
  have HR := Lib.hid hR
  have HG' := Lib.hid hG'
  have hr := hl0.out.mod hM (fun b hb h => (HG.out b h).2.2 hb)
  have c1 : w'.cell? ⟨bx, 0, none⟩ = some (.pointer (some ⟨rb, 0, none⟩)) := (cell?_mod hM hb (fun h => (HG.out _ h).2.1 rfl)).trans c0
  have hb1 : bx < w'.heap.size := Nat.lt_of_lt_of_le hb hM.size
  have hws := hM.size
  obtain ⟨A1, c2, hvv, -, -, HRE⟩ := hr.ent
  cases hvv
  clear hM hR hG' hr
  have HGD := Lib.hid hg
  clear hg
  by_cases hlt : k < l.length
  · obtain ⟨e, be, oe, he, hA0, hbe, r0, r1, r2, r3, r4, r5⟩ := HRE.out k (by omega)
    subst hA0
    have hki : (k : Int) < l.length := by omega
    clear HRE
    repeat' (first | refine X_d (fun vb hvb => ?_) | refine X_dg (fun vb hvb => ?_) | refine X_q ?_ | refine X_g ?_ | refine X_gf ?_ | refine X_niln ?_ | refine X_nil ?_ | (refine X_var (fun yn bn hn1 hn2 hn3 hn4 hn5 => ?_)) | refine W_seqk (fun K hK => ?_) | refine W_seqr ?_ | refine W_ret ?_ | refine W_skip ?_ | refine W_block ?_ | refine W_exit ?_ | (refine X_s (fun x K hK => ?_); go_simp; refine hK _ _ (Ext.alloc _ _) ?_; clear hK K; refine X_al x ?_; generalize (World.later _ x).heap.size = bn; intro yn hn1 hn2 hn3 hn4 hn5; clear x) | refine W_tt ?_ | refine W_ff ?_ | refine W_test (fun hc => ?_) (fun hc => ?_) | go_step)
    refine X_valret (lv := [e.v]) (first := #[]) (captured := #[.pointer (some ⟨bx, 0, none⟩)]) Try.func68 (by simpa using goodf_calls (w := w') hb1 c1 HR.out e) (fun v' w2 hR => ?_)
    obtain ⟨rfl, hM2, hR2⟩ := hR
    have hMM : Mod G w w2 := Mod.trans HM.out hM2 (fun _ _ h => h) (fun x hx h => (HG'.out x h).elim id (fun h => by omega))
    have HR2 := Lib.hid hR2
    have HMM := Lib.hid hMM
    clear hR2 hMM hM2 c1 hb1 r0 r1 r2 r3 r4 r5
    by_cases hp : pushNo (l.take k) e = 0
    · have hgs : goodP (l.take (k + 1)) = true := by rw [take_snoc he.out, goodP_snoc, HGD.out]; simpa using hp
      have hpl : pushLog (l.take k) e = l.take (k + 1) := by rw [take_snoc he.out]; unfold pushLog; rw [if_pos hp]
      have HGS := Lib.hid hgs
      have HPL := Lib.hid hpl
      rw [hp]
      clear hgs hpl hp
      repeat' (first | refine X_d (fun vb hvb => ?_) | refine X_dg (fun vb hvb => ?_) | refine X_q ?_ | refine X_g ?_ | refine X_gf ?_ | refine X_niln ?_ | refine X_nil ?_ | (refine X_var (fun yn bn hn1 hn2 hn3 hn4 hn5 => ?_)) | refine W_seqk (fun K hK => ?_) | refine W_seqr ?_ | refine W_ret ?_ | refine W_skip ?_ | refine W_block ?_ | refine W_exit ?_ | (refine X_s (fun x K hK => ?_); go_simp; refine hK _ _ (Ext.alloc _ _) ?_; clear hK K; refine X_al x ?_; generalize (World.later _ x).heap.size = bn; intro yn hn1 hn2 hn3 hn4 hn5; clear x) | refine W_tt ?_ | refine W_ff ?_ | refine W_test (fun hc => ?_) (fun hc => ?_) | go_step)
      refine ⟨_, _, rfl, hd, hA, n - 1, by omega, k + 1, _, by omega, by simp, HMM.out, HPL.out ▸ HR2.out, fun x hx => ?_, HGS.out⟩
      rcases hx with h | h
      · exact HG'.out x h
      · exact .inr (by omega)
    · have hgs : goodP l = false := goodP_bad (k := k + 1) (by rw [take_snoc he.out, goodP_snoc]; simp [hp])
      have hp' : (pushNo (l.take k) e != 0) = true := by simpa using hp
      have HGS := Lib.hid hgs
      clear hgs hp
      repeat' (first | refine X_d (fun vb hvb => ?_) | refine X_dg (fun vb hvb => ?_) | refine X_q ?_ | refine X_g ?_ | refine X_gf ?_ | refine X_niln ?_ | refine X_nil ?_ | (refine X_var (fun yn bn hn1 hn2 hn3 hn4 hn5 => ?_)) | refine W_seqk (fun K hK => ?_) | refine W_seqr ?_ | refine W_ret ?_ | refine W_skip ?_ | refine W_block ?_ | refine W_exit ?_ | (refine X_s (fun x K hK => ?_); go_simp; refine hK _ _ (Ext.alloc _ _) ?_; clear hK K; refine X_al x ?_; generalize (World.later _ x).heap.size = bn; intro yn hn1 hn2 hn3 hn4 hn5; clear x) | refine W_tt ?_ | refine W_ff ?_ | refine W_test (fun hc => ?_) (fun hc => ?_) | go_step)
      exact Body_ret hd ⟨k, rfl, by rw [HGS.out]; simp, HMM.out⟩
  · obtain rfl : k = l.length := by omega
    have HL := Lib.hid hlt
    clear hlt
    repeat' (first | refine X_d (fun vb hvb => ?_) | refine X_dg (fun vb hvb => ?_) | refine X_q ?_ | refine X_g ?_ | refine X_gf ?_ | refine X_niln ?_ | refine X_nil ?_ | (refine X_var (fun yn bn hn1 hn2 hn3 hn4 hn5 => ?_)) | refine W_seqk (fun K hK => ?_) | refine W_seqr ?_ | refine W_ret ?_ | refine W_skip ?_ | refine W_block ?_ | refine W_exit ?_ | (refine X_s (fun x K hK => ?_); go_simp; refine hK _ _ (Ext.alloc _ _) ?_; clear hK K; refine X_al x ?_; generalize (World.later _ x).heap.size = bn; intro yn hn1 hn2 hn3 hn4 hn5; clear x) | refine W_tt ?_ | refine W_ff ?_ | refine W_test (fun hc => ?_) (fun hc => ?_) | go_step)
    have := HGD.out
    rw [List.take_length] at this
    exact Body_ret hd ⟨-1, rfl, by rw [this]; rfl, HM.out⟩
theorem containsGood_calls {w : World} {bx rb : Nat} {G : Nat → Prop} {v : Value} {l : List Ent} (hl : RdE w v l) (hb : bx < w.heap.size) (c0 : w.cell? ⟨bx, 0, none⟩ = some (.pointer (some ⟨rb, 0, none⟩))) (h : Rdr w rb G [] 0 []) (hG : ∀ k, G k → k < w.heap.size ∧ k ≠ bx ∧ v.ownBlock ≠ some k) :
    Ret Try.prog 67 #[v, .func (.func 68) #[] #[.pointer (some ⟨bx, 0, none⟩)]] w fun v' w' => v' = .bool (!goodP l) ∧ Mod G w w' := by
  have hl0 := Lib.hid hl
  have HG := Lib.hid hG
  have H := Lib.hid h
  obtain ⟨A0, c, rfl, hc, hcm, -⟩ := hl.ent
  clear hl h hG
  refine Fn_of Try.func67 rfl (Nat.le_of_ble_eq_true rfl) ?_; intro A hd hA; simp only [ix, Nat.reduceAdd]; replace hA : A.tmps.size = 9 := hA
  repeat' (first | refine X_d (fun vb hvb => ?_) | refine X_dg (fun vb hvb => ?_) | refine X_q ?_ | refine X_g ?_ | refine X_gf ?_ | refine X_niln ?_ | refine X_nil ?_ | (refine X_var (fun yn bn hn1 hn2 hn3 hn4 hn5 => ?_)) | refine W_seqk (fun K hK => ?_) | refine W_seqr ?_ | refine W_ret ?_ | refine W_skip ?_ | refine W_block ?_ | refine W_exit ?_ | (refine X_s (fun x K hK => ?_); go_simp; refine hK _ _ (Ext.alloc _ _) ?_; clear hK K; refine X_al x ?_; generalize (World.later _ x).heap.size = bn; intro yn hn1 hn2 hn3 hn4 hn5; clear x) | refine W_tt ?_ | refine W_ff ?_ | refine W_test (fun hc => ?_) (fun hc => ?_) | go_step)
  refine X_ret Try.func88 (indexGood_calls hl0.out hb c0 H.out HG.out) (fun v' w' hR => ?_)
  obtain ⟨i, rfl, hi, hM⟩ := hR
  have HM := Lib.hid hM
  have HI := Lib.hid hi
  clear hM hi
  repeat' (first | refine X_d (fun vb hvb => ?_) | refine X_dg (fun vb hvb => ?_) | refine X_q ?_ | refine X_g ?_ | refine X_gf ?_ | refine X_niln ?_ | refine X_nil ?_ | (refine X_var (fun yn bn hn1 hn2 hn3 hn4 hn5 => ?_)) | refine W_seqk (fun K hK => ?_) | refine W_seqr ?_ | refine W_ret ?_ | refine W_skip ?_ | refine W_block ?_ | refine W_exit ?_ | (refine X_s (fun x K hK => ?_); go_simp; refine hK _ _ (Ext.alloc _ _) ?_; clear hK K; refine X_al x ?_; generalize (World.later _ x).heap.size = bn; intro yn hn1 hn2 hn3 hn4 hn5; clear x) | refine W_tt ?_ | refine W_ff ?_ | refine W_test (fun hc => ?_) (fun hc => ?_) | go_step)
  exact Body_ret hd ⟨congrArg Value.bool HI.out, HM.out⟩
theorem visGood_calls (l : List Ent) (v : Value) (w : World) (hl : RdE w v l) : Pure Try.prog 28 #[v] w (.bool (goodP l)) := by
  have hl0 := Lib.hid hl
  obtain ⟨A0, c, rfl, hc, hcm, -⟩ := hl.ent
  clear hl
  refine Fn_of Try.func28 rfl (Nat.le_of_ble_eq_true rfl) ?_; intro A hd hA; simp only [ix, Nat.reduceAdd]; replace hA : A.tmps.size = 9 := hA
  repeat' (first | refine X_d (fun vb hvb => ?_) | refine X_dg (fun vb hvb => ?_) | refine X_q ?_ | refine X_g ?_ | refine X_gf ?_ | refine X_niln ?_ | refine X_nil ?_ | (refine X_var (fun yn bn hn1 hn2 hn3 hn4 hn5 => ?_)) | refine W_seqk (fun K hK => ?_) | refine W_seqr ?_ | refine W_ret ?_ | refine W_skip ?_ | refine W_block ?_ | refine W_exit ?_ | (refine X_s (fun x K hK => ?_); go_simp; refine hK _ _ (Ext.alloc _ _) ?_; clear hK K; refine X_al x ?_; generalize (World.later _ x).heap.size = bn; intro yn hn1 hn2 hn3 hn4 hn5; clear x) | refine W_tt ?_ | refine W_ff ?_ | refine W_test (fun hc => ?_) (fun hc => ?_) | go_step)
  refine X_ret Try.func30 rnew_calls (fun v' w' hR => ?_)
  obtain ⟨rb, rfl, hE, hR⟩ := hR
  have HR := Lib.hid hR.here
  clear hR
  repeat' (first | refine X_d (fun vb hvb => ?_) | refine X_dg (fun vb hvb => ?_) | refine X_q ?_ | refine X_g ?_ | refine X_gf ?_ | refine X_niln ?_ | refine X_nil ?_ | (refine X_var (fun yn bn hn1 hn2 hn3 hn4 hn5 => ?_)) | refine W_seqk (fun K hK => ?_) | refine W_seqr ?_ | refine W_ret ?_ | refine W_skip ?_ | refine W_block ?_ | refine W_exit ?_ | (refine X_s (fun x K hK => ?_); go_simp; refine hK _ _ (Ext.alloc _ _) ?_; clear hK K; refine X_al x ?_; generalize (World.later _ x).heap.size = bn; intro yn hn1 hn2 hn3 hn4 hn5; clear x) | refine W_tt ?_ | refine W_ff ?_ | refine W_test (fun hc => ?_) (fun hc => ?_) | go_step)
  refine X_store (off := 0) (Blk.one hn5.out) (fun W' hM hB => ?_)
  have hs0 := hE.size
  have hs1 : w'.heap.size ≤ (w'.later yn).heap.size := yn.2.size
  have hs2 := hM.size
  have hEw : Ext w W' := Ext.fresh (Ext.trans hE yn.2) hM (by rintro _ rfl; omega)
  have hr : Rdr W' rb (fun k => w.heap.size ≤ k ∧ k < w'.heap.size) [] 0 [] := (HR.out.later yn.2).mod hM (fun k hk e => by omega)
  have c0 : W'.cell? ⟨bn, 0, none⟩ = some (.pointer (some ⟨rb, 0, none⟩)) := (hB.cell (k := 0) (by omega)).trans rfl
  have hbt := hB.lt
  have HR2 := Lib.hid hr
  have hl1 := Lib.hid (hl0.out.later hEw)
  clear hr HR hM hB
  repeat' (first | refine X_d (fun vb hvb => ?_) | refine X_dg (fun vb hvb => ?_) | refine X_q ?_ | refine X_g ?_ | refine X_gf ?_ | refine X_niln ?_ | refine X_nil ?_ | (refine X_var (fun yn bn hn1 hn2 hn3 hn4 hn5 => ?_)) | refine W_seqk (fun K hK => ?_) | refine W_seqr ?_ | refine W_ret ?_ | refine W_skip ?_ | refine W_block ?_ | refine W_exit ?_ | (refine X_s (fun x K hK => ?_); go_simp; refine hK _ _ (Ext.alloc _ _) ?_; clear hK K; refine X_al x ?_; generalize (World.later _ x).heap.size = bn; intro yn hn1 hn2 hn3 hn4 hn5; clear x) | refine W_tt ?_ | refine W_ff ?_ | refine W_test (fun hc => ?_) (fun hc => ?_) | go_step)
  refine X_ret Try.func67 (containsGood_calls hl1.out hbt c0 HR2.out (fun k hk => ⟨by omega, by omega, fun h => by have := hl0.out.own_lt k h; omega⟩)) (fun v' w2 hR => ?_)
  obtain ⟨rfl, hM⟩ := hR
  have hE2 : Ext w w2 := Ext.fresh hEw hM (fun k hk => hk.1)
  clear hM
  repeat' (first | refine X_d (fun vb hvb => ?_) | refine X_dg (fun vb hvb => ?_) | refine X_q ?_ | refine X_g ?_ | refine X_gf ?_ | refine X_niln ?_ | refine X_nil ?_ | (refine X_var (fun yn bn hn1 hn2 hn3 hn4 hn5 => ?_)) | refine W_seqk (fun K hK => ?_) | refine W_seqr ?_ | refine W_ret ?_ | refine W_skip ?_ | refine W_block ?_ | refine W_exit ?_ | (refine X_s (fun x K hK => ?_); go_simp; refine hK _ _ (Ext.alloc _ _) ?_; clear hK K; refine X_al x ?_; generalize (World.later _ x).heap.size = bn; intro yn hn1 hn2 hn3 hn4 hn5; clear x) | refine W_tt ?_ | refine W_ff ?_ | refine W_test (fun hc => ?_) (fun hc => ?_) | go_step)
  exact Body_ret hd ⟨congrArg Value.bool (Bool.not_not _), hE2⟩
end Go.Ws
