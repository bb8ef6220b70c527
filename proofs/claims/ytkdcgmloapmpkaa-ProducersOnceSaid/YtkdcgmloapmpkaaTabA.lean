import Derived.Test.YtkdcgmloapmpkaaTab
namespace Go.Ws
open Go Go.RowKit Go.Proofs
set_option maxHeartbeats 2000000
set_option maxRecDepth 100000
set_option linter.unusedVariables false
set_option linter.unusedSimpArgs false
set_option pp.deepTerms true
set_option pp.maxSteps 100000000

theorem tabAppend_calls {b : Nat} {w : World} {F : Nat → Prop} {l : List Ent} (h : Tab w b F l) (e : Ent) : Ret Try.prog 50 #[.pointer (some ⟨b, 0, none⟩), e.v] w fun v w' =>
    v = .int .i64 (appendNo l e) ∧ Mod F w w' ∧ Tab w' b (fun k => F k ∨ w.heap.size ≤ k) (if appendNo l e = 0 then l ++ [e] else l) := by
  obtain ⟨u, mb, g, h, hF⟩ := h
  have hs := h.seen
  obtain ⟨hlt, hmade, hlog, hrd⟩ := hs
  have HS := Lib.hid h.seen
  have HT := Lib.hid h
  clear h
  have HF := Lib.hid hF
  clear hF
  have HN := Lib.hid hrd.ent
  obtain ⟨A0, c, rfl, hc, hcm, -⟩ := HN.out
  clear hrd HN
  have hub := HT.out.u_ne_b
  refine Fn_of Try.func50 rfl (Nat.le_of_ble_eq_true rfl) ?_; intro A hd hA; simp only [ix, Nat.reduceAdd]; replace hA : A.tmps.size = 124 := hA
  repeat' (first | refine X_pure Try.func76 (may_calls (HS.out.later (by simp)) e) ?_ | refine X_gpure Try.func76 (fun _ => may_calls (HS.out.later (by simp)) e) ?_ | refine X_d (fun vb hvb => ?_) | refine X_dg (fun vb hvb => ?_) | refine X_q ?_ | refine X_g ?_ | refine X_gf ?_ | refine X_niln ?_ | refine X_nil ?_ | (refine X_var (fun yn bn hn1 hn2 hn3 hn4 hn5 => ?_)) | refine W_seqk (fun K hK => ?_) | refine W_seqr ?_ | refine W_ret ?_ | refine W_skip ?_ | refine W_block ?_ | refine W_exit ?_ | (refine X_s (fun x K hK => ?_); go_simp; refine hK _ _ (Ext.alloc _ _) ?_; clear hK K; refine X_al x ?_; generalize (World.later _ x).heap.size = bn; intro yn hn1 hn2 hn3 hn4 hn5; clear x) | refine W_tt ?_ | refine W_ff ?_ | refine W_test (fun hc => ?_) (fun hc => ?_) | go_step)
  · refine Body_ret hd ⟨rfl, ?_, ?_⟩
    · exact Mod.mono yn.2 (fun _ _ h => h.elim)
    · have hno : appendNo l e ≠ 0 := by simpa using hc
      rw [if_neg hno]
      exact Tab.mono (Tab.later ⟨_, _, _, HT.out, HF.out⟩ yn.2) fun k hk => .inl hk
  have HNO : Hid (appendNo l e = 0) := Lib.hid (by simpa using hc)
  clear hc hn4 hn5
  have hl4 : l.length < 4096 := (of_no HNO.out).2.1
  have HB := Lib.hid (right_bounds (of_no HNO.out).1)
  have hx1 := hn1
  have hx2 := hn2
  have hx3 := hn3
  clear hn1 hn3
  have HT0 : TabAt (w.later yn) b (.slice A0 l.length c) mb g l := HT.out.mod yn.2 (fun _ _ h => h)
  have HT1 := Lib.hid HT0; clear HT0
  refine W_draw (by kernel_rfl) (by kernel_rfl) ?_
  repeat' (first | refine X_d (fun vb hvb => ?_) | refine X_dg (fun vb hvb => ?_) | refine X_q ?_ | refine X_g ?_ | refine X_gf ?_ | refine X_niln ?_ | refine X_nil ?_ | (refine X_var (fun yn bn hn1 hn2 hn3 hn4 hn5 => ?_)) | refine W_seqk (fun K hK => ?_) | refine W_seqr ?_ | refine W_ret ?_ | refine W_skip ?_ | refine W_block ?_ | refine W_exit ?_ | (refine X_s (fun x K hK => ?_); go_simp; refine hK _ _ (Ext.alloc _ _) ?_; clear hK K; refine X_al x ?_; generalize (World.later _ x).heap.size = bn; intro yn hn1 hn2 hn3 hn4 hn5; clear x) | refine W_tt ?_ | refine W_ff ?_ | refine W_test (fun hc => ?_) (fun hc => ?_) | go_step)
  refine X_append (xs := l) elemEnt (HT1.out.own.later (by simp)) (Rd.one (x := e) hn2 hn3 rfl) (by simp; omega) (by unfold maxLen; simp; omega) (fun v' W1 hM1 hO1 hF1 hN1 => ?_)
  repeat' (first | refine X_d (fun vb hvb => ?_) | refine X_dg (fun vb hvb => ?_) | refine X_q ?_ | refine X_g ?_ | refine X_gf ?_ | refine X_niln ?_ | refine X_nil ?_ | (refine X_var (fun yn bn hn1 hn2 hn3 hn4 hn5 => ?_)) | refine W_seqk (fun K hK => ?_) | refine W_seqr ?_ | refine W_ret ?_ | refine W_skip ?_ | refine W_block ?_ | refine W_exit ?_ | (refine X_s (fun x K hK => ?_); go_simp; refine hK _ _ (Ext.alloc _ _) ?_; clear hK K; refine X_al x ?_; generalize (World.later _ x).heap.size = bn; intro yn hn1 hn2 hn3 hn4 hn5; clear x) | refine W_tt ?_ | refine W_ff ?_ | refine W_test (fun hc => ?_) (fun hc => ?_) | go_step)
  obtain ⟨A1, n1, c1, rfl⟩ : ∃ A1 n1 c1, v' = .slice A1 n1 c1 := by
    rcases hO1.shape with ⟨h, _⟩ | ⟨g, c, h, _⟩
    · exact ⟨_, _, _, h⟩
    · exact ⟨_, _, _, h⟩
  refine X_store (off := 0) (v := .slice A1 n1 c1) ((HT1.out.blk.later yn.2).mod hM1 hub) (fun W2 hM2 hB2 => ?_)
  have HM := fun (i : Nat) (hi : i < 4) => Mid.start (i := i) (e := e) HT1.out hi (fun k hk => by have := HT.out.lt k hk; omega) hx2 hx3 yn.2 hM1 hO1 hF1 hM2 hB2
  have hw2b := hB2.lt
  have hbox := (HM 0 (by omega)).box
  have hbx2 := (HM 0 (by omega)).bn1
  have HMM := Lib.hid HM
  clear HM
  clear hx3 hn3 hn4 hn5
  repeat' (first | refine X_d (fun vb hvb => ?_) | refine X_dg (fun vb hvb => ?_) | refine X_q ?_ | refine X_g ?_ | refine X_gf ?_ | refine X_niln ?_ | refine X_nil ?_ | (refine X_var (fun yn bn hn1 hn2 hn3 hn4 hn5 => ?_)) | refine W_seqk (fun K hK => ?_) | refine W_seqr ?_ | refine W_ret ?_ | refine W_skip ?_ | refine W_block ?_ | refine W_exit ?_ | (refine X_s (fun x K hK => ?_); go_simp; refine hK _ _ (Ext.alloc _ _) ?_; clear hK K; refine X_al x ?_; generalize (World.later _ x).heap.size = bn; intro yn hn1 hn2 hn3 hn4 hn5; clear x) | refine W_tt ?_ | refine W_ff ?_ | refine W_test (fun hc => ?_) (fun hc => ?_) | go_step)
  · have hid : e.id < 0 := by simpa using hc
    have hF := (HMM.out 0 (by omega)).fin (by rw [wrOf_snoc, if_neg (by omega)]) (fun j _ _ => by rw [wrOf_snoc, if_neg (by omega)]) HF.out hx1 (ext_l0 w _)
    refine Body_ret hd ⟨by rw [HNO.out], hF.1, ?_⟩
    rw [if_pos HNO.out]; exact hF.2
  have hid : ¬ e.id < 0 := by simpa using hc
  have hid3 : e.id ≤ 3 := HB.out.2.1
  have HIDR := Lib.hid hid
  clear hc
  obtain ⟨i, hi⟩ : ∃ i : Nat, e.id = i := ⟨e.id.toNat, by omega⟩
  have hi4 : i < 4 := by omega
  have hi4' : (i : Int) < 4 := by omega
  have HMI := Lib.hid (HMM.out i hi4)
  clear hid hid3
  obtain ⟨-, r1, r2, r3, r4, r5⟩ := HMI.out.reads
  refine W_draw (by kernel_rfl) (by kernel_rfl) ?_
  repeat' (first | refine X_d (fun vb hvb => ?_) | refine X_dg (fun vb hvb => ?_) | refine X_q ?_ | refine X_g ?_ | refine X_gf ?_ | refine X_niln ?_ | refine X_nil ?_ | (refine X_var (fun yn bn hn1 hn2 hn3 hn4 hn5 => ?_)) | refine W_seqk (fun K hK => ?_) | refine W_seqr ?_ | refine W_ret ?_ | refine W_skip ?_ | refine W_block ?_ | refine W_exit ?_ | (refine X_s (fun x K hK => ?_); go_simp; refine hK _ _ (Ext.alloc _ _) ?_; clear hK K; refine X_al x ?_; generalize (World.later _ x).heap.size = bn; intro yn hn1 hn2 hn3 hn4 hn5; clear x) | refine W_tt ?_ | refine W_ff ?_ | refine W_test (fun hc => ?_) (fun hc => ?_) | go_step)
  refine W_draw (by kernel_rfl) (by kernel_rfl) ?_
  repeat' (first | refine X_d (fun vb hvb => ?_) | refine X_dg (fun vb hvb => ?_) | refine X_q ?_ | refine X_g ?_ | refine X_gf ?_ | refine X_niln ?_ | refine X_nil ?_ | (refine X_var (fun yn bn hn1 hn2 hn3 hn4 hn5 => ?_)) | refine W_seqk (fun K hK => ?_) | refine W_seqr ?_ | refine W_ret ?_ | refine W_skip ?_ | refine W_block ?_ | refine W_exit ?_ | (refine X_s (fun x K hK => ?_); go_simp; refine hK _ _ (Ext.alloc _ _) ?_; clear hK K; refine X_al x ?_; generalize (World.later _ x).heap.size = bn; intro yn hn1 hn2 hn3 hn4 hn5; clear x) | refine W_tt ?_ | refine W_ff ?_ | refine W_test (fun hc => ?_) (fun hc => ?_) | go_step)
  refine X_store (off := 1 + i * 5) HMI.out.blk (fun W3 hM3 hB3 => ?_)
  have HM3 := Lib.hid (HMI.out.storeH hM3 hB3)
  clear r1 r2 r3 r4 r5 hbox hbx2 hw2b
  obtain ⟨hw3b, r1, r2, r3, r4, r5⟩ := HM3.out.reads
  have hbox := HM3.out.box
  have hbx3 := HM3.out.bn1
  repeat' (first | refine X_d (fun vb hvb => ?_) | refine X_dg (fun vb hvb => ?_) | refine X_q ?_ | refine X_g ?_ | refine X_gf ?_ | refine X_niln ?_ | refine X_nil ?_ | (refine X_var (fun yn bn hn1 hn2 hn3 hn4 hn5 => ?_)) | refine W_seqk (fun K hK => ?_) | refine W_seqr ?_ | refine W_ret ?_ | refine W_skip ?_ | refine W_block ?_ | refine W_exit ?_ | (refine X_s (fun x K hK => ?_); go_simp; refine hK _ _ (Ext.alloc _ _) ?_; clear hK K; refine X_al x ?_; generalize (World.later _ x).heap.size = bn; intro yn hn1 hn2 hn3 hn4 hn5; clear x) | refine W_tt ?_ | refine W_ff ?_ | refine W_test (fun hc => ?_) (fun hc => ?_) | go_step)
  · refine W_draw (by kernel_rfl) (by kernel_rfl) ?_
    repeat' (first | refine X_d (fun vb hvb => ?_) | refine X_dg (fun vb hvb => ?_) | refine X_q ?_ | refine X_g ?_ | refine X_gf ?_ | refine X_niln ?_ | refine X_nil ?_ | (refine X_var (fun yn bn hn1 hn2 hn3 hn4 hn5 => ?_)) | refine W_seqk (fun K hK => ?_) | refine W_seqr ?_ | refine W_ret ?_ | refine W_skip ?_ | refine W_block ?_ | refine W_exit ?_ | (refine X_s (fun x K hK => ?_); go_simp; refine hK _ _ (Ext.alloc _ _) ?_; clear hK K; refine X_al x ?_; generalize (World.later _ x).heap.size = bn; intro yn hn1 hn2 hn3 hn4 hn5; clear x) | refine W_tt ?_ | refine W_ff ?_ | refine W_test (fun hc => ?_) (fun hc => ?_) | go_step)
    refine X_store (off := 1 + i * 5 + 1) HM3.out.blk (fun W4 hM4 hB4 => ?_)
    have HM4 := Lib.hid (HM3.out.storeM hM4 hB4)
    clear r1 r2 r3 r4 r5 hbox hbx3 hw3b
    obtain ⟨hw4b, r1, r2, r3, r4, r5⟩ := HM4.out.reads
    have hbox := HM4.out.box
    have hbx4 := HM4.out.bn1
    repeat' (first | refine X_d (fun vb hvb => ?_) | refine X_dg (fun vb hvb => ?_) | refine X_q ?_ | refine X_g ?_ | refine X_gf ?_ | refine X_niln ?_ | refine X_nil ?_ | (refine X_var (fun yn bn hn1 hn2 hn3 hn4 hn5 => ?_)) | refine W_seqk (fun K hK => ?_) | refine W_seqr ?_ | refine W_ret ?_ | refine W_skip ?_ | refine W_block ?_ | refine W_exit ?_ | (refine X_s (fun x K hK => ?_); go_simp; refine hK _ _ (Ext.alloc _ _) ?_; clear hK K; refine X_al x ?_; generalize (World.later _ x).heap.size = bn; intro yn hn1 hn2 hn3 hn4 hn5; clear x) | refine W_tt ?_ | refine W_ff ?_ | refine W_test (fun hc => ?_) (fun hc => ?_) | go_step)
    refine W_draw (by kernel_rfl) (by kernel_rfl) ?_
    repeat' (first | refine X_d (fun vb hvb => ?_) | refine X_dg (fun vb hvb => ?_) | refine X_q ?_ | refine X_g ?_ | refine X_gf ?_ | refine X_niln ?_ | refine X_nil ?_ | (refine X_var (fun yn bn hn1 hn2 hn3 hn4 hn5 => ?_)) | refine W_seqk (fun K hK => ?_) | refine W_seqr ?_ | refine W_ret ?_ | refine W_skip ?_ | refine W_block ?_ | refine W_exit ?_ | (refine X_s (fun x K hK => ?_); go_simp; refine hK _ _ (Ext.alloc _ _) ?_; clear hK K; refine X_al x ?_; generalize (World.later _ x).heap.size = bn; intro yn hn1 hn2 hn3 hn4 hn5; clear x) | refine W_tt ?_ | refine W_ff ?_ | refine W_test (fun hc => ?_) (fun hc => ?_) | go_step)
    refine X_mapset (kenc := ki) (venc := vB) HM4.out.m2 (ints_keys Try.underlying2) Try.underlying103 e.num true (fun W5 hM5 hB5 => ?_)
    have HM5 := Lib.hid (HM4.out.set2 hM5 hB5)
    clear r1 r2 r3 r4 r5 hbox hbx4 hw4b
    obtain ⟨hw5b, r1, r2, r3, r4, r5⟩ := HM5.out.reads
    have hbox := HM5.out.box
    have hbx5 := HM5.out.bn1
    repeat' (first | refine X_d (fun vb hvb => ?_) | refine X_dg (fun vb hvb => ?_) | refine X_q ?_ | refine X_g ?_ | refine X_gf ?_ | refine X_niln ?_ | refine X_nil ?_ | (refine X_var (fun yn bn hn1 hn2 hn3 hn4 hn5 => ?_)) | refine W_seqk (fun K hK => ?_) | refine W_seqr ?_ | refine W_ret ?_ | refine W_skip ?_ | refine W_block ?_ | refine W_exit ?_ | (refine X_s (fun x K hK => ?_); go_simp; refine hK _ _ (Ext.alloc _ _) ?_; clear hK K; refine X_al x ?_; generalize (World.later _ x).heap.size = bn; intro yn hn1 hn2 hn3 hn4 hn5; clear x) | refine W_tt ?_ | refine W_ff ?_ | refine W_test (fun hc => ?_) (fun hc => ?_) | go_step)
    refine W_draw (by kernel_rfl) (by kernel_rfl) ?_
    repeat' (first | refine X_d (fun vb hvb => ?_) | refine X_dg (fun vb hvb => ?_) | refine X_q ?_ | refine X_g ?_ | refine X_gf ?_ | refine X_niln ?_ | refine X_nil ?_ | (refine X_var (fun yn bn hn1 hn2 hn3 hn4 hn5 => ?_)) | refine W_seqk (fun K hK => ?_) | refine W_seqr ?_ | refine W_ret ?_ | refine W_skip ?_ | refine W_block ?_ | refine W_exit ?_ | (refine X_s (fun x K hK => ?_); go_simp; refine hK _ _ (Ext.alloc _ _) ?_; clear hK K; refine X_al x ?_; generalize (World.later _ x).heap.size = bn; intro yn hn1 hn2 hn3 hn4 hn5; clear x) | refine W_tt ?_ | refine W_ff ?_ | refine W_test (fun hc => ?_) (fun hc => ?_) | go_step)
    refine X_mapdel (kenc := ki) HM5.out.m1 (ints_keys Try.underlying2) Try.underlying102 e.num rfl (fun W6 hM6 hB6 => ?_)
    have HM6 := Lib.hid (HM5.out.set1 hM6 hB6)
    repeat' (first | refine X_d (fun vb hvb => ?_) | refine X_dg (fun vb hvb => ?_) | refine X_q ?_ | refine X_g ?_ | refine X_gf ?_ | refine X_niln ?_ | refine X_nil ?_ | (refine X_var (fun yn bn hn1 hn2 hn3 hn4 hn5 => ?_)) | refine W_seqk (fun K hK => ?_) | refine W_seqr ?_ | refine W_ret ?_ | refine W_skip ?_ | refine W_block ?_ | refine W_exit ?_ | (refine X_s (fun x K hK => ?_); go_simp; refine hK _ _ (Ext.alloc _ _) ?_; clear hK K; refine X_al x ?_; generalize (World.later _ x).heap.size = bn; intro yn hn1 hn2 hn3 hn4 hn5; clear x) | refine W_tt ?_ | refine W_ff ?_ | refine W_test (fun hc => ?_) (fun hc => ?_) | go_step)
    have hk : e.kind ≠ 1 := by simpa using hc
    have hF := HM6.out.fin (by rw [wrOf_snoc, if_pos hi]; unfold Wr.step; rw [if_pos hk]; rfl) (fun j _ hj => by rw [wrOf_snoc, if_neg (by omega)]) HF.out hx1 (ext_l0 w _)
    refine Body_ret hd ⟨by rw [HNO.out], hF.1, ?_⟩
    rw [if_pos HNO.out]; exact hF.2
  refine W_draw (by kernel_rfl) (by kernel_rfl) ?_
  repeat' (first | refine X_d (fun vb hvb => ?_) | refine X_dg (fun vb hvb => ?_) | refine X_q ?_ | refine X_g ?_ | refine X_gf ?_ | refine X_niln ?_ | refine X_nil ?_ | (refine X_var (fun yn bn hn1 hn2 hn3 hn4 hn5 => ?_)) | refine W_seqk (fun K hK => ?_) | refine W_seqr ?_ | refine W_ret ?_ | refine W_skip ?_ | refine W_block ?_ | refine W_exit ?_ | (refine X_s (fun x K hK => ?_); go_simp; refine hK _ _ (Ext.alloc _ _) ?_; clear hK K; refine X_al x ?_; generalize (World.later _ x).heap.size = bn; intro yn hn1 hn2 hn3 hn4 hn5; clear x) | refine W_tt ?_ | refine W_ff ?_ | refine W_test (fun hc => ?_) (fun hc => ?_) | go_step)
  refine X_look (kenc := ki) (venc := ki) (z := 0) HM3.out.m0 (ints_keys Try.underlying2) Try.underlying101 e.num ?_
  simp only [Bool.false_eq_true, if_false]
  have hsq1 : 0 ≤ e.seq := HB.out.2.2.1
  have hsq2 : e.seq ≤ 2147483647 := HB.out.2.2.2.1
  repeat' (first | refine X_d (fun vb hvb => ?_) | refine X_dg (fun vb hvb => ?_) | refine X_q ?_ | refine X_g ?_ | refine X_gf ?_ | refine X_niln ?_ | refine X_nil ?_ | (refine X_var (fun yn bn hn1 hn2 hn3 hn4 hn5 => ?_)) | refine W_seqk (fun K hK => ?_) | refine W_seqr ?_ | refine W_ret ?_ | refine W_skip ?_ | refine W_block ?_ | refine W_exit ?_ | (refine X_s (fun x K hK => ?_); go_simp; refine hK _ _ (Ext.alloc _ _) ?_; clear hK K; refine X_al x ?_; generalize (World.later _ x).heap.size = bn; intro yn hn1 hn2 hn3 hn4 hn5; clear x) | refine W_tt ?_ | refine W_ff ?_ | refine W_test (fun hc => ?_) (fun hc => ?_) | go_step)
  refine X_mapset (kenc := ki) (venc := ki) HM3.out.m0 (ints_keys Try.underlying2) Try.underlying101 e.num (gmax (((wrOf l i).next e.num).getD 0) (e.seq + 1)) (fun W4 hM4 hB4 => ?_)
  have HM4 := Lib.hid (HM3.out.set0 hM4 hB4)
  clear r1 r2 r3 r4 r5 hbox hbx3 hw3b
  obtain ⟨hw4b, r1, r2, r3, r4, r5⟩ := HM4.out.reads
  have hbox := HM4.out.box
  have hbx4 := HM4.out.bn1
  repeat' (first | refine X_d (fun vb hvb => ?_) | refine X_dg (fun vb hvb => ?_) | refine X_q ?_ | refine X_g ?_ | refine X_gf ?_ | refine X_niln ?_ | refine X_nil ?_ | (refine X_var (fun yn bn hn1 hn2 hn3 hn4 hn5 => ?_)) | refine W_seqk (fun K hK => ?_) | refine W_seqr ?_ | refine W_ret ?_ | refine W_skip ?_ | refine W_block ?_ | refine W_exit ?_ | (refine X_s (fun x K hK => ?_); go_simp; refine hK _ _ (Ext.alloc _ _) ?_; clear hK K; refine X_al x ?_; generalize (World.later _ x).heap.size = bn; intro yn hn1 hn2 hn3 hn4 hn5; clear x) | refine W_tt ?_ | refine W_ff ?_ | refine W_test (fun hc => ?_) (fun hc => ?_) | go_step)
  refine W_draw (by kernel_rfl) (by kernel_rfl) ?_
  repeat' (first | refine X_d (fun vb hvb => ?_) | refine X_dg (fun vb hvb => ?_) | refine X_q ?_ | refine X_g ?_ | refine X_gf ?_ | refine X_niln ?_ | refine X_nil ?_ | (refine X_var (fun yn bn hn1 hn2 hn3 hn4 hn5 => ?_)) | refine W_seqk (fun K hK => ?_) | refine W_seqr ?_ | refine W_ret ?_ | refine W_skip ?_ | refine W_block ?_ | refine W_exit ?_ | (refine X_s (fun x K hK => ?_); go_simp; refine hK _ _ (Ext.alloc _ _) ?_; clear hK K; refine X_al x ?_; generalize (World.later _ x).heap.size = bn; intro yn hn1 hn2 hn3 hn4 hn5; clear x) | refine W_tt ?_ | refine W_ff ?_ | refine W_test (fun hc => ?_) (fun hc => ?_) | go_step)
  refine X_look (kenc := ki) (venc := ki) (z := 0) HM4.out.m1 (ints_keys Try.underlying2) Try.underlying102 e.num ?_
  simp only [if_true]
  repeat' (first | refine X_d (fun vb hvb => ?_) | refine X_dg (fun vb hvb => ?_) | refine X_q ?_ | refine X_g ?_ | refine X_gf ?_ | refine X_niln ?_ | refine X_nil ?_ | (refine X_var (fun yn bn hn1 hn2 hn3 hn4 hn5 => ?_)) | refine W_seqk (fun K hK => ?_) | refine W_seqr ?_ | refine W_ret ?_ | refine W_skip ?_ | refine W_block ?_ | refine W_exit ?_ | (refine X_s (fun x K hK => ?_); go_simp; refine hK _ _ (Ext.alloc _ _) ?_; clear hK K; refine X_al x ?_; generalize (World.later _ x).heap.size = bn; intro yn hn1 hn2 hn3 hn4 hn5; clear x) | refine W_tt ?_ | refine W_ff ?_ | refine W_test (fun hc => ?_) (fun hc => ?_) | go_step)
  refine W_draw (by kernel_rfl) (by kernel_rfl) ?_
  repeat' (first | refine X_d (fun vb hvb => ?_) | refine X_dg (fun vb hvb => ?_) | refine X_q ?_ | refine X_g ?_ | refine X_gf ?_ | refine X_niln ?_ | refine X_nil ?_ | (refine X_var (fun yn bn hn1 hn2 hn3 hn4 hn5 => ?_)) | refine W_seqk (fun K hK => ?_) | refine W_seqr ?_ | refine W_ret ?_ | refine W_skip ?_ | refine W_block ?_ | refine W_exit ?_ | (refine X_s (fun x K hK => ?_); go_simp; refine hK _ _ (Ext.alloc _ _) ?_; clear hK K; refine X_al x ?_; generalize (World.later _ x).heap.size = bn; intro yn hn1 hn2 hn3 hn4 hn5; clear x) | refine W_tt ?_ | refine W_ff ?_ | refine W_test (fun hc => ?_) (fun hc => ?_) | go_step)
  refine X_glook (kenc := ki) (venc := vB) (z := false) HM4.out.m2 (ints_keys Try.underlying2) Try.underlying103 e.num ?_
  simp only [Bool.false_eq_true, if_false]
  repeat' (first | refine X_d (fun vb hvb => ?_) | refine X_dg (fun vb hvb => ?_) | refine X_q ?_ | refine X_g ?_ | refine X_gf ?_ | refine X_niln ?_ | refine X_nil ?_ | (refine X_var (fun yn bn hn1 hn2 hn3 hn4 hn5 => ?_)) | refine W_seqk (fun K hK => ?_) | refine W_seqr ?_ | refine W_ret ?_ | refine W_skip ?_ | refine W_block ?_ | refine W_exit ?_ | (refine X_s (fun x K hK => ?_); go_simp; refine hK _ _ (Ext.alloc _ _) ?_; clear hK K; refine X_al x ?_; generalize (World.later _ x).heap.size = bn; intro yn hn1 hn2 hn3 hn4 hn5; clear x) | refine W_tt ?_ | refine W_ff ?_ | refine W_test (fun hc => ?_) (fun hc => ?_) | go_step)
  · refine W_draw (by kernel_rfl) (by kernel_rfl) ?_
    repeat' (first | refine X_d (fun vb hvb => ?_) | refine X_dg (fun vb hvb => ?_) | refine X_q ?_ | refine X_g ?_ | refine X_gf ?_ | refine X_niln ?_ | refine X_nil ?_ | (refine X_var (fun yn bn hn1 hn2 hn3 hn4 hn5 => ?_)) | refine W_seqk (fun K hK => ?_) | refine W_seqr ?_ | refine W_ret ?_ | refine W_skip ?_ | refine W_block ?_ | refine W_exit ?_ | (refine X_s (fun x K hK => ?_); go_simp; refine hK _ _ (Ext.alloc _ _) ?_; clear hK K; refine X_al x ?_; generalize (World.later _ x).heap.size = bn; intro yn hn1 hn2 hn3 hn4 hn5; clear x) | refine W_tt ?_ | refine W_ff ?_ | refine W_test (fun hc => ?_) (fun hc => ?_) | go_step)
    refine X_mapset (kenc := ki) (venc := ki) HM4.out.m1 (ints_keys Try.underlying2) Try.underlying102 e.num (l.length : Int) (fun W5 hM5 hB5 => ?_)
    have HM5 := Lib.hid (HM4.out.set1 hM5 hB5)
    repeat' (first | refine X_d (fun vb hvb => ?_) | refine X_dg (fun vb hvb => ?_) | refine X_q ?_ | refine X_g ?_ | refine X_gf ?_ | refine X_niln ?_ | refine X_nil ?_ | (refine X_var (fun yn bn hn1 hn2 hn3 hn4 hn5 => ?_)) | refine W_seqk (fun K hK => ?_) | refine W_seqr ?_ | refine W_ret ?_ | refine W_skip ?_ | refine W_block ?_ | refine W_exit ?_ | (refine X_s (fun x K hK => ?_); go_simp; refine hK _ _ (Ext.alloc _ _) ?_; clear hK K; refine X_al x ?_; generalize (World.later _ x).heap.size = bn; intro yn hn1 hn2 hn3 hn4 hn5; clear x) | refine W_tt ?_ | refine W_ff ?_ | refine W_test (fun hc => ?_) (fun hc => ?_) | go_step)
    have hk : ¬ e.kind ≠ 1 := by have := ‹(e.kind != 1) = false›; simpa using this
    cases hvb
    have hF := HM5.out.fin (by rw [wrOf_snoc, if_pos hi]; unfold Wr.step; rw [if_neg hk, if_pos (by cases hq : (wrOf l i).opens e.num <;> simp [hq] at hc ⊢; exact hc)]; rfl) (fun j _ hj => by rw [wrOf_snoc, if_neg (by omega)]) HF.out hx1 (ext_l0 w _)
    refine Body_ret hd ⟨by rw [HNO.out], hF.1, ?_⟩
    rw [if_pos HNO.out]; exact hF.2
  · have hk : ¬ e.kind ≠ 1 := by have := ‹(e.kind != 1) = false›; simpa using this
    cases hvb
    have hF := HM4.out.fin (by rw [wrOf_snoc, if_pos hi]; unfold Wr.step; rw [if_neg hk, if_neg (by cases hq : (wrOf l i).opens e.num <;> simp [hq] at hc ⊢; exact hc)]; rfl) (fun j _ hj => by rw [wrOf_snoc, if_neg (by omega)]) HF.out hx1 (ext_l0 w _)
    refine Body_ret hd ⟨by rw [HNO.out], hF.1, ?_⟩
    rw [if_pos HNO.out]; exact hF.2
end Go.Ws
