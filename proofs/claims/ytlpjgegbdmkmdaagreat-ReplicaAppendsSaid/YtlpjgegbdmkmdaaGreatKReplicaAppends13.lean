/- Lemmas for the statement ReplicaAppends (joined texts); no condition. -/
import Derived.Test.YtlpjgegbdmkmdaaGreatKReplicaAppends12
namespace Go.Ws
open Go Go.RowKit Go.Proofs
set_option maxHeartbeats 2000000
set_option maxRecDepth 100000
set_option linter.unusedVariables false
set_option linter.unusedSimpArgs false

theorem take11_calls {N : Nat → Prop} {w : World} {uL uI uC u : Value} {s : RepS} {p : Reply} (hN : ∀ k, N k → k < w.heap.size) (h : VR N w uL uI uC s) (hl : s.log.length ≤ 4096) (hm : mayE s.log = true) (hu : RdE w u p.entries) (hul : p.entries.length ≤ 100000) : Ret Tryz.prog 42 #[s.v uL uI uC, p.v u] w fun r w' => Ext w w' ∧ ∃ v', r = .tuple #[v', .int .i64 (s.takeNo p)] ∧ FV N w' v' (s.take p) := by
  have HNN := Lib.hid hN
  clear hN

  have HVR := Lib.hid h
  obtain ⟨A1, c1, rfl, hc1, hcm1, -⟩ := h.rl.rd.ent
  obtain ⟨A2, c2, rfl, -⟩ := h.ri.rd.int
  obtain ⟨A3, c3, rfl, -⟩ := h.rc.rd.int
  clear h

  have HU := Lib.hid hu
  obtain ⟨A4, c4, rfl, -⟩ := hu.ent
  clear hu
  by_cases z0 : p.epoch < 0
  · have hn : s.takeNo p = 2 := by unfold RepS.takeNo; rw [if_pos (by simp [Reply.right]; omega)]
    have ht : s.take p = s := by unfold RepS.take; rw [if_pos (by rw [hn]; decide)]
    rw [hn, ht]
    clear hn ht

    refine Fn_of Tryz.func42 rfl (Nat.le_of_ble_eq_true rfl) ?_; intro A hd hA; simp only [ix, Nat.reduceAdd]; replace hA : A.tmps.size = 156 := hA
    (repeat' (first | refine W_seqk (fun K hK => ?_) | refine W_seqr ?_ | fail)); (first | (refine X_var (fun yn bx hn1 hn2 hn3 hn4 hn5 => ?_)) | (refine X_s (fun x K hK => ?_); go_simp; refine hK _ _ (Ext.alloc _ _) ?_; clear hK K; refine X_al x ?_; generalize (World.later _ x).heap.size = bx; intro yn hn1 hn2 hn3 hn4 hn5; clear x)); have HBbx := Lib.hid (Blk.new hn5.out); have HEbx := Lib.hid yn.ext; have hlbx : (World.heap w).size ≤ bx := hn1; generalize World.later w yn = W0 at *; clear hn1 hn2 hn3 hn4 hn5 yn
    (skip); (first | (refine X_var (fun yn bp hn1 hn2 hn3 hn4 hn5 => ?_)) | (refine X_s (fun x K hK => ?_); go_simp; refine hK _ _ (Ext.alloc _ _) ?_; clear hK K; refine X_al x ?_; generalize (World.later _ x).heap.size = bp; intro yn hn1 hn2 hn3 hn4 hn5; clear x)); have HBbp := Lib.hid (Blk.new hn5.out); have HEbp := Lib.hid yn.ext; have hlbp : (World.heap W0).size ≤ bp := hn1; generalize World.later W0 yn = W1 at *; clear hn1 hn2 hn3 hn4 hn5 yn
    (skip); (first | (refine X_var (fun yn bo hn1 hn2 hn3 hn4 hn5 => ?_)) | (refine X_s (fun x K hK => ?_); go_simp; refine hK _ _ (Ext.alloc _ _) ?_; clear hK K; refine X_al x ?_; generalize (World.later _ x).heap.size = bo; intro yn hn1 hn2 hn3 hn4 hn5; clear x)); have HBbo := Lib.hid (Blk.new hn5.out); have HEbo := Lib.hid yn.ext; have hlbo : (World.heap W1).size ≤ bo := hn1; generalize World.later W1 yn = W at *; clear hn1 hn2 hn3 hn4 hn5 yn
    have HBX := Lib.hid ((fbox2 HBbx.out).later (Ext.trans HEbp.out HEbo.out))
    have HBP := Lib.hid (HBbp.out.later HEbo.out)
    have HE := Lib.hid (Ext.trans (Ext.trans HEbx.out HEbp.out) HEbo.out)
    have hbb : bx < bp := by have := HBbx.out.lt; omega
    have hbb2 : bp < bo := by have := HBbp.out.lt; omega
    have hE0 := HEbx.out.size
    have hE1 := HEbp.out.size
    have HBO := HBbo
    clear HBbx HBbo HBbp HEbx HEbo HEbp
    obtain ⟨hlt, d0, d1, d2, d3, d4, d5, d6, d7, d8, d9, d10⟩ := fcells HBX.out
    have hpl := HBP.out.lt
    have p0 := HBP.out.cell (k := 0) (by simp)
    have p1 := HBP.out.cell (k := 1) (by simp)
    have p2 := HBP.out.cell (k := 2) (by simp)
    have p3 := HBP.out.cell (k := 3) (by simp)
    have p4 := HBP.out.cell (k := 4) (by simp)
    have p5 := HBP.out.cell (k := 5) (by simp)
    have p6 := HBP.out.cell (k := 6) (by simp)
    have p7 := HBP.out.cell (k := 7) (by simp)
    simp at p0 p1 p2 p3 p4 p5 p6 p7
    repeat' (first | refine X_q ?_ | refine X_g ?_ | refine X_gf ?_ | refine X_nil ?_ | refine W_seqk (fun K hK => ?_) | refine W_seqr ?_ | refine W_tt ?_ | go_step)

    refine X_fload HBX.out ?_ (hu := Tryz.underlying33)
    skip
    refine X_store (off := 0) HBO.out (fun W1 hM1 hB1 => ?_); replace HE := Lib.hid (Ext.fresh HE.out hM1 (fun k hk => by subst hk; omega)); replace HBO := Lib.hid hB1; clear hM1 hB1
    replace HBO := Lib.hid (fput HBO.out)
    repeat' (first | refine X_q ?_ | refine X_nil ?_ | refine W_ret ?_ | go_step)
    exact Body_retcellv (cs := RepS.cs (s) _ _ _) hd ⟨HE.out, _, rfl, _, _, _, rfl, HVR.out.later HE.out⟩ HBO.out (fun k hk => cs_fenc hk) Tryz.underlying33
  · by_cases z1 : p.base < 0
    · have hn : s.takeNo p = 2 := by unfold RepS.takeNo; rw [if_pos (by simp [Reply.right]; omega)]
      have ht : s.take p = s := by unfold RepS.take; rw [if_pos (by rw [hn]; decide)]
      rw [hn, ht]
      clear hn ht

      refine Fn_of Tryz.func42 rfl (Nat.le_of_ble_eq_true rfl) ?_; intro A hd hA; simp only [ix, Nat.reduceAdd]; replace hA : A.tmps.size = 156 := hA
      (repeat' (first | refine W_seqk (fun K hK => ?_) | refine W_seqr ?_ | fail)); (first | (refine X_var (fun yn bx hn1 hn2 hn3 hn4 hn5 => ?_)) | (refine X_s (fun x K hK => ?_); go_simp; refine hK _ _ (Ext.alloc _ _) ?_; clear hK K; refine X_al x ?_; generalize (World.later _ x).heap.size = bx; intro yn hn1 hn2 hn3 hn4 hn5; clear x)); have HBbx := Lib.hid (Blk.new hn5.out); have HEbx := Lib.hid yn.ext; have hlbx : (World.heap w).size ≤ bx := hn1; generalize World.later w yn = W0 at *; clear hn1 hn2 hn3 hn4 hn5 yn
      (skip); (first | (refine X_var (fun yn bp hn1 hn2 hn3 hn4 hn5 => ?_)) | (refine X_s (fun x K hK => ?_); go_simp; refine hK _ _ (Ext.alloc _ _) ?_; clear hK K; refine X_al x ?_; generalize (World.later _ x).heap.size = bp; intro yn hn1 hn2 hn3 hn4 hn5; clear x)); have HBbp := Lib.hid (Blk.new hn5.out); have HEbp := Lib.hid yn.ext; have hlbp : (World.heap W0).size ≤ bp := hn1; generalize World.later W0 yn = W1 at *; clear hn1 hn2 hn3 hn4 hn5 yn
      (skip); (first | (refine X_var (fun yn bo hn1 hn2 hn3 hn4 hn5 => ?_)) | (refine X_s (fun x K hK => ?_); go_simp; refine hK _ _ (Ext.alloc _ _) ?_; clear hK K; refine X_al x ?_; generalize (World.later _ x).heap.size = bo; intro yn hn1 hn2 hn3 hn4 hn5; clear x)); have HBbo := Lib.hid (Blk.new hn5.out); have HEbo := Lib.hid yn.ext; have hlbo : (World.heap W1).size ≤ bo := hn1; generalize World.later W1 yn = W at *; clear hn1 hn2 hn3 hn4 hn5 yn
      have HBX := Lib.hid ((fbox2 HBbx.out).later (Ext.trans HEbp.out HEbo.out))
      have HBP := Lib.hid (HBbp.out.later HEbo.out)
      have HE := Lib.hid (Ext.trans (Ext.trans HEbx.out HEbp.out) HEbo.out)
      have hbb : bx < bp := by have := HBbx.out.lt; omega
      have hbb2 : bp < bo := by have := HBbp.out.lt; omega
      have hE0 := HEbx.out.size
      have hE1 := HEbp.out.size
      have HBO := HBbo
      clear HBbx HBbo HBbp HEbx HEbo HEbp
      obtain ⟨hlt, d0, d1, d2, d3, d4, d5, d6, d7, d8, d9, d10⟩ := fcells HBX.out
      have hpl := HBP.out.lt
      have p0 := HBP.out.cell (k := 0) (by simp)
      have p1 := HBP.out.cell (k := 1) (by simp)
      have p2 := HBP.out.cell (k := 2) (by simp)
      have p3 := HBP.out.cell (k := 3) (by simp)
      have p4 := HBP.out.cell (k := 4) (by simp)
      have p5 := HBP.out.cell (k := 5) (by simp)
      have p6 := HBP.out.cell (k := 6) (by simp)
      have p7 := HBP.out.cell (k := 7) (by simp)
      simp at p0 p1 p2 p3 p4 p5 p6 p7
      repeat' (first | refine X_gt ?_ | refine X_q ?_ | refine X_g ?_ | refine X_gf ?_ | refine X_nil ?_ | refine W_seqk (fun K hK => ?_) | refine W_seqr ?_ | refine W_tt ?_ | go_step)

      refine X_fload HBX.out ?_ (hu := Tryz.underlying33)
      skip
      refine X_store (off := 0) HBO.out (fun W1 hM1 hB1 => ?_); replace HE := Lib.hid (Ext.fresh HE.out hM1 (fun k hk => by subst hk; omega)); replace HBO := Lib.hid hB1; clear hM1 hB1
      replace HBO := Lib.hid (fput HBO.out)
      repeat' (first | refine X_q ?_ | refine X_nil ?_ | refine W_ret ?_ | go_step)
      exact Body_retcellv (cs := RepS.cs (s) _ _ _) hd ⟨HE.out, _, rfl, _, _, _, rfl, HVR.out.later HE.out⟩ HBO.out (fun k hk => cs_fenc hk) Tryz.underlying33
    · by_cases z2 : p.last < 0
      · have hn : s.takeNo p = 2 := by unfold RepS.takeNo; rw [if_pos (by simp [Reply.right]; omega)]
        have ht : s.take p = s := by unfold RepS.take; rw [if_pos (by rw [hn]; decide)]
        rw [hn, ht]
        clear hn ht

        refine Fn_of Tryz.func42 rfl (Nat.le_of_ble_eq_true rfl) ?_; intro A hd hA; simp only [ix, Nat.reduceAdd]; replace hA : A.tmps.size = 156 := hA
        (repeat' (first | refine W_seqk (fun K hK => ?_) | refine W_seqr ?_ | fail)); (first | (refine X_var (fun yn bx hn1 hn2 hn3 hn4 hn5 => ?_)) | (refine X_s (fun x K hK => ?_); go_simp; refine hK _ _ (Ext.alloc _ _) ?_; clear hK K; refine X_al x ?_; generalize (World.later _ x).heap.size = bx; intro yn hn1 hn2 hn3 hn4 hn5; clear x)); have HBbx := Lib.hid (Blk.new hn5.out); have HEbx := Lib.hid yn.ext; have hlbx : (World.heap w).size ≤ bx := hn1; generalize World.later w yn = W0 at *; clear hn1 hn2 hn3 hn4 hn5 yn
        (skip); (first | (refine X_var (fun yn bp hn1 hn2 hn3 hn4 hn5 => ?_)) | (refine X_s (fun x K hK => ?_); go_simp; refine hK _ _ (Ext.alloc _ _) ?_; clear hK K; refine X_al x ?_; generalize (World.later _ x).heap.size = bp; intro yn hn1 hn2 hn3 hn4 hn5; clear x)); have HBbp := Lib.hid (Blk.new hn5.out); have HEbp := Lib.hid yn.ext; have hlbp : (World.heap W0).size ≤ bp := hn1; generalize World.later W0 yn = W1 at *; clear hn1 hn2 hn3 hn4 hn5 yn
        (skip); (first | (refine X_var (fun yn bo hn1 hn2 hn3 hn4 hn5 => ?_)) | (refine X_s (fun x K hK => ?_); go_simp; refine hK _ _ (Ext.alloc _ _) ?_; clear hK K; refine X_al x ?_; generalize (World.later _ x).heap.size = bo; intro yn hn1 hn2 hn3 hn4 hn5; clear x)); have HBbo := Lib.hid (Blk.new hn5.out); have HEbo := Lib.hid yn.ext; have hlbo : (World.heap W1).size ≤ bo := hn1; generalize World.later W1 yn = W at *; clear hn1 hn2 hn3 hn4 hn5 yn
        have HBX := Lib.hid ((fbox2 HBbx.out).later (Ext.trans HEbp.out HEbo.out))
        have HBP := Lib.hid (HBbp.out.later HEbo.out)
        have HE := Lib.hid (Ext.trans (Ext.trans HEbx.out HEbp.out) HEbo.out)
        have hbb : bx < bp := by have := HBbx.out.lt; omega
        have hbb2 : bp < bo := by have := HBbp.out.lt; omega
        have hE0 := HEbx.out.size
        have hE1 := HEbp.out.size
        have HBO := HBbo
        clear HBbx HBbo HBbp HEbx HEbo HEbp
        obtain ⟨hlt, d0, d1, d2, d3, d4, d5, d6, d7, d8, d9, d10⟩ := fcells HBX.out
        have hpl := HBP.out.lt
        have p0 := HBP.out.cell (k := 0) (by simp)
        have p1 := HBP.out.cell (k := 1) (by simp)
        have p2 := HBP.out.cell (k := 2) (by simp)
        have p3 := HBP.out.cell (k := 3) (by simp)
        have p4 := HBP.out.cell (k := 4) (by simp)
        have p5 := HBP.out.cell (k := 5) (by simp)
        have p6 := HBP.out.cell (k := 6) (by simp)
        have p7 := HBP.out.cell (k := 7) (by simp)
        simp at p0 p1 p2 p3 p4 p5 p6 p7
        repeat' (first | refine X_gt ?_ | refine X_q ?_ | refine X_g ?_ | refine X_gf ?_ | refine X_nil ?_ | refine W_seqk (fun K hK => ?_) | refine W_seqr ?_ | refine W_tt ?_ | go_step)

        refine X_fload HBX.out ?_ (hu := Tryz.underlying33)
        skip
        refine X_store (off := 0) HBO.out (fun W1 hM1 hB1 => ?_); replace HE := Lib.hid (Ext.fresh HE.out hM1 (fun k hk => by subst hk; omega)); replace HBO := Lib.hid hB1; clear hM1 hB1
        replace HBO := Lib.hid (fput HBO.out)
        repeat' (first | refine X_q ?_ | refine X_nil ?_ | refine W_ret ?_ | go_step)
        exact Body_retcellv (cs := RepS.cs (s) _ _ _) hd ⟨HE.out, _, rfl, _, _, _, rfl, HVR.out.later HE.out⟩ HBO.out (fun k hk => cs_fenc hk) Tryz.underlying33
      · by_cases z3 : p.cutEpoch < 0
        · have hn : s.takeNo p = 2 := by unfold RepS.takeNo; rw [if_pos (by simp [Reply.right]; omega)]
          have ht : s.take p = s := by unfold RepS.take; rw [if_pos (by rw [hn]; decide)]
          rw [hn, ht]
          clear hn ht

          refine Fn_of Tryz.func42 rfl (Nat.le_of_ble_eq_true rfl) ?_; intro A hd hA; simp only [ix, Nat.reduceAdd]; replace hA : A.tmps.size = 156 := hA
          (repeat' (first | refine W_seqk (fun K hK => ?_) | refine W_seqr ?_ | fail)); (first | (refine X_var (fun yn bx hn1 hn2 hn3 hn4 hn5 => ?_)) | (refine X_s (fun x K hK => ?_); go_simp; refine hK _ _ (Ext.alloc _ _) ?_; clear hK K; refine X_al x ?_; generalize (World.later _ x).heap.size = bx; intro yn hn1 hn2 hn3 hn4 hn5; clear x)); have HBbx := Lib.hid (Blk.new hn5.out); have HEbx := Lib.hid yn.ext; have hlbx : (World.heap w).size ≤ bx := hn1; generalize World.later w yn = W0 at *; clear hn1 hn2 hn3 hn4 hn5 yn
          (skip); (first | (refine X_var (fun yn bp hn1 hn2 hn3 hn4 hn5 => ?_)) | (refine X_s (fun x K hK => ?_); go_simp; refine hK _ _ (Ext.alloc _ _) ?_; clear hK K; refine X_al x ?_; generalize (World.later _ x).heap.size = bp; intro yn hn1 hn2 hn3 hn4 hn5; clear x)); have HBbp := Lib.hid (Blk.new hn5.out); have HEbp := Lib.hid yn.ext; have hlbp : (World.heap W0).size ≤ bp := hn1; generalize World.later W0 yn = W1 at *; clear hn1 hn2 hn3 hn4 hn5 yn
          (skip); (first | (refine X_var (fun yn bo hn1 hn2 hn3 hn4 hn5 => ?_)) | (refine X_s (fun x K hK => ?_); go_simp; refine hK _ _ (Ext.alloc _ _) ?_; clear hK K; refine X_al x ?_; generalize (World.later _ x).heap.size = bo; intro yn hn1 hn2 hn3 hn4 hn5; clear x)); have HBbo := Lib.hid (Blk.new hn5.out); have HEbo := Lib.hid yn.ext; have hlbo : (World.heap W1).size ≤ bo := hn1; generalize World.later W1 yn = W at *; clear hn1 hn2 hn3 hn4 hn5 yn
          have HBX := Lib.hid ((fbox2 HBbx.out).later (Ext.trans HEbp.out HEbo.out))
          have HBP := Lib.hid (HBbp.out.later HEbo.out)
          have HE := Lib.hid (Ext.trans (Ext.trans HEbx.out HEbp.out) HEbo.out)
          have hbb : bx < bp := by have := HBbx.out.lt; omega
          have hbb2 : bp < bo := by have := HBbp.out.lt; omega
          have hE0 := HEbx.out.size
          have hE1 := HEbp.out.size
          have HBO := HBbo
          clear HBbx HBbo HBbp HEbx HEbo HEbp
          obtain ⟨hlt, d0, d1, d2, d3, d4, d5, d6, d7, d8, d9, d10⟩ := fcells HBX.out
          have hpl := HBP.out.lt
          have p0 := HBP.out.cell (k := 0) (by simp)
          have p1 := HBP.out.cell (k := 1) (by simp)
          have p2 := HBP.out.cell (k := 2) (by simp)
          have p3 := HBP.out.cell (k := 3) (by simp)
          have p4 := HBP.out.cell (k := 4) (by simp)
          have p5 := HBP.out.cell (k := 5) (by simp)
          have p6 := HBP.out.cell (k := 6) (by simp)
          have p7 := HBP.out.cell (k := 7) (by simp)
          simp at p0 p1 p2 p3 p4 p5 p6 p7
          repeat' (first | refine X_gt ?_ | refine X_q ?_ | refine X_g ?_ | refine X_gf ?_ | refine X_nil ?_ | refine W_seqk (fun K hK => ?_) | refine W_seqr ?_ | refine W_tt ?_ | go_step)

          refine X_fload HBX.out ?_ (hu := Tryz.underlying33)
          skip
          refine X_store (off := 0) HBO.out (fun W1 hM1 hB1 => ?_); replace HE := Lib.hid (Ext.fresh HE.out hM1 (fun k hk => by subst hk; omega)); replace HBO := Lib.hid hB1; clear hM1 hB1
          replace HBO := Lib.hid (fput HBO.out)
          repeat' (first | refine X_q ?_ | refine X_nil ?_ | refine W_ret ?_ | go_step)
          exact Body_retcellv (cs := RepS.cs (s) _ _ _) hd ⟨HE.out, _, rfl, _, _, _, rfl, HVR.out.later HE.out⟩ HBO.out (fun k hk => cs_fenc hk) Tryz.underlying33
        · by_cases z4 : p.cutEnd < 0
          · have hn : s.takeNo p = 2 := by unfold RepS.takeNo; rw [if_pos (by simp [Reply.right]; omega)]
            have ht : s.take p = s := by unfold RepS.take; rw [if_pos (by rw [hn]; decide)]
            rw [hn, ht]
            clear hn ht

            refine Fn_of Tryz.func42 rfl (Nat.le_of_ble_eq_true rfl) ?_; intro A hd hA; simp only [ix, Nat.reduceAdd]; replace hA : A.tmps.size = 156 := hA
            (repeat' (first | refine W_seqk (fun K hK => ?_) | refine W_seqr ?_ | fail)); (first | (refine X_var (fun yn bx hn1 hn2 hn3 hn4 hn5 => ?_)) | (refine X_s (fun x K hK => ?_); go_simp; refine hK _ _ (Ext.alloc _ _) ?_; clear hK K; refine X_al x ?_; generalize (World.later _ x).heap.size = bx; intro yn hn1 hn2 hn3 hn4 hn5; clear x)); have HBbx := Lib.hid (Blk.new hn5.out); have HEbx := Lib.hid yn.ext; have hlbx : (World.heap w).size ≤ bx := hn1; generalize World.later w yn = W0 at *; clear hn1 hn2 hn3 hn4 hn5 yn
            (skip); (first | (refine X_var (fun yn bp hn1 hn2 hn3 hn4 hn5 => ?_)) | (refine X_s (fun x K hK => ?_); go_simp; refine hK _ _ (Ext.alloc _ _) ?_; clear hK K; refine X_al x ?_; generalize (World.later _ x).heap.size = bp; intro yn hn1 hn2 hn3 hn4 hn5; clear x)); have HBbp := Lib.hid (Blk.new hn5.out); have HEbp := Lib.hid yn.ext; have hlbp : (World.heap W0).size ≤ bp := hn1; generalize World.later W0 yn = W1 at *; clear hn1 hn2 hn3 hn4 hn5 yn
            (skip); (first | (refine X_var (fun yn bo hn1 hn2 hn3 hn4 hn5 => ?_)) | (refine X_s (fun x K hK => ?_); go_simp; refine hK _ _ (Ext.alloc _ _) ?_; clear hK K; refine X_al x ?_; generalize (World.later _ x).heap.size = bo; intro yn hn1 hn2 hn3 hn4 hn5; clear x)); have HBbo := Lib.hid (Blk.new hn5.out); have HEbo := Lib.hid yn.ext; have hlbo : (World.heap W1).size ≤ bo := hn1; generalize World.later W1 yn = W at *; clear hn1 hn2 hn3 hn4 hn5 yn
            have HBX := Lib.hid ((fbox2 HBbx.out).later (Ext.trans HEbp.out HEbo.out))
            have HBP := Lib.hid (HBbp.out.later HEbo.out)
            have HE := Lib.hid (Ext.trans (Ext.trans HEbx.out HEbp.out) HEbo.out)
            have hbb : bx < bp := by have := HBbx.out.lt; omega
            have hbb2 : bp < bo := by have := HBbp.out.lt; omega
            have hE0 := HEbx.out.size
            have hE1 := HEbp.out.size
            have HBO := HBbo
            clear HBbx HBbo HBbp HEbx HEbo HEbp
            obtain ⟨hlt, d0, d1, d2, d3, d4, d5, d6, d7, d8, d9, d10⟩ := fcells HBX.out
            have hpl := HBP.out.lt
            have p0 := HBP.out.cell (k := 0) (by simp)
            have p1 := HBP.out.cell (k := 1) (by simp)
            have p2 := HBP.out.cell (k := 2) (by simp)
            have p3 := HBP.out.cell (k := 3) (by simp)
            have p4 := HBP.out.cell (k := 4) (by simp)
            have p5 := HBP.out.cell (k := 5) (by simp)
            have p6 := HBP.out.cell (k := 6) (by simp)
            have p7 := HBP.out.cell (k := 7) (by simp)
            simp at p0 p1 p2 p3 p4 p5 p6 p7
            repeat' (first | refine X_gt ?_ | refine X_q ?_ | refine X_g ?_ | refine X_gf ?_ | refine X_nil ?_ | refine W_seqk (fun K hK => ?_) | refine W_seqr ?_ | refine W_tt ?_ | go_step)

            refine X_fload HBX.out ?_ (hu := Tryz.underlying33)
            skip
            refine X_store (off := 0) HBO.out (fun W1 hM1 hB1 => ?_); replace HE := Lib.hid (Ext.fresh HE.out hM1 (fun k hk => by subst hk; omega)); replace HBO := Lib.hid hB1; clear hM1 hB1
            replace HBO := Lib.hid (fput HBO.out)
            repeat' (first | refine X_q ?_ | refine X_nil ?_ | refine W_ret ?_ | go_step)
            exact Body_retcellv (cs := RepS.cs (s) _ _ _) hd ⟨HE.out, _, rfl, _, _, _, rfl, HVR.out.later HE.out⟩ HBO.out (fun k hk => cs_fenc hk) Tryz.underlying33
          · by_cases z5 : p.high < 0
            · have hn : s.takeNo p = 2 := by unfold RepS.takeNo; rw [if_pos (by simp [Reply.right]; omega)]
              have ht : s.take p = s := by unfold RepS.take; rw [if_pos (by rw [hn]; decide)]
              rw [hn, ht]
              clear hn ht

              refine Fn_of Tryz.func42 rfl (Nat.le_of_ble_eq_true rfl) ?_; intro A hd hA; simp only [ix, Nat.reduceAdd]; replace hA : A.tmps.size = 156 := hA
              (repeat' (first | refine W_seqk (fun K hK => ?_) | refine W_seqr ?_ | fail)); (first | (refine X_var (fun yn bx hn1 hn2 hn3 hn4 hn5 => ?_)) | (refine X_s (fun x K hK => ?_); go_simp; refine hK _ _ (Ext.alloc _ _) ?_; clear hK K; refine X_al x ?_; generalize (World.later _ x).heap.size = bx; intro yn hn1 hn2 hn3 hn4 hn5; clear x)); have HBbx := Lib.hid (Blk.new hn5.out); have HEbx := Lib.hid yn.ext; have hlbx : (World.heap w).size ≤ bx := hn1; generalize World.later w yn = W0 at *; clear hn1 hn2 hn3 hn4 hn5 yn
              (skip); (first | (refine X_var (fun yn bp hn1 hn2 hn3 hn4 hn5 => ?_)) | (refine X_s (fun x K hK => ?_); go_simp; refine hK _ _ (Ext.alloc _ _) ?_; clear hK K; refine X_al x ?_; generalize (World.later _ x).heap.size = bp; intro yn hn1 hn2 hn3 hn4 hn5; clear x)); have HBbp := Lib.hid (Blk.new hn5.out); have HEbp := Lib.hid yn.ext; have hlbp : (World.heap W0).size ≤ bp := hn1; generalize World.later W0 yn = W1 at *; clear hn1 hn2 hn3 hn4 hn5 yn
              (skip); (first | (refine X_var (fun yn bo hn1 hn2 hn3 hn4 hn5 => ?_)) | (refine X_s (fun x K hK => ?_); go_simp; refine hK _ _ (Ext.alloc _ _) ?_; clear hK K; refine X_al x ?_; generalize (World.later _ x).heap.size = bo; intro yn hn1 hn2 hn3 hn4 hn5; clear x)); have HBbo := Lib.hid (Blk.new hn5.out); have HEbo := Lib.hid yn.ext; have hlbo : (World.heap W1).size ≤ bo := hn1; generalize World.later W1 yn = W at *; clear hn1 hn2 hn3 hn4 hn5 yn
              have HBX := Lib.hid ((fbox2 HBbx.out).later (Ext.trans HEbp.out HEbo.out))
              have HBP := Lib.hid (HBbp.out.later HEbo.out)
              have HE := Lib.hid (Ext.trans (Ext.trans HEbx.out HEbp.out) HEbo.out)
              have hbb : bx < bp := by have := HBbx.out.lt; omega
              have hbb2 : bp < bo := by have := HBbp.out.lt; omega
              have hE0 := HEbx.out.size
              have hE1 := HEbp.out.size
              have HBO := HBbo
              clear HBbx HBbo HBbp HEbx HEbo HEbp
              obtain ⟨hlt, d0, d1, d2, d3, d4, d5, d6, d7, d8, d9, d10⟩ := fcells HBX.out
              have hpl := HBP.out.lt
              have p0 := HBP.out.cell (k := 0) (by simp)
              have p1 := HBP.out.cell (k := 1) (by simp)
              have p2 := HBP.out.cell (k := 2) (by simp)
              have p3 := HBP.out.cell (k := 3) (by simp)
              have p4 := HBP.out.cell (k := 4) (by simp)
              have p5 := HBP.out.cell (k := 5) (by simp)
              have p6 := HBP.out.cell (k := 6) (by simp)
              have p7 := HBP.out.cell (k := 7) (by simp)
              simp at p0 p1 p2 p3 p4 p5 p6 p7
              repeat' (first | refine X_gt ?_ | refine X_q ?_ | refine X_nil ?_ | refine W_seqk (fun K hK => ?_) | refine W_seqr ?_ | refine W_tt ?_ | go_step)

              refine X_fload HBX.out ?_ (hu := Tryz.underlying33)
              skip
              refine X_store (off := 0) HBO.out (fun W1 hM1 hB1 => ?_); replace HE := Lib.hid (Ext.fresh HE.out hM1 (fun k hk => by subst hk; omega)); replace HBO := Lib.hid hB1; clear hM1 hB1
              replace HBO := Lib.hid (fput HBO.out)
              repeat' (first | refine X_q ?_ | refine X_nil ?_ | refine W_ret ?_ | go_step)
              exact Body_retcellv (cs := RepS.cs (s) _ _ _) hd ⟨HE.out, _, rfl, _, _, _, rfl, HVR.out.later HE.out⟩ HBO.out (fun k hk => cs_fenc hk) Tryz.underlying33
            · have hright : p.right = entsFrom p.last p.entries := by
                unfold Reply.right
                rw [decide_eq_true (by omega : (0:Int) ≤ p.epoch), decide_eq_true (by omega : (0:Int) ≤ p.base), decide_eq_true (by omega : (0:Int) ≤ p.last), decide_eq_true (by omega : (0:Int) ≤ p.cutEpoch), decide_eq_true (by omega : (0:Int) ≤ p.cutEnd), decide_eq_true (by omega : (0:Int) ≤ p.high)]; simp
              have HRT := Lib.hid hright
              clear hright

              refine Fn_of Tryz.func42 rfl (Nat.le_of_ble_eq_true rfl) ?_; intro A hd hA; simp only [ix, Nat.reduceAdd]; replace hA : A.tmps.size = 156 := hA
              (repeat' (first | refine W_seqk (fun K hK => ?_) | refine W_seqr ?_ | fail)); (first | (refine X_var (fun yn bx hn1 hn2 hn3 hn4 hn5 => ?_)) | (refine X_s (fun x K hK => ?_); go_simp; refine hK _ _ (Ext.alloc _ _) ?_; clear hK K; refine X_al x ?_; generalize (World.later _ x).heap.size = bx; intro yn hn1 hn2 hn3 hn4 hn5; clear x)); have HBbx := Lib.hid (Blk.new hn5.out); have HEbx := Lib.hid yn.ext; have hlbx : (World.heap w).size ≤ bx := hn1; generalize World.later w yn = W0 at *; clear hn1 hn2 hn3 hn4 hn5 yn
              (skip); (first | (refine X_var (fun yn bp hn1 hn2 hn3 hn4 hn5 => ?_)) | (refine X_s (fun x K hK => ?_); go_simp; refine hK _ _ (Ext.alloc _ _) ?_; clear hK K; refine X_al x ?_; generalize (World.later _ x).heap.size = bp; intro yn hn1 hn2 hn3 hn4 hn5; clear x)); have HBbp := Lib.hid (Blk.new hn5.out); have HEbp := Lib.hid yn.ext; have hlbp : (World.heap W0).size ≤ bp := hn1; generalize World.later W0 yn = W1 at *; clear hn1 hn2 hn3 hn4 hn5 yn
              (skip); (first | (refine X_var (fun yn bo hn1 hn2 hn3 hn4 hn5 => ?_)) | (refine X_s (fun x K hK => ?_); go_simp; refine hK _ _ (Ext.alloc _ _) ?_; clear hK K; refine X_al x ?_; generalize (World.later _ x).heap.size = bo; intro yn hn1 hn2 hn3 hn4 hn5; clear x)); have HBbo := Lib.hid (Blk.new hn5.out); have HEbo := Lib.hid yn.ext; have hlbo : (World.heap W1).size ≤ bo := hn1; generalize World.later W1 yn = W at *; clear hn1 hn2 hn3 hn4 hn5 yn
              have HBX := Lib.hid ((fbox2 HBbx.out).later (Ext.trans HEbp.out HEbo.out))
              have HBP := Lib.hid (HBbp.out.later HEbo.out)
              have HE := Lib.hid (Ext.trans (Ext.trans HEbx.out HEbp.out) HEbo.out)
              have hbb : bx < bp := by have := HBbx.out.lt; omega
              have hbb2 : bp < bo := by have := HBbp.out.lt; omega
              have hE0 := HEbx.out.size
              have hE1 := HEbp.out.size
              have HBO := HBbo
              clear HBbx HBbo HBbp HEbx HEbo HEbp
              obtain ⟨hlt, d0, d1, d2, d3, d4, d5, d6, d7, d8, d9, d10⟩ := fcells HBX.out
              have hpl := HBP.out.lt
              have p0 := HBP.out.cell (k := 0) (by simp)
              have p1 := HBP.out.cell (k := 1) (by simp)
              have p2 := HBP.out.cell (k := 2) (by simp)
              have p3 := HBP.out.cell (k := 3) (by simp)
              have p4 := HBP.out.cell (k := 4) (by simp)
              have p5 := HBP.out.cell (k := 5) (by simp)
              have p6 := HBP.out.cell (k := 6) (by simp)
              have p7 := HBP.out.cell (k := 7) (by simp)
              simp at p0 p1 p2 p3 p4 p5 p6 p7

              obtain ⟨A6, c6, hA6, -, -, HR⟩ := (HU.out.later HE.out).ent
              cases hA6
              repeat' (first | refine X_gt ?_ | refine X_q ?_ | refine X_nil ?_ | refine W_seqk (fun K hK => ?_) | refine W_seqr ?_ | refine W_skip ?_ | refine W_block ?_ | refine W_ff ?_ | go_step)
              refine W_loops [2, 3, 4, 5, 6, 7] (fun n vs w' => ∃ (k : Nat) (last : Int), Ext W w' ∧ k + n = p.entries.length ∧ vs = [.pointer (some ⟨bx, 0, none⟩), .pointer (some ⟨bp, 0, none⟩), .pointer (some ⟨bo, 0, none⟩), .int .i64 0, .int .i64 last, .int .i64 k] ∧ entsFrom last (p.entries.drop k) = entsFrom p.last p.entries) p.entries.length hd hA (by decide) ⟨0, p.last, by simp, by omega, by simp, by simp⟩ ?_
              clear hd hA A; intro n vs B w' hd hA _ ⟨k, last, hW, hk, hvs, hmm⟩; subst hvs
              obtain ⟨y, rfl⟩ := hW.get
              clear hW
              replace HE := Lib.hid (Ext.trans HE.out y.ext)
              replace HBX := Lib.hid (HBX.out.later y.ext)
              replace HBP := Lib.hid (HBP.out.later y.ext)
              replace HBO := Lib.hid (HBO.out.later y.ext)
              clear hlt d0 d1 d2 d3 d4 d5 d6 d7 d8 d9 d10
              clear hpl p0 p1 p2 p3 p4 p5 p6 p7

              clear HR
              have HWE := Lib.hid y.ext
              generalize World.later W y = W5 at *
              clear y
              obtain ⟨hlt, d0, d1, d2, d3, d4, d5, d6, d7, d8, d9, d10⟩ := fcells HBX.out
              have hpl := HBP.out.lt
              have p0 := HBP.out.cell (k := 0) (by simp)
              have p1 := HBP.out.cell (k := 1) (by simp)
              have p2 := HBP.out.cell (k := 2) (by simp)
              have p3 := HBP.out.cell (k := 3) (by simp)
              have p4 := HBP.out.cell (k := 4) (by simp)
              have p5 := HBP.out.cell (k := 5) (by simp)
              have p6 := HBP.out.cell (k := 6) (by simp)
              have p7 := HBP.out.cell (k := 7) (by simp)
              simp at p0 p1 p2 p3 p4 p5 p6 p7

              obtain ⟨A6, c6, hA6, -, -, HR⟩ := (HU.out.later HE.out).ent
              cases hA6
              simp only [List.zip_cons_cons, List.zip_nil_right, List.zip_nil_left]
              by_cases hlt2 : k < p.entries.length
              · obtain ⟨e, b3, o3, HE3, rfl, hb3, x0, x1, x2, x3, x4, x5⟩ := HR.out k hlt2
                have hki : (k : Int) < p.entries.length := by omega
                rw [drop_at HE3.out, entsFrom_cons] at hmm
                by_cases g1 : e.ep < last
                · have hf : entsFrom p.last p.entries = false := by rw [← hmm, decide_eq_false (by omega)]; simp
                  have hn : s.takeNo p = 2 := by unfold RepS.takeNo; rw [if_pos (by rw [HRT.out, hf])]
                  have ht : s.take p = s := by unfold RepS.take; rw [if_pos (by rw [hn]; decide)]
                  rw [hn, ht]
                  clear hn ht
                  clear hf hmm
                  repeat' (first | (refine X_gf2 ?_) | refine X_q ?_ | refine X_g ?_ | refine X_gf ?_ | refine X_nil ?_ | refine W_seqk (fun K hK => ?_) | refine W_seqr ?_ | refine W_skip ?_ | refine W_block ?_ | refine W_tt ?_ | go_step)

                  refine X_fload HBX.out ?_ (hu := Tryz.underlying33)
                  skip
                  refine X_store (off := 0) HBO.out (fun W1 hM1 hB1 => ?_); replace HE := Lib.hid (Ext.fresh HE.out hM1 (fun k hk => by subst hk; omega)); replace HBO := Lib.hid hB1; clear hM1 hB1
                  replace HBO := Lib.hid (fput HBO.out)
                  repeat' (first | refine X_q ?_ | refine X_nil ?_ | refine W_ret ?_ | go_step)
                  exact Body_retcellv (cs := RepS.cs (s) _ _ _) hd ⟨HE.out, _, rfl, _, _, _, rfl, HVR.out.later HE.out⟩ HBO.out (fun k hk => cs_fenc hk) Tryz.underlying33

                · by_cases g2 : rightB e = true
                  · have hmm' : entsFrom e.ep (p.entries.drop (k + 1)) = entsFrom p.last p.entries := by rw [← hmm, decide_eq_true (by omega), g2]; simp
                    have HM := Lib.hid hmm'
                    clear hmm hmm'
                    have RGT : Hid (∀ W, Pure Tryz.prog 78 #[e.v] W (.bool true)) := Lib.hid (fun W => g2 ▸ right8_calls e W)
                    clear g2
                    repeat' (first | refine X_gpure Tryz.func78 (fun _ => RGT.out _) ?_ | refine X_gt ?_ | refine X_q ?_ | refine X_nil ?_ | refine W_seqk (fun K hK => ?_) | refine W_seqr ?_ | refine W_skip ?_ | refine W_block ?_ | refine W_tt ?_ | refine W_ff ?_ | go_step)
                    exact ⟨_, _, rfl, hd, hA, n - 1, by omega, k + 1, e.ep, Ext.trans HWE.out (by simp), by omega, by simp, HM.out⟩
                  · have hf : entsFrom p.last p.entries = false := by rw [← hmm]; simp [g2]
                    have g2f : rightB e = false := by simpa using g2
                    have RGT : Hid (∀ W, Pure Tryz.prog 78 #[e.v] W (.bool false)) := Lib.hid (fun W => g2f ▸ right8_calls e W)
                    clear g2f g2
                    have hn : s.takeNo p = 2 := by unfold RepS.takeNo; rw [if_pos (by rw [HRT.out, hf])]
                    have ht : s.take p = s := by unfold RepS.take; rw [if_pos (by rw [hn]; decide)]
                    rw [hn, ht]
                    clear hn ht
                    clear hf hmm
                    repeat' (first | refine X_gpure Tryz.func78 (fun _ => RGT.out _) ?_ | refine X_gt ?_ | refine X_q ?_ | refine X_nil ?_ | refine W_seqk (fun K hK => ?_) | refine W_seqr ?_ | refine W_skip ?_ | refine W_block ?_ | refine W_tt ?_ | go_step)

                    refine X_fload HBX.out ?_ (hu := Tryz.underlying33)
                    skip
                    refine X_store (off := 0) HBO.out (fun W1 hM1 hB1 => ?_); replace HE := Lib.hid (Ext.fresh HE.out hM1 (fun k hk => by subst hk; omega)); replace HBO := Lib.hid hB1; clear hM1 hB1
                    replace HBO := Lib.hid (fput HBO.out)
                    repeat' (first | refine X_q ?_ | refine X_nil ?_ | refine W_ret ?_ | go_step)
                    exact Body_retcellv (cs := RepS.cs (s) _ _ _) hd ⟨HE.out, _, rfl, _, _, _, rfl, HVR.out.later HE.out⟩ HBO.out (fun k hk => cs_fenc hk) Tryz.underlying33

              · obtain rfl : k = p.entries.length := by omega
                rw [List.drop_length] at hmm
                have hrt : p.right = true := by rw [HRT.out, ← hmm]; rfl
                clear hmm
                have LAST : Hid (∀ W, Ext w W → Pure Tryz.prog 74 #[.slice A1 s.log.length c1] W (.int .i64 (lastE s.log))) := Lib.hid (fun W hE => last7_calls _ _ W (HVR.out.later hE).rl.rd)
                have CUTS : Hid (0 ≤ p.cutEnd → ∀ W, Ext w W → Pure Tryz.prog 83 #[.slice A1 s.log.length c1, .int .i64 p.cutEpoch, .int .i64 p.cutEnd] W (.int .i64 (min p.cutEnd (aboveE s.log p.cutEpoch : Int)))) := Lib.hid (fun h0 W hE => cut7_calls _ _ _ _ W (HVR.out.later hE).rl.rd hm h0)
                by_cases q2 : s.role = 2
                · have q2b : (s.role != 2) = false := by simp [q2]
                  by_cases q4 : s.fitsNow p = true
                  · obtain ⟨⟨g1, g2⟩, g3⟩ : (p.epoch = s.epoch ∧ p.base = (s.log.length : Int)) ∧ p.last = lastE s.log := by simpa [RepS.fitsNow] using q4
                    have g1b : (p.epoch != s.epoch) = false := by simp [g1]
                    have g2b : (p.base != (s.log.length : Int)) = false := by simp [g2]
                    have g3b : (p.last != lastE s.log) = false := by simp [g3]
                    clear g1 g2 g3
                    have hap0 : p.right = true ∧ s.role = 2 ∧ s.fitsNow p = true := ⟨hrt, q2, q4⟩
                    have HA0 := Lib.hid hap0
                    clear hap0 hrt q2 q4
                    repeat' (first | refine X_q ?_ | refine X_nil ?_ | refine W_seqk (fun K hK => ?_) | refine W_seqr ?_ | refine W_skip ?_ | refine W_exit ?_ | refine W_ff ?_ | go_step)
                    refine W_drawσ [(0, 0), (1, 0), (2, 0), (3, 0), (4, 0), (5, 0), (6, 0), (7, 0), (8, 0), (9, 0), (10, 0), (11, 0), (12, 0), (13, 0), (14, 0), (15, 0), (16, 0), (17, 0), (18, 1), (19, 0), (20, 0)] (by kernel_rfl) (by kernel_rfl) ?_
                    repeat' (first | (refine X_pure1 Tryz.func74 (fun x => LAST.out _ (Ext.trans HE.out x.ext)) ?_) | refine X_gt ?_ | refine X_q ?_ | refine X_niln ?_ | refine X_nil ?_ | refine W_seqk (fun K hK => ?_) | refine W_seqr ?_ | refine W_skip ?_ | refine W_ff ?_ | refine W_test (fun hc => ?_) (fun hc => ?_) | go_step)
                    · have g4 := hc
                      clear hc
                      have hap : s.takeNo p = 0 := by unfold RepS.takeNo; rw [if_neg (by simp [HA0.out.1]), if_neg (by simp [HA0.out.2.1]), if_neg (by simp [HA0.out.2.2]), if_pos g4]
                      have hab : aboveE s.log p.cutEpoch ≤ s.log.length := by unfold aboveE; exact (List.takeWhile_sublist _).length_le
                      have hct : s.cutAt p = gmax 0 (gmin (min p.cutEnd (aboveE s.log p.cutEpoch : Int)) ((s.log.length : Int) - 1)) := rfl
                      have hce : 0 ≤ p.cutEnd := by omega
                      have CUT2 := Lib.hid (CUTS.out hce)
                      have hc0 : 0 ≤ min p.cutEnd (aboveE s.log p.cutEpoch : Int) ∧ min p.cutEnd (aboveE s.log p.cutEpoch : Int) ≤ s.log.length := by omega
                      clear CUTS hce hab
                      generalize min p.cutEnd (aboveE s.log p.cutEpoch : Int) = cc at *
                      obtain ⟨n, hn⟩ : ∃ n : Nat, s.cutAt p = n := ⟨(s.cutAt p).toNat, by rw [hct, gmax_eq, gmin_eq]; omega⟩
                      have hnl : n ≤ s.log.length := by rw [hct, gmax_eq, gmin_eq] at hn; omega
                      have hnn : (if (0 : Int) < (if cc < (s.log.length : Int) - 1 then cc else (s.log.length : Int) - 1) then (if cc < (s.log.length : Int) - 1 then cc else (s.log.length : Int) - 1) else 0) = (n : Int) := by rw [← hn, hct, gmax_eq, gmin_eq]; repeat' split <;> omega
                      have hnc : n ≤ c1 := by omega
                      have HCN := Lib.hid hn
                      have HAP := Lib.hid hap
                      have HG4 := Lib.hid g4
                      clear hct hn hap g4
                      refine W_drawσ [(0, 0), (1, 0), (2, 0), (3, 0), (4, 0), (5, 0), (6, 0), (7, 0), (8, 0), (9, 0), (10, 1), (11, 0), (12, 0), (13, 0)] (by kernel_rfl) (by kernel_rfl) ?_
                      repeat' (first | (refine X_pure1 Tryz.func83 (fun x => CUT2.out _ (Ext.trans HE.out x.ext)) ?_) | refine X_q ?_ | refine X_niln ?_ | refine W_seqk (fun K hK => ?_) | refine W_seqr ?_ | go_step)
                      skip
                      refine X_store (off := 4) HBX.out (fun W1 hM1 hB1 => ?_); replace HE := Lib.hid (Ext.fresh HE.out hM1 (fun k hk => by subst hk; omega)); replace HBO := Lib.hid (HBO.out.mod hM1 (fun h => by omega)); replace HBP := Lib.hid (HBP.out.mod hM1 (fun h => by omega)); replace HBX := Lib.hid hB1; clear hM1 hB1
                      replace HBX := Lib.hid (HBX.out.congr (g' := fenc { s with log := s.log.take n } (.slice A1 n n) (.slice A2 s.isr.length c2) (.slice A3 s.counts.length c3)) (all15 ⟨rfl, rfl, rfl, rfl, rfl, rfl, rfl, rfl, rfl, rfl, rfl, rfl, rfl, rfl, rfl⟩))
                      clear hlt d0 d1 d2 d3 d4 d5 d6 d7 d8 d9 d10
                      clear hpl p0 p1 p2 p3 p4 p5 p6 p7
                      obtain ⟨hlt, d0, d1, d2, d3, d4, d5, d6, d7, d8, d9, d10⟩ := fcells HBX.out

                      have hbol := HBO.out.lt
                      repeat' (first | refine X_q ?_ | refine X_nil ?_ | refine W_seqk (fun K hK => ?_) | refine W_seqr ?_ | go_step)
                      refine X_store (off := 5) HBX.out (fun W1 hM1 hB1 => ?_); replace HE := Lib.hid (Ext.fresh HE.out hM1 (fun k hk => by subst hk; omega)); replace HBO := Lib.hid (HBO.out.mod hM1 (fun h => by omega)); replace HBP := Lib.hid (HBP.out.mod hM1 (fun h => by omega)); replace HBX := Lib.hid hB1; clear hM1 hB1
                      replace HBX := Lib.hid (HBX.out.congr (g' := fenc { s with log := s.log.take n, flushed := gmin s.flushed n } (.slice A1 n n) (.slice A2 s.isr.length c2) (.slice A3 s.counts.length c3)) (all15 ⟨rfl, rfl, rfl, rfl, rfl, rfl, rfl, rfl, rfl, rfl, rfl, rfl, rfl, rfl, rfl⟩))
                      clear hlt d0 d1 d2 d3 d4 d5 d6 d7 d8 d9 d10
                      clear hbol
                      obtain ⟨hlt, d0, d1, d2, d3, d4, d5, d6, d7, d8, d9, d10⟩ := fcells HBX.out

                      have hbol := HBO.out.lt
                      repeat' (first | refine X_q ?_ | fail)
                      refine X_store (off := 6) HBX.out (fun W1 hM1 hB1 => ?_); replace HE := Lib.hid (Ext.fresh HE.out hM1 (fun k hk => by subst hk; omega)); replace HBO := Lib.hid (HBO.out.mod hM1 (fun h => by omega)); replace HBP := Lib.hid (HBP.out.mod hM1 (fun h => by omega)); replace HBX := Lib.hid hB1; clear hM1 hB1
                      replace HBX := Lib.hid (HBX.out.congr (g' := fenc { s with log := s.log.take n, flushed := gmin s.flushed n, high := gmin s.high n } (.slice A1 n n) (.slice A2 s.isr.length c2) (.slice A3 s.counts.length c3)) (all15 ⟨rfl, rfl, rfl, rfl, rfl, rfl, rfl, rfl, rfl, rfl, rfl, rfl, rfl, rfl, rfl⟩))
                      clear hlt d0 d1 d2 d3 d4 d5 d6 d7 d8 d9 d10
                      clear hbol
                      obtain ⟨hlt, d0, d1, d2, d3, d4, d5, d6, d7, d8, d9, d10⟩ := fcells HBX.out

                      have hbol := HBO.out.lt
                      repeat' (first | refine X_nil ?_ | refine W_seqk (fun K hK => ?_) | refine W_seqr ?_ | go_step)
                      refine X_fload HBX.out ?_ (hu := Tryz.underlying33)
                      skip
                      refine X_store (off := 0) HBO.out (fun W1 hM1 hB1 => ?_); replace HE := Lib.hid (Ext.fresh HE.out hM1 (fun k hk => by subst hk; omega)); replace HBO := Lib.hid hB1; clear hM1 hB1
                      replace HBO := Lib.hid (fput HBO.out)
                      repeat' (first | refine X_q ?_ | refine X_nil ?_ | refine W_ret ?_ | go_step)
                      have htk : s.take p = { s with log := s.log.take n, flushed := gmin s.flushed n, high := gmin s.high n } := by unfold RepS.take; rw [if_neg (by rw [HAP.out]; decide), if_pos HG4.out, HCN.out]; rfl
                      exact Body_retcellv (cs := RepS.cs ({ s with log := s.log.take n, flushed := gmin s.flushed n, high := gmin s.high n }) _ _ _) hd ⟨HE.out, _, by rw [HAP.out], by rw [htk]; exact ⟨_, _, _, rfl, (HVR.out.later HE.out).rl.takeN n hnl, (HVR.out.later HE.out).ri, (HVR.out.later HE.out).rc⟩⟩ HBO.out (fun k hk => cs_fenc hk) Tryz.underlying33

                    · have g5 := hc
                      clear hc
                      have g4 := hc
                      clear hc
                      have g6 : (4096 : Int) - s.log.length < p.entries.length := by have := of_decide_eq_true g5; omega
                      have hno : s.takeNo p = 3 := by unfold RepS.takeNo; rw [if_neg (by simp [HA0.out.1]), if_neg (by simp [HA0.out.2.1]), if_neg (by simp [HA0.out.2.2]), if_neg (by simp [g4]), if_pos g6]
                      have ht : s.take p = s := by unfold RepS.take; rw [if_pos (by rw [hno]; decide)]
                      have HN := Lib.hid hno
                      have HT := Lib.hid ht
                      clear hno ht g4 g5 g6

                      refine X_fload HBX.out ?_ (hu := Tryz.underlying33)
                      skip
                      refine X_store (off := 0) HBO.out (fun W1 hM1 hB1 => ?_); replace HE := Lib.hid (Ext.fresh HE.out hM1 (fun k hk => by subst hk; omega)); replace HBO := Lib.hid hB1; clear hM1 hB1
                      replace HBO := Lib.hid (fput HBO.out)
                      repeat' (first | refine X_q ?_ | refine X_nil ?_ | refine W_ret ?_ | go_step)
                      exact Body_retcellv (cs := RepS.cs (s) _ _ _) hd ⟨HE.out, _, by rw [HN.out], by rw [HT.out]; exact ⟨_, _, _, rfl, HVR.out.later HE.out⟩⟩ HBO.out (fun k hk => cs_fenc hk) Tryz.underlying33

                    · have g5 := hc
                      clear hc
                      have g4 := hc
                      clear hc
                      have g6 : ¬ (4096 : Int) < (s.log.length : Int) + p.entries.length := of_decide_eq_false g5
                      have hno : s.takeNo p = 0 := by unfold RepS.takeNo; rw [if_neg (by simp [HA0.out.1]), if_neg (by simp [HA0.out.2.1]), if_neg (by simp [HA0.out.2.2]), if_neg (by simp [g4]), if_neg (by omega)]
                      have ht : s.take p = { s with log := s.log ++ p.entries, high := gmax s.high (gmin p.high ((s.log.length + p.entries.length : Nat) : Int)) } := by unfold RepS.take; rw [if_neg (by rw [hno]; decide), if_neg (by simp [g4])]
                      have HN := Lib.hid hno
                      have HT := Lib.hid ht
                      clear hno ht g4 g5
                      have HVL := Lib.hid (HVR.out.later HE.out).rl.rd
                      have hlw := HE.out.size
                      refine W_drawσ [(0, 0), (1, 0), (3, 0), (4, 0), (2, 1), (5, 2), (6, 0), (7, 2)] (by kernel_rfl) (by kernel_rfl) ?_
                      repeat' (first | refine X_q ?_ | fail)
                      refine X_s (fun x K hK => ?_)
                      refine F_copy0 elemEnt HVL.out (by omega) (by unfold maxLen; omega) x K (fun y v4 hE hO hF => hK v4 _ hE ?_)
                      clear hK K hE
                      have hE4 : Ext W5 (W5.later y) := y.ext
                      have HO4 := Lib.hid hO
                      have HF4 := Lib.hid hF
                      clear hO hF x
                      generalize World.later W5 y = W4 at *
                      clear y
                      have hbxl := HBX.out.lt
                      have hbpl := HBP.out.lt
                      have hbol := HBO.out.lt
                      replace HBX := Lib.hid (HBX.out.later hE4)
                      replace HBP := Lib.hid (HBP.out.later hE4)
                      replace HBO := Lib.hid (HBO.out.later hE4)
                      replace HE := Lib.hid (Ext.trans HE.out hE4)
                      obtain ⟨A7, m7, c7, rfl⟩ := own_slice HO4.out
                      have hs4 := hE4.size
                      clear hE4 HVL
                      clear hlt d0 d1 d2 d3 d4 d5 d6 d7 d8 d9 d10
                      clear hpl p0 p1 p2 p3 p4 p5 p6 p7
                      obtain ⟨hlt, d0, d1, d2, d3, d4, d5, d6, d7, d8, d9, d10⟩ := fcells HBX.out
                      have hpl := HBP.out.lt
                      have p0 := HBP.out.cell (k := 0) (by simp)
                      have p1 := HBP.out.cell (k := 1) (by simp)
                      have p2 := HBP.out.cell (k := 2) (by simp)
                      have p3 := HBP.out.cell (k := 3) (by simp)
                      have p4 := HBP.out.cell (k := 4) (by simp)
                      have p5 := HBP.out.cell (k := 5) (by simp)
                      have p6 := HBP.out.cell (k := 6) (by simp)
                      have p7 := HBP.out.cell (k := 7) (by simp)
                      simp at p0 p1 p2 p3 p4 p5 p6 p7

                      skip
                      refine X_append (xs := s.log) elemEnt HO4.out (HU.out.later HE.out) (by omega) (by unfold maxLen; omega) (fun v6 W6 hM6 hO6 hF6 hN6 => ?_)
                      replace HE := Lib.hid (Ext.fresh HE.out hM6 (fun k hk => by have := HF4.out k hk; omega))
                      have HO6 := Lib.hid hO6
                      have HF6 : Hid (∀ k, v6.ownBlock = some k → W5.heap.size ≤ k) := Lib.hid (fun k hk => by
                        rcases hF6 with h | ⟨g, h, hg⟩
                        · exact HF4.out k (h ▸ hk)
                        · rw [h] at hk; cases hk; omega)
                      replace HBX := Lib.hid (HBX.out.mod hM6 (fun h => by have := HF4.out _ h; omega))
                      replace HBP := Lib.hid (HBP.out.mod hM6 (fun h => by have := HF4.out _ h; omega))
                      replace HBO := Lib.hid (HBO.out.mod hM6 (fun h => by have := HF4.out _ h; omega))
                      obtain ⟨A8, m8, c8, rfl⟩ := own_slice HO6.out
                      clear hM6 hO6 hF6 hN6 HO4 HF4
                      clear hlt d0 d1 d2 d3 d4 d5 d6 d7 d8 d9 d10
                      clear hpl p0 p1 p2 p3 p4 p5 p6 p7
                      obtain ⟨hlt, d0, d1, d2, d3, d4, d5, d6, d7, d8, d9, d10⟩ := fcells HBX.out
                      have hpl := HBP.out.lt
                      have p0 := HBP.out.cell (k := 0) (by simp)
                      have p1 := HBP.out.cell (k := 1) (by simp)
                      have p2 := HBP.out.cell (k := 2) (by simp)
                      have p3 := HBP.out.cell (k := 3) (by simp)
                      have p4 := HBP.out.cell (k := 4) (by simp)
                      have p5 := HBP.out.cell (k := 5) (by simp)
                      have p6 := HBP.out.cell (k := 6) (by simp)
                      have p7 := HBP.out.cell (k := 7) (by simp)
                      simp at p0 p1 p2 p3 p4 p5 p6 p7

                      have hbol := HBO.out.lt
                      have HL := Lib.hid (HO6.out.rd Ent.len)
                      have Hf := HF6
                      obtain rfl : m8 = s.log.length + p.entries.length := by have := Rd.length HL.out; simp at this; omega
                      clear HO6 HF6
                      repeat' (first | refine X_q ?_ | fail)
                      refine X_store (off := 4) HBX.out (fun W1 hM1 hB1 => ?_); replace HE := Lib.hid (Ext.fresh HE.out hM1 (fun k hk => by subst hk; omega)); replace HBO := Lib.hid (HBO.out.mod hM1 (fun h => by omega)); replace HBP := Lib.hid (HBP.out.mod hM1 (fun h => by omega)); replace HL := Lib.hid (HL.out.mod hM1 (fun g hg he => by subst he; have := Hf.out _ hg; omega)); replace HBX := Lib.hid hB1; clear hM1 hB1
                      replace HBX := Lib.hid (HBX.out.congr (g' := fenc { s with log := s.log ++ p.entries } (.slice A8 (s.log.length + p.entries.length) c8) (.slice A2 s.isr.length c2) (.slice A3 s.counts.length c3)) (all15 ⟨rfl, rfl, rfl, rfl, rfl, rfl, rfl, rfl, rfl, rfl, rfl, rfl, rfl, rfl, rfl⟩))
                      clear hlt d0 d1 d2 d3 d4 d5 d6 d7 d8 d9 d10
                      clear hpl p0 p1 p2 p3 p4 p5 p6 p7
                      clear hbol
                      obtain ⟨hlt, d0, d1, d2, d3, d4, d5, d6, d7, d8, d9, d10⟩ := fcells HBX.out
                      have hpl := HBP.out.lt
                      have p0 := HBP.out.cell (k := 0) (by simp)
                      have p1 := HBP.out.cell (k := 1) (by simp)
                      have p2 := HBP.out.cell (k := 2) (by simp)
                      have p3 := HBP.out.cell (k := 3) (by simp)
                      have p4 := HBP.out.cell (k := 4) (by simp)
                      have p5 := HBP.out.cell (k := 5) (by simp)
                      have p6 := HBP.out.cell (k := 6) (by simp)
                      have p7 := HBP.out.cell (k := 7) (by simp)
                      simp at p0 p1 p2 p3 p4 p5 p6 p7

                      have hbol := HBO.out.lt
                      repeat' (first | refine X_q ?_ | refine X_niln ?_ | refine W_seqk (fun K hK => ?_) | refine W_seqr ?_ | go_step)
                      refine X_store (off := 6) HBX.out (fun W1 hM1 hB1 => ?_); replace HE := Lib.hid (Ext.fresh HE.out hM1 (fun k hk => by subst hk; omega)); replace HBO := Lib.hid (HBO.out.mod hM1 (fun h => by omega)); replace HBP := Lib.hid (HBP.out.mod hM1 (fun h => by omega)); replace HL := Lib.hid (HL.out.mod hM1 (fun g hg he => by subst he; have := Hf.out _ hg; omega)); replace HBX := Lib.hid hB1; clear hM1 hB1
                      obtain ⟨q, hq⟩ : ∃ q : RepS, q = { s with log := s.log ++ p.entries, high := gmax s.high (gmin p.high ((s.log.length + p.entries.length : Nat) : Int)) } := ⟨_, rfl⟩
                      replace HBX := Lib.hid (HBX.out.congr (g' := fenc q (.slice A8 (s.log.length + p.entries.length) c8) (.slice A2 s.isr.length c2) (.slice A3 s.counts.length c3)) (by subst hq; exact all15 ⟨rfl, rfl, rfl, rfl, rfl, rfl, rfl, rfl, rfl, rfl, rfl, rfl, rfl, rfl, rfl⟩))
                      replace HT := Lib.hid (HT.out.trans hq.symm)
                      have HVQ : Hid (∀ W, Ext w W → RdEN N W (.slice A8 (s.log.length + p.entries.length) c8) (s.log ++ p.entries) → VR N W (.slice A8 (s.log.length + p.entries.length) c8) (.slice A2 s.isr.length c2) (.slice A3 s.counts.length c3) q) := Lib.hid (fun W hE h => by subst hq; exact ⟨h, (HVR.out.later hE).ri, (HVR.out.later hE).rc⟩)
                      clear hq
                      clear hlt d0 d1 d2 d3 d4 d5 d6 d7 d8 d9 d10
                      clear hpl p0 p1 p2 p3 p4 p5 p6 p7
                      clear hbol
                      obtain ⟨hlt, d0, d1, d2, d3, d4, d5, d6, d7, d8, d9, d10⟩ := fcells HBX.out

                      have hbol := HBO.out.lt
                      repeat' (first | refine X_nil ?_ | refine W_seqk (fun K hK => ?_) | refine W_seqr ?_ | go_step)
                      refine X_fload HBX.out ?_ (hu := Tryz.underlying33)
                      skip
                      refine X_store (off := 0) HBO.out (fun W1 hM1 hB1 => ?_); replace HE := Lib.hid (Ext.fresh HE.out hM1 (fun k hk => by subst hk; omega)); replace HL := Lib.hid (HL.out.mod hM1 (fun g hg he => by subst he; have := Hf.out _ hg; omega)); replace HBO := Lib.hid hB1; clear hM1 hB1
                      replace HBO := Lib.hid (fput HBO.out)
                      repeat' (first | refine X_q ?_ | refine X_nil ?_ | refine W_ret ?_ | go_step)
                      exact Body_retcellv (cs := RepS.cs q _ _ _) hd ⟨HE.out, _, by rw [HN.out], by rw [HT.out]; exact ⟨_, _, _, rfl, HVQ.out _ HE.out ⟨HL.out, fun k hk hn => by have := HNN.out k hn; have := Hf.out k hk; omega⟩⟩⟩ HBO.out (fun k hk => cs_fenc hk) Tryz.underlying33

                  · have hno : s.takeNo p = 210 := by unfold RepS.takeNo; rw [if_neg (by simp [hrt]), if_neg (by simp [q2]), if_pos (by simpa using q4)]
                    have ht : s.take p = s := by unfold RepS.take; rw [if_pos (by rw [hno]; decide)]
                    have HN := Lib.hid hno
                    have HT := Lib.hid ht
                    clear hno ht hrt
                    by_cases g1 : p.epoch = s.epoch
                    · have g1b : (p.epoch != s.epoch) = false := by simp [g1]
                      by_cases g2 : p.base = (s.log.length : Int)
                      · have g2b : (p.base != (s.log.length : Int)) = false := by simp [g2]
                        have g3b : (p.last != lastE s.log) = true := by
                          have : p.last ≠ lastE s.log := fun h => q4 (by simp [RepS.fitsNow, g1, g2, h])
                          simp [this]
                        clear g1 g2 q4 q2
                        repeat' (first | refine X_q ?_ | refine X_nil ?_ | refine W_seqk (fun K hK => ?_) | refine W_seqr ?_ | refine W_skip ?_ | refine W_exit ?_ | refine W_ff ?_ | go_step)
                        refine W_drawσ [(0, 0), (1, 0), (2, 0), (3, 0), (4, 0), (5, 0), (6, 0), (7, 0), (8, 0), (9, 0), (10, 0), (11, 0), (12, 0), (13, 0), (14, 0), (15, 0), (16, 0), (17, 0), (18, 1), (19, 0), (20, 0)] (by kernel_rfl) (by kernel_rfl) ?_
                        repeat' (first | (refine X_pure1 Tryz.func74 (fun x => LAST.out _ (Ext.trans HE.out x.ext)) ?_) | refine X_gt ?_ | refine X_q ?_ | refine X_niln ?_ | refine W_seqk (fun K hK => ?_) | refine W_seqr ?_ | refine W_tt ?_ | go_step)

                        refine X_fload HBX.out ?_ (hu := Tryz.underlying33)
                        skip
                        refine X_store (off := 0) HBO.out (fun W1 hM1 hB1 => ?_); replace HE := Lib.hid (Ext.fresh HE.out hM1 (fun k hk => by subst hk; omega)); replace HBO := Lib.hid hB1; clear hM1 hB1
                        replace HBO := Lib.hid (fput HBO.out)
                        repeat' (first | refine X_q ?_ | refine X_nil ?_ | refine W_ret ?_ | go_step)
                        exact Body_retcellv (cs := RepS.cs (s) _ _ _) hd ⟨HE.out, _, by rw [HN.out], by rw [HT.out]; exact ⟨_, _, _, rfl, HVR.out.later HE.out⟩⟩ HBO.out (fun k hk => cs_fenc hk) Tryz.underlying33

                      · have g2b : (p.base != (s.log.length : Int)) = true := by simp [g2]
                        clear g1 g2 q4 q2
                        repeat' (first | refine X_q ?_ | refine X_nil ?_ | refine W_seqk (fun K hK => ?_) | refine W_seqr ?_ | refine W_skip ?_ | refine W_exit ?_ | refine W_ff ?_ | go_step)
                        refine W_drawσ [(0, 0), (1, 0), (2, 0), (3, 0), (4, 0), (5, 0), (6, 0), (7, 0), (8, 0), (9, 0), (10, 0), (11, 0), (12, 0), (13, 0), (14, 0), (15, 0), (16, 0), (17, 0), (18, 1), (19, 0), (20, 0)] (by kernel_rfl) (by kernel_rfl) ?_
                        repeat' (first | (refine X_gf2 ?_) | refine X_gt ?_ | refine X_q ?_ | refine X_g ?_ | refine X_gf ?_ | refine X_niln ?_ | refine W_seqk (fun K hK => ?_) | refine W_seqr ?_ | refine W_tt ?_ | go_step)

                        refine X_fload HBX.out ?_ (hu := Tryz.underlying33)
                        skip
                        refine X_store (off := 0) HBO.out (fun W1 hM1 hB1 => ?_); replace HE := Lib.hid (Ext.fresh HE.out hM1 (fun k hk => by subst hk; omega)); replace HBO := Lib.hid hB1; clear hM1 hB1
                        replace HBO := Lib.hid (fput HBO.out)
                        repeat' (first | refine X_q ?_ | refine X_nil ?_ | refine W_ret ?_ | go_step)
                        exact Body_retcellv (cs := RepS.cs (s) _ _ _) hd ⟨HE.out, _, by rw [HN.out], by rw [HT.out]; exact ⟨_, _, _, rfl, HVR.out.later HE.out⟩⟩ HBO.out (fun k hk => cs_fenc hk) Tryz.underlying33

                    · have g1b : (p.epoch != s.epoch) = true := by simp [g1]
                      clear g1 q4 q2
                      repeat' (first | refine X_q ?_ | refine X_nil ?_ | refine W_seqk (fun K hK => ?_) | refine W_seqr ?_ | refine W_skip ?_ | refine W_exit ?_ | refine W_ff ?_ | go_step)
                      refine W_drawσ [(0, 0), (1, 0), (2, 0), (3, 0), (4, 0), (5, 0), (6, 0), (7, 0), (8, 0), (9, 0), (10, 0), (11, 0), (12, 0), (13, 0), (14, 0), (15, 0), (16, 0), (17, 0), (18, 1), (19, 0), (20, 0)] (by kernel_rfl) (by kernel_rfl) ?_
                      repeat' (first | (refine X_gf2 ?_) | refine X_q ?_ | refine X_g ?_ | refine X_gf ?_ | refine X_niln ?_ | refine W_seqk (fun K hK => ?_) | refine W_seqr ?_ | refine W_tt ?_ | go_step)

                      refine X_fload HBX.out ?_ (hu := Tryz.underlying33)
                      skip
                      refine X_store (off := 0) HBO.out (fun W1 hM1 hB1 => ?_); replace HE := Lib.hid (Ext.fresh HE.out hM1 (fun k hk => by subst hk; omega)); replace HBO := Lib.hid hB1; clear hM1 hB1
                      replace HBO := Lib.hid (fput HBO.out)
                      repeat' (first | refine X_q ?_ | refine X_nil ?_ | refine W_ret ?_ | go_step)
                      exact Body_retcellv (cs := RepS.cs (s) _ _ _) hd ⟨HE.out, _, by rw [HN.out], by rw [HT.out]; exact ⟨_, _, _, rfl, HVR.out.later HE.out⟩⟩ HBO.out (fun k hk => cs_fenc hk) Tryz.underlying33

                · have q2b : (s.role != 2) = true := by simp [q2]
                  have hn : s.takeNo p = 211 := by unfold RepS.takeNo; rw [if_neg (by simp [hrt]), if_pos q2]
                  have ht : s.take p = s := by unfold RepS.take; rw [if_pos (by rw [hn]; decide)]
                  have HN := Lib.hid hn
                  have HT := Lib.hid ht
                  clear hn ht
                  repeat' (first | refine X_q ?_ | refine X_nil ?_ | refine W_seqk (fun K hK => ?_) | refine W_seqr ?_ | refine W_exit ?_ | refine W_tt ?_ | refine W_ff ?_ | go_step)

                  refine X_fload HBX.out ?_ (hu := Tryz.underlying33)
                  skip
                  refine X_store (off := 0) HBO.out (fun W1 hM1 hB1 => ?_); replace HE := Lib.hid (Ext.fresh HE.out hM1 (fun k hk => by subst hk; omega)); replace HBO := Lib.hid hB1; clear hM1 hB1
                  replace HBO := Lib.hid (fput HBO.out)
                  repeat' (first | refine X_q ?_ | refine X_nil ?_ | refine W_ret ?_ | go_step)
                  exact Body_retcellv (cs := RepS.cs (s) _ _ _) hd ⟨HE.out, _, by rw [HN.out], by rw [HT.out]; exact ⟨_, _, _, rfl, HVR.out.later HE.out⟩⟩ HBO.out (fun k hk => cs_fenc hk) Tryz.underlying33
end Go.Ws
namespace Go.Ws
open Go Go.RowKit Go.Proofs
set_option maxHeartbeats 2000000
set_option maxRecDepth 100000
set_option linter.unusedVariables false
set_option linter.unusedSimpArgs false

/-! ### What a call does -/
def RepS.propMay (s : RepS) (l : List Int) : Bool := brokersB l && decide (s.self ∈ l)
def RepS.inStep (s : RepS) (l : List Int) : Bool := l.all fun b => decide (b ∈ s.isr) || decide (gmax s.high s.beg ≤ s.known b.toNat)
def RepS.propNo (s : RepS) (l : List Int) : Int := if s.propMay l = false then 2 else if s.role ≠ 3 then 211 else if s.inStep l = false then 213 else 0
/-- Two rising lists of brokers as one. -/
def joinB (a b : List Int) : List Int := [0, 1, 2, 3].filter fun x => decide (x ∈ a) || decide (x ∈ b)
def RepS.prop (s : RepS) (l : List Int) : RepS := if s.propNo l = 0 then { s with counts := joinB s.counts l } else s
def RepS.step (s : RepS) (a : ActD) : RepS :=
  if a.kind = 1 then (s.learn a.view).1 else if a.kind = 2 then s.app a.ent else if a.kind = 3 then s.flush else if a.kind = 5 then s.serve a.fetch a.n
  else if a.kind = 6 then s.take a.reply else if a.kind = 7 then s.prop a.list else if a.kind = 8 then (s.crash a.n).1 else s
/-- What holds of each replica, and of its version. -/
structure RepS.Fine (s : RepS) : Prop where
  good : s.Good
  ver : 0 ≤ s.version ∧ s.version ≤ 2147483647
section
variable {N N' F G : Nat → Prop} {w0 w w' W : World} {uL uI uC u : Value} {s s' : RepS} {b : Nat}
theorem RdN.wide {α : Type} {enc : α → List Value} {k : Nat} {l : List α} (h : RdN N enc k w u l) (hN : ∀ k, N' k → N k ∨ w.heap.size ≤ k) : RdN N' enc k w u l :=
  ⟨h.rd, fun b hb hn => (hN b hn).elim (h.nb b hb) fun hs => by
    obtain ⟨A, c, rfl, -, -, h4⟩ := h.rd
    rcases h4 with ⟨rfl, -⟩ | ⟨b', o, rfl, hlt, -⟩
    · cases hb
    · cases hb; exact Nat.not_lt.2 hs hlt⟩
theorem RdN.mod {α : Type} {enc : α → List Value} {k : Nat} {l : List α} (h : RdN N enc k w u l) (hM : Mod G w w') (hG : ∀ k, G k → N k) : RdN N enc k w' u l :=
  ⟨h.rd.mod hM (fun b hb hg => h.nb b hb (hG b hg)), h.nb⟩
theorem RdN.less {α : Type} {enc : α → List Value} {k : Nat} {l : List α} (h : RdN N enc k w u l) (hN : ∀ k, N' k → N k) : RdN N' enc k w u l := ⟨h.rd, fun b hb hn => h.nb b hb (hN b hn)⟩
theorem VR.wide (h : VR N w uL uI uC s) (hN : ∀ k, N' k → N k ∨ w.heap.size ≤ k) : VR N' w uL uI uC s := ⟨h.rl.wide hN, h.ri.wide hN, h.rc.wide hN⟩
theorem VR.mod (h : VR N w uL uI uC s) (hM : Mod G w w') (hG : ∀ k, G k → N k) : VR N w' uL uI uC s := ⟨h.rl.mod hM hG, h.ri.mod hM hG, h.rc.mod hM hG⟩
theorem VR.less (h : VR N w uL uI uC s) (hN : ∀ k, N' k → N k) : VR N' w uL uI uC s := ⟨h.rl.less hN, h.ri.less hN, h.rc.less hN⟩
theorem ActR.wide {a : ActD} (h : ActR N w uL uI uC a) (hN : ∀ k, N' k → N k ∨ w.heap.size ≤ k) : ActR N' w uL uI uC a := ⟨h.ri.wide hN, h.re.wide hN, h.rl.wide hN⟩
theorem ActR.mod {a : ActD} (h : ActR N w uL uI uC a) (hM : Mod G w w') (hG : ∀ k, G k → N k) : ActR N w' uL uI uC a := ⟨h.ri.mod hM hG, h.re.mod hM hG, h.rl.mod hM hG⟩
theorem ActR.at {a : ActD} (h : ActR N w uL uI uC a) (s : RepS) : ActR N w uL uI uC (a.atS s) := by
  obtain ⟨-, -, -, h1, h2, h3⟩ := atS_kind a s
  exact ⟨by rw [h2]; exact h.ri, by rw [h3]; exact h.re, by rw [h1]; exact h.rl⟩
/-- What a call leaves: both replicas, a step further. -/
def DoesR (w0 w : World) (b : Nat) (F X : Nat → Prop) (s' : RepS) (r : Value) (w' : World) : Prop :=
  ∃ v', r = .tuple #[v', .bool true] ∧ Mod F w w' ∧ ∃ F', HR w0 w' b F' s' ∧ FV (fun k => F' k ∨ X k) w' v' s' ∧ ∀ k, F' k → F k ∨ w.heap.size ≤ k
theorem does_end {W1 W3 W4 W5 : World} {b6 : Nat} {X : Nat → Prop} (h : HR w0 W b F s) (hE1 : Ext W W1) (hE : Ext W1 W3) (hM : Mod F W3 W4) (hR : Rep W4 b (fun k => F k ∨ W3.heap.size ≤ k) s')
    (hS : Mod (· = b6) W4 W5) (h6 : W.heap.size ≤ b6) (h61 : b6 < W1.heap.size) (hv : VR (fun k => F k ∨ X k ∨ k = b6) W1 uL uI uC s') : DoesR w0 W b F X s' (.tuple #[s'.v uL uI uC, .bool true]) W5 := by
  have hs1 := hE1.size
  have hs3 := hE.size
  have hs4 := hM.size
  have hs0 := h.ext.size
  have h3 := (h.later hE1).later hE
  have h4 := h3.step hM hR
  have hn6 : ∀ k, ((F k ∨ W3.heap.size ≤ k) ∧ k < W4.heap.size) → ¬ k = b6 := by
    rintro k ⟨hk | hk, -⟩ rfl
    · have := (h.hi k hk).2; omega
    · omega
  have h5 := h4.beside hS (fun k hk => by subst hk; omega) hn6
  refine ⟨_, rfl, ?_, _, h5, ⟨_, _, _, rfl, ?_⟩, ?_⟩
  · refine Mod.trans (Mod.trans (Ext.trans hE1 hE) hM (H := F) (fun _ _ h => h.elim) (fun _ _ h => h)) hS (fun _ _ h => h) (fun k hk e => by subst e; omega)
  · have v3 : VR (fun k => F k ∨ X k ∨ k = b6 ∨ W3.heap.size ≤ k) W3 uL uI uC s' := (hv.later hE).wide (fun k hk => by
      rcases hk with h | h | h | h
      · exact .inl (.inl h)
      · exact .inl (.inr (.inl h))
      · exact .inl (.inr (.inr h))
      · exact .inr h)
    refine ((v3.mod hM (fun k hk => .inl hk)).mod hS (fun k hk => .inr (.inr (.inl hk)))).less (fun k hk => ?_)
    rcases hk with ⟨h | h, -⟩ | h
    · exact .inl h
    · exact .inr (.inr (.inr h))
    · exact .inr (.inl h)
  · rintro k ⟨hk | hk, -⟩
    · exact .inl hk
    · exact .inr (by omega)
end
/-- What a call of the program leaves. -/
def ProgR (F : Nat → Prop) (b : Nat) (s' : RepS) (R0 : Value → Prop) (w : World) (r : Value) (w' : World) : Prop := R0 r ∧ Mod F w w' ∧ Rep w' b (fun k => F k ∨ w.heap.size ≤ k) s'
theorem prog_ret {P : Program} {f : FuncId} {args : Array Value} {w : World} {F G : Nat → Prop} {b : Nat} {s' : RepS} {R0 : Value → Prop} (x : Later w)
    (h : Ret P f args (w.later x) (fun r w' => R0 r ∧ Mod F (w.later x) w' ∧ Rep w' b (fun k => F k ∨ (w.later x).heap.size ≤ k) s')) (hFG : ∀ k, F k → G k) :
    Ret P f args (w.later x) (fun r w' => ProgR F b s' R0 w r w' ∧ Mod G (w.later x) w') :=
  Ret.mono h fun v w' hR => ⟨⟨hR.1, Mod.trans x.2 hR.2.1 (fun _ _ h => h.elim) (fun _ _ h => h), hR.2.2.mono (fun k hk => hk.imp id (fun h => Nat.le_trans x.2.size h))⟩, hR.2.1.mono (fun k _ h => hFG k h)⟩
theorem good_prop {s : RepS} (h : s.Good) (l : List Int) : (s.prop l).Good := by
  unfold RepS.prop
  split
  · refine ⟨h.ok, h.self, h.least, h.role, h.epoch, h.fl, h.hi, h.isr, ?_⟩
    show brokersB (joinB s.counts l) = true
    unfold joinB
    simp only [List.filter]
    split <;> split <;> split <;> split <;> rfl
  · exact h
end Go.Ws
namespace Go.Ws
open Go Go.RowKit Go.Proofs
set_option maxHeartbeats 4000000
set_option maxRecDepth 100000
set_option linter.unusedVariables false
set_option linter.unusedSimpArgs false

theorem does1_calls {w0 W : World} {b : Nat} {F X : Nat → Prop} {s : RepS} {uL uI uC vI vE vL : Value} {a : ActD} (h : HR w0 W b F s) (hg : s.Fine) (hX : ∀ k, X k → k < W.heap.size) (hv : VR (fun k => F k ∨ X k) W uL uI uC s) (ha : ActR (fun k => F k ∨ X k) W vI vE vL a) (hk : a.kind = 1) :
    Ret Tryz.prog 16 #[.pointer (some ⟨b, 0, none⟩), s.v uL uI uC, a.v vI vE vL] W fun r W' => DoesR w0 W b F X (s.step (a.atS s)) r W' := by
  have HH := Lib.hid h
  have HG := Lib.hid hg
  have HXW := Lib.hid hX
  clear hX
  have HVR := Lib.hid hv
  have HAC := Lib.hid (ha.at s)
  have NEAR : Hid (∀ W', Ext W W' → Ret Tryz.prog 35 #[a.v vI vE vL, s.v uL uI uC] W' fun r w' => Ext W' w' ∧ r = (a.atS s).v vI vE vL) := Lib.hid (fun W' hE => near_calls (hv.later hE) hg.good hg.ver (ha.later hE))
  have hka : (a.atS s).kind = 1 := (atS_kind a s).1.trans hk
  have ht : s.step (a.atS s) = (s.learn (a.atS s).view).1 := by unfold RepS.step; simp [hka]
  rw [ht]
  clear ht
  obtain ⟨A1, c1, rfl, -⟩ := hv.rl.rd.ent
  obtain ⟨A2, c2, rfl, -⟩ := hv.ri.rd.int
  obtain ⟨A3, c3, rfl, -⟩ := hv.rc.rd.int
  clear h hg hv ha hk
  generalize a.atS s = a' at *
  obtain ⟨A4, c4, rfl, -⟩ := HAC.out.ri.int
  obtain ⟨A5, c5, rfl, -⟩ := HAC.out.re.ent
  obtain ⟨A6, c6, rfl, -⟩ := HAC.out.rl.int
  refine Fn_of Tryz.func16 rfl (Nat.le_of_ble_eq_true rfl) ?_; intro A hd hA; simp only [ix, Nat.reduceAdd]; replace hA : A.tmps.size = 268 := hA
  (repeat' (first | refine W_seqk (fun K hK => ?_) | refine W_seqr ?_ | fail)); (first | (refine X_var (fun yn b4 hn1 hn2 hn3 hn4 hn5 => ?_)) | (refine X_s (fun x K hK => ?_); go_simp; refine hK _ _ (Ext.alloc _ _) ?_; clear hK K; refine X_al x ?_; generalize (World.later _ x).heap.size = b4; intro yn hn1 hn2 hn3 hn4 hn5; clear x)); have HBb4 := Lib.hid (Blk.new hn5.out); have HEb4 := Lib.hid yn.ext; have hlb4 : (World.heap W).size ≤ b4 := hn1; generalize World.later W yn = W0 at *; clear hn1 hn2 hn3 hn4 hn5 yn
  (skip); (first | (refine X_var (fun yn b5 hn1 hn2 hn3 hn4 hn5 => ?_)) | (refine X_s (fun x K hK => ?_); go_simp; refine hK _ _ (Ext.alloc _ _) ?_; clear hK K; refine X_al x ?_; generalize (World.later _ x).heap.size = b5; intro yn hn1 hn2 hn3 hn4 hn5; clear x)); have HBb5 := Lib.hid (Blk.new hn5.out); have HEb5 := Lib.hid yn.ext; have hlb5 : (World.heap W0).size ≤ b5 := hn1; generalize World.later W0 yn = W1 at *; clear hn1 hn2 hn3 hn4 hn5 yn
  (skip); (first | (refine X_var (fun yn b6 hn1 hn2 hn3 hn4 hn5 => ?_)) | (refine X_s (fun x K hK => ?_); go_simp; refine hK _ _ (Ext.alloc _ _) ?_; clear hK K; refine X_al x ?_; generalize (World.later _ x).heap.size = b6; intro yn hn1 hn2 hn3 hn4 hn5; clear x)); have HBb6 := Lib.hid (Blk.new hn5.out); have HEb6 := Lib.hid yn.ext; have hlb6 : (World.heap W1).size ≤ b6 := hn1; generalize World.later W1 yn = W2 at *; clear hn1 hn2 hn3 hn4 hn5 yn
  have HBS := Lib.hid ((fbox2 HBb4.out).later (Ext.trans HEb5.out HEb6.out))
  have HBA : Hid (Blk W2 b5 51 27 (aenc a (.slice A4 a'.view.isr.length c4) (.slice A5 a'.reply.entries.length c5) (.slice A6 a'.list.length c6))) := Lib.hid ((HBb5.out.later HEb6.out).congr (fun k hk => rfl))
  have HBO := HBb6
  have HE := Lib.hid (Ext.trans (Ext.trans HEb4.out HEb5.out) HEb6.out)
  have hbb : b4 < b5 := by have := HBb4.out.lt; omega
  have hbb2 : b5 < b6 := by have := HBb5.out.lt; omega
  have hs0 := HEb4.out.size
  have hs1 := HEb5.out.size
  have h6W : W.heap.size ≤ b6 := by omega
  clear HBb4 HBb5 HBb6 HEb4 HEb5 HEb6
  have HFW : Hid (∀ k, F k → k < W.heap.size) := Lib.hid (fun k hk => (HH.out.hi k hk).2)
  have HVN := Lib.hid (HVR.out.wide (N' := fun k => F k ∨ X k ∨ k = b6) (fun k hk => hk.elim (fun h => .inl (.inl h)) (fun h => h.elim (fun h => .inl (.inr h)) (fun e => .inr (by subst e; exact h6W)))))
  have HAN := Lib.hid (HAC.out.wide (N' := fun k => F k ∨ X k ∨ k = b6) (fun k hk => hk.elim (fun h => .inl (.inl h)) (fun h => h.elim (fun h => .inl (.inr h)) (fun e => .inr (by subst e; exact h6W)))))
  clear HVR HAC
  have hal := HBA.out.lt
  have hsl := HBS.out.lt
  repeat' (first | refine X_q ?_ | refine X_nil ?_ | refine W_seqk (fun K hK => ?_) | refine W_seqr ?_ | go_step)
  refine X_aload HBA.out ?_ (hu := Tryz.underlying51)
  skip
  refine X_fload HBS.out ?_ (hu := Tryz.underlying33)
  skip
  refine X_ret Tryz.func35 (NEAR.out _ HE.out) (fun r w1 hR => ?_)
  obtain ⟨hE1, rfl⟩ := hR
  replace HBS := Lib.hid (HBS.out.later hE1)
  replace HBA := Lib.hid (HBA.out.later hE1)
  replace HBO := Lib.hid (HBO.out.later hE1)
  replace HE := Lib.hid (Ext.trans HE.out hE1)
  clear hE1 NEAR hal hsl
  have hal := HBA.out.lt
  skip
  refine X_store (off := 0) HBA.out (fun W1 hM1 hB1 => ?_); replace HE := Lib.hid (Ext.fresh HE.out hM1 (fun k hk => by subst hk; omega)); replace HBS := Lib.hid (HBS.out.mod hM1 (fun h => by omega)); replace HBO := Lib.hid (HBO.out.mod hM1 (fun h => by omega)); replace HBA := Lib.hid hB1; clear hM1 hB1
  replace HBA := Lib.hid (HBA.out.congr (g' := aenc a' (.slice A4 a'.view.isr.length c4) (.slice A5 a'.reply.entries.length c5) (.slice A6 a'.list.length c6)) (all27 ⟨rfl, rfl, rfl, rfl, rfl, rfl, rfl, rfl, rfl, rfl, rfl, rfl, rfl, rfl, rfl, rfl, rfl, rfl, rfl, rfl, rfl, rfl, rfl, rfl, rfl, rfl, rfl⟩))
  clear hal
  obtain ⟨hlt, d0, d1, d2, d3, d4, d5, d6, d7, d8, d9, d10⟩ := fcells HBS.out
  have hal := HBA.out.lt
  have e0 := HBA.out.cell (k := 0) (by omega)
  change World.cell? _ _ = some (.int .i64 a'.kind) at e0
  have e3 := HBA.out.cell (k := 3) (by omega)
  change World.cell? _ _ = some (.int .i64 a'.view.leader) at e3
  have e4 := HBA.out.cell (k := 4) (by omega)
  change World.cell? _ _ = some (.int .i64 a'.view.epoch) at e4
  have e5 := HBA.out.cell (k := 5) (by omega)
  change World.cell? _ _ = some (.int .i64 a'.view.version) at e5
  have e6 := HBA.out.cell (k := 6) (by omega)
  change World.cell? _ _ = some (.slice A4 a'.view.isr.length c4) at e6
  rw [hka] at e0
  have hbol := HBO.out.lt
  have hEW := HE.out.size
  have HGG := Lib.hid HG.out.good
  repeat' (first | refine X_q ?_ | refine X_nil ?_ | refine W_seqk (fun K hK => ?_) | refine W_seqr ?_ | refine W_block ?_ | refine W_tt ?_ | go_step)
  refine X_fload HBS.out ?_ (hu := Tryz.underlying33)
  repeat' (first | refine X_q ?_ | fail)
  refine X_ret Tryz.func36 (learn11_calls (N := fun k => F k ∨ X k ∨ k = b6) (x := a'.view) (HVN.out.later HE.out) HGG.out.bks HGG.out.role ⟨_, rfl, (HAN.out.later HE.out).ri.rd⟩ (fun p q r u hu k hk => by cases hu; exact (HAN.out.later HE.out).ri.nb k hk)) (fun r w1 hR => ?_)
  obtain ⟨hE1, v1, rfl, oL, oI, oC, rfl, hVO⟩ := hR
  obtain ⟨B1, x1, rfl, -⟩ := hVO.rl.ent
  obtain ⟨B2, x2, rfl, -⟩ := hVO.ri.int
  obtain ⟨B3, x3, rfl, -⟩ := hVO.rc.int
  have HE1 := Lib.hid (Ext.trans HE.out hE1)
  have HVO := Lib.hid hVO
  replace HBS := Lib.hid (HBS.out.later hE1)
  replace HBA := Lib.hid (HBA.out.later hE1)
  replace HBO := Lib.hid (HBO.out.later hE1)
  clear hE1 hVO HE hbol hEW e0 e3 e4 e5 e6 hal
  clear hlt d0 d1 d2 d3 d4 d5 d6 d7 d8 d9 d10
  have HE := Lib.hid (Ext.refl w1)
  have hbol := HBO.out.lt
  have hEW := HE1.out.size
  have h61 := HBO.out.lt
  have hal := HBA.out.lt
  have e3 := HBA.out.cell (k := 3) (by omega)
  change World.cell? _ _ = some (.int .i64 a'.view.leader) at e3
  have e4 := HBA.out.cell (k := 4) (by omega)
  change World.cell? _ _ = some (.int .i64 a'.view.epoch) at e4
  have e5 := HBA.out.cell (k := 5) (by omega)
  change World.cell? _ _ = some (.int .i64 a'.view.version) at e5
  have e6 := HBA.out.cell (k := 6) (by omega)
  change World.cell? _ _ = some (.slice A4 a'.view.isr.length c4) at e6
  (repeat' (first | refine X_q ?_ | fail)); (first | (refine X_var (fun yn b8 hn1 hn2 hn3 hn4 hn5 => ?_)) | (refine X_s (fun x K hK => ?_); go_simp; refine hK _ _ (Ext.alloc _ _) ?_; clear hK K; refine X_al x ?_; generalize (World.later _ x).heap.size = b8; intro yn hn1 hn2 hn3 hn4 hn5; clear x)); have HBb8 := Lib.hid (Blk.new hn5.out); have HEb8 := Lib.hid yn.ext; have hlb8 : (World.heap w1).size ≤ b8 := hn1; generalize World.later w1 yn = W8 at *; clear hn1 hn2 hn3 hn4 hn5 yn
  have HBT := Lib.hid (fbox2 HBb8.out)
  replace HE := Lib.hid (HEb8.out)
  replace HBS := Lib.hid (HBS.out.later HEb8.out)
  replace HBA := Lib.hid (HBA.out.later HEb8.out)
  replace HBO := Lib.hid (HBO.out.later HEb8.out)
  clear HBb8 HEb8
  clear hbol
  clear hal e3 e4 e5 e6

  have hal := HBA.out.lt
  have e3 := HBA.out.cell (k := 3) (by omega)
  change World.cell? _ _ = some (.int .i64 a'.view.leader) at e3
  have e4 := HBA.out.cell (k := 4) (by omega)
  change World.cell? _ _ = some (.int .i64 a'.view.epoch) at e4
  have e5 := HBA.out.cell (k := 5) (by omega)
  change World.cell? _ _ = some (.int .i64 a'.view.version) at e5
  have e6 := HBA.out.cell (k := 6) (by omega)
  change World.cell? _ _ = some (.slice A4 a'.view.isr.length c4) at e6
  have hbol := HBO.out.lt
  have h8l := HBT.out.lt
  repeat' (first | refine X_q ?_ | refine X_nil ?_ | refine W_seqk (fun K hK => ?_) | go_step)
  obtain ⟨G, hG⟩ : ∃ G : Nat → Prop, G = (fun k => F k ∨ k = b6) := ⟨_, rfl⟩
  have HGo : Hid (G b6) := Lib.hid (by subst hG; exact .inr rfl)
  have HFG : Hid (∀ k, F k → G k) := Lib.hid (fun k hk => by subst hG; exact .inl hk)
  have hG4 : ¬ G b4 := (by subst hG; rintro (h | h); (have := HFW.out _ h; omega); omega)
  have hG5 : ¬ G b5 := (by subst hG; rintro (h | h); (have := HFW.out _ h; omega); omega)
  have hG8 : ¬ G b8 := (by subst hG; rintro (h | h); (have := HFW.out _ h; omega); omega)
  clear hG
  refine W_drawG G [(0, 0), (1, 0), (2, 0), (3, 3), (5, 0), (4, 1), (6, 0), (7, 2), (8, 0)] (by kernel_rfl) (by kernel_rfl) ?_
  refine Y_fload HBT.out hG8 ?_ (hu := Tryz.underlying33)
  repeat' (first | refine Y_q ?_ | refine Y_r ?_ | fail)
  refine Y_ret Tryz.func20 (R := ProgR F b ((s.learn a'.view).1) (· = .int .i64 ((s.learn a'.view).2)) _) (fun x => prog_ret x (learn_calls (x := a'.view) ((((HH.out.later HE1.out).later HE.out).later x.2).rep) HGG.out.ne ⟨_, rfl, (((HAN.out.later HE1.out).later HE.out).later x.2).ri.rd⟩ (fun p q r u hu k hk h => by cases hu; exact HAN.out.ri.nb k hk (.inl h))) HFG.out) (fun r w4 hR => ?_)
  obtain ⟨rfl, hM, hRp⟩ := hR
  have HMc := Lib.hid hM
  have HRc := Lib.hid hRp
  have HEC := HE
  have HBO4 := Lib.hid (HBO.out.mod hM (fun h => by have := HFW.out _ h; omega))
  clear hM hRp HBT HBA HBS
  repeat' (first | refine Y_q ?_ | fail)
  refine Y_store (off := 0) HBO4.out HGo.out (fun W5 hM5 hG5x hB5 => ?_)
  have HM5 := Lib.hid hM5
  have HB5 := Lib.hid (fput hB5)
  clear hM5 hG5x hB5
  repeat' (first | refine Y_q ?_ | refine Y_nil ?_)
  repeat' (first | refine W_ret ?_ | go_step)
  exact Body_retcellv (cs := RepS.cs ((s.learn a'.view).1) _ _ _) hd (does_end HH.out HE1.out HEC.out HMc.out HRc.out HM5.out h6W h61 HVO.out) HB5.out (fun k hk => cs_fenc hk) Tryz.underlying33
end Go.Ws
namespace Go.Ws
open Go Go.RowKit Go.Proofs
set_option maxHeartbeats 4000000
set_option maxRecDepth 100000
set_option linter.unusedVariables false
set_option linter.unusedSimpArgs false

theorem does2_calls {w0 W : World} {b : Nat} {F X : Nat → Prop} {s : RepS} {uL uI uC vI vE vL : Value} {a : ActD} (h : HR w0 W b F s) (hg : s.Fine) (hX : ∀ k, X k → k < W.heap.size) (hv : VR (fun k => F k ∨ X k) W uL uI uC s) (ha : ActR (fun k => F k ∨ X k) W vI vE vL a) (hk : a.kind = 2) :
    Ret Tryz.prog 16 #[.pointer (some ⟨b, 0, none⟩), s.v uL uI uC, a.v vI vE vL] W fun r W' => DoesR w0 W b F X (s.step (a.atS s)) r W' := by
  have HH := Lib.hid h
  have HG := Lib.hid hg
  have HXW := Lib.hid hX
  clear hX
  have HVR := Lib.hid hv
  have HAC := Lib.hid (ha.at s)
  have NEAR : Hid (∀ W', Ext W W' → Ret Tryz.prog 35 #[a.v vI vE vL, s.v uL uI uC] W' fun r w' => Ext W' w' ∧ r = (a.atS s).v vI vE vL) := Lib.hid (fun W' hE => near_calls (hv.later hE) hg.good hg.ver (ha.later hE))
  have hka : (a.atS s).kind = 2 := (atS_kind a s).1.trans hk
  have ht : s.step (a.atS s) = s.app (a.atS s).ent := by unfold RepS.step; simp [hka]
  rw [ht]
  clear ht
  obtain ⟨A1, c1, rfl, -⟩ := hv.rl.rd.ent
  obtain ⟨A2, c2, rfl, -⟩ := hv.ri.rd.int
  obtain ⟨A3, c3, rfl, -⟩ := hv.rc.rd.int
  clear h hg hv ha hk
  generalize a.atS s = a' at *
  obtain ⟨A4, c4, rfl, -⟩ := HAC.out.ri.int
  obtain ⟨A5, c5, rfl, -⟩ := HAC.out.re.ent
  obtain ⟨A6, c6, rfl, -⟩ := HAC.out.rl.int
  refine Fn_of Tryz.func16 rfl (Nat.le_of_ble_eq_true rfl) ?_; intro A hd hA; simp only [ix, Nat.reduceAdd]; replace hA : A.tmps.size = 268 := hA
  (repeat' (first | refine W_seqk (fun K hK => ?_) | refine W_seqr ?_ | fail)); (first | (refine X_var (fun yn b4 hn1 hn2 hn3 hn4 hn5 => ?_)) | (refine X_s (fun x K hK => ?_); go_simp; refine hK _ _ (Ext.alloc _ _) ?_; clear hK K; refine X_al x ?_; generalize (World.later _ x).heap.size = b4; intro yn hn1 hn2 hn3 hn4 hn5; clear x)); have HBb4 := Lib.hid (Blk.new hn5.out); have HEb4 := Lib.hid yn.ext; have hlb4 : (World.heap W).size ≤ b4 := hn1; generalize World.later W yn = W0 at *; clear hn1 hn2 hn3 hn4 hn5 yn
  (skip); (first | (refine X_var (fun yn b5 hn1 hn2 hn3 hn4 hn5 => ?_)) | (refine X_s (fun x K hK => ?_); go_simp; refine hK _ _ (Ext.alloc _ _) ?_; clear hK K; refine X_al x ?_; generalize (World.later _ x).heap.size = b5; intro yn hn1 hn2 hn3 hn4 hn5; clear x)); have HBb5 := Lib.hid (Blk.new hn5.out); have HEb5 := Lib.hid yn.ext; have hlb5 : (World.heap W0).size ≤ b5 := hn1; generalize World.later W0 yn = W1 at *; clear hn1 hn2 hn3 hn4 hn5 yn
  (skip); (first | (refine X_var (fun yn b6 hn1 hn2 hn3 hn4 hn5 => ?_)) | (refine X_s (fun x K hK => ?_); go_simp; refine hK _ _ (Ext.alloc _ _) ?_; clear hK K; refine X_al x ?_; generalize (World.later _ x).heap.size = b6; intro yn hn1 hn2 hn3 hn4 hn5; clear x)); have HBb6 := Lib.hid (Blk.new hn5.out); have HEb6 := Lib.hid yn.ext; have hlb6 : (World.heap W1).size ≤ b6 := hn1; generalize World.later W1 yn = W2 at *; clear hn1 hn2 hn3 hn4 hn5 yn
  have HBS := Lib.hid ((fbox2 HBb4.out).later (Ext.trans HEb5.out HEb6.out))
  have HBA : Hid (Blk W2 b5 51 27 (aenc a (.slice A4 a'.view.isr.length c4) (.slice A5 a'.reply.entries.length c5) (.slice A6 a'.list.length c6))) := Lib.hid ((HBb5.out.later HEb6.out).congr (fun k hk => rfl))
  have HBO := HBb6
  have HE := Lib.hid (Ext.trans (Ext.trans HEb4.out HEb5.out) HEb6.out)
  have hbb : b4 < b5 := by have := HBb4.out.lt; omega
  have hbb2 : b5 < b6 := by have := HBb5.out.lt; omega
  have hs0 := HEb4.out.size
  have hs1 := HEb5.out.size
  have h6W : W.heap.size ≤ b6 := by omega
  clear HBb4 HBb5 HBb6 HEb4 HEb5 HEb6
  have HFW : Hid (∀ k, F k → k < W.heap.size) := Lib.hid (fun k hk => (HH.out.hi k hk).2)
  have HVN := Lib.hid (HVR.out.wide (N' := fun k => F k ∨ X k ∨ k = b6) (fun k hk => hk.elim (fun h => .inl (.inl h)) (fun h => h.elim (fun h => .inl (.inr h)) (fun e => .inr (by subst e; exact h6W)))))
  have HAN := Lib.hid (HAC.out.wide (N' := fun k => F k ∨ X k ∨ k = b6) (fun k hk => hk.elim (fun h => .inl (.inl h)) (fun h => h.elim (fun h => .inl (.inr h)) (fun e => .inr (by subst e; exact h6W)))))
  clear HVR HAC
  have hal := HBA.out.lt
  have hsl := HBS.out.lt
  repeat' (first | refine X_q ?_ | refine X_nil ?_ | refine W_seqk (fun K hK => ?_) | refine W_seqr ?_ | go_step)
  refine X_aload HBA.out ?_ (hu := Tryz.underlying51)
  skip
  refine X_fload HBS.out ?_ (hu := Tryz.underlying33)
  skip
  refine X_ret Tryz.func35 (NEAR.out _ HE.out) (fun r w1 hR => ?_)
  obtain ⟨hE1, rfl⟩ := hR
  replace HBS := Lib.hid (HBS.out.later hE1)
  replace HBA := Lib.hid (HBA.out.later hE1)
  replace HBO := Lib.hid (HBO.out.later hE1)
  replace HE := Lib.hid (Ext.trans HE.out hE1)
  clear hE1 NEAR hal hsl
  have hal := HBA.out.lt
  skip
  refine X_store (off := 0) HBA.out (fun W1 hM1 hB1 => ?_); replace HE := Lib.hid (Ext.fresh HE.out hM1 (fun k hk => by subst hk; omega)); replace HBS := Lib.hid (HBS.out.mod hM1 (fun h => by omega)); replace HBO := Lib.hid (HBO.out.mod hM1 (fun h => by omega)); replace HBA := Lib.hid hB1; clear hM1 hB1
  replace HBA := Lib.hid (HBA.out.congr (g' := aenc a' (.slice A4 a'.view.isr.length c4) (.slice A5 a'.reply.entries.length c5) (.slice A6 a'.list.length c6)) (all27 ⟨rfl, rfl, rfl, rfl, rfl, rfl, rfl, rfl, rfl, rfl, rfl, rfl, rfl, rfl, rfl, rfl, rfl, rfl, rfl, rfl, rfl, rfl, rfl, rfl, rfl, rfl, rfl⟩))
  clear hal
  obtain ⟨hlt, d0, d1, d2, d3, d4, d5, d6, d7, d8, d9, d10⟩ := fcells HBS.out
  have hal := HBA.out.lt
  have e0 := HBA.out.cell (k := 0) (by omega)
  change World.cell? _ _ = some (.int .i64 a'.kind) at e0
  have e7 := HBA.out.cell (k := 7) (by omega)
  change World.cell? _ _ = some (.int .i64 a'.ent.ep) at e7
  have e8 := HBA.out.cell (k := 8) (by omega)
  change World.cell? _ _ = some (.int .i64 a'.ent.id) at e8
  have e9 := HBA.out.cell (k := 9) (by omega)
  change World.cell? _ _ = some (.int .i64 a'.ent.num) at e9
  have e10 := HBA.out.cell (k := 10) (by omega)
  change World.cell? _ _ = some (.int .i64 a'.ent.seq) at e10
  have e11 := HBA.out.cell (k := 11) (by omega)
  change World.cell? _ _ = some (.int .i64 a'.ent.kind) at e11
  have e12 := HBA.out.cell (k := 12) (by omega)
  change World.cell? _ _ = some (.int .i64 a'.ent.val) at e12
  rw [hka] at e0
  have hbol := HBO.out.lt
  have hEW := HE.out.size
  have HGG := Lib.hid HG.out.good
  repeat' (first | refine X_q ?_ | refine X_nil ?_ | refine W_seqk (fun K hK => ?_) | refine W_seqr ?_ | refine W_block ?_ | refine W_tt ?_ | refine W_ff ?_ | go_step)
  refine X_fload HBS.out ?_ (hu := Tryz.underlying33)
  repeat' (first | refine X_q ?_ | fail)
  refine X_ret Tryz.func37 (append11_calls (N := fun k => F k ∨ X k ∨ k = b6) (e := a'.ent) (fun k hk => hk.elim (fun h => by have := HFW.out k h; omega) (fun h => h.elim (fun h => by have := HXW.out k h; omega) (fun h => by omega))) (HVN.out.later HE.out) HGG.out.len (ofNo_all _ HGG.out.ok).1) (fun r w1 hR => ?_)
  obtain ⟨hE1, v1, rfl, oL, oI, oC, rfl, hVO⟩ := hR
  obtain ⟨B1, x1, rfl, -⟩ := hVO.rl.ent
  obtain ⟨B2, x2, rfl, -⟩ := hVO.ri.int
  obtain ⟨B3, x3, rfl, -⟩ := hVO.rc.int
  have HE1 := Lib.hid (Ext.trans HE.out hE1)
  have HVO := Lib.hid hVO
  replace HBS := Lib.hid (HBS.out.later hE1)
  replace HBA := Lib.hid (HBA.out.later hE1)
  replace HBO := Lib.hid (HBO.out.later hE1)
  clear hE1 hVO HE hbol hEW e0 e7 e8 e9 e10 e11 e12 hal
  clear hlt d0 d1 d2 d3 d4 d5 d6 d7 d8 d9 d10
  have HE := Lib.hid (Ext.refl w1)
  have hbol := HBO.out.lt
  have hEW := HE1.out.size
  have h61 := HBO.out.lt
  have hal := HBA.out.lt
  have e7 := HBA.out.cell (k := 7) (by omega)
  change World.cell? _ _ = some (.int .i64 a'.ent.ep) at e7
  have e8 := HBA.out.cell (k := 8) (by omega)
  change World.cell? _ _ = some (.int .i64 a'.ent.id) at e8
  have e9 := HBA.out.cell (k := 9) (by omega)
  change World.cell? _ _ = some (.int .i64 a'.ent.num) at e9
  have e10 := HBA.out.cell (k := 10) (by omega)
  change World.cell? _ _ = some (.int .i64 a'.ent.seq) at e10
  have e11 := HBA.out.cell (k := 11) (by omega)
  change World.cell? _ _ = some (.int .i64 a'.ent.kind) at e11
  have e12 := HBA.out.cell (k := 12) (by omega)
  change World.cell? _ _ = some (.int .i64 a'.ent.val) at e12
  (repeat' (first | refine X_q ?_ | fail)); (first | (refine X_var (fun yn b8 hn1 hn2 hn3 hn4 hn5 => ?_)) | (refine X_s (fun x K hK => ?_); go_simp; refine hK _ _ (Ext.alloc _ _) ?_; clear hK K; refine X_al x ?_; generalize (World.later _ x).heap.size = b8; intro yn hn1 hn2 hn3 hn4 hn5; clear x)); have HBb8 := Lib.hid (Blk.new hn5.out); have HEb8 := Lib.hid yn.ext; have hlb8 : (World.heap w1).size ≤ b8 := hn1; generalize World.later w1 yn = W8 at *; clear hn1 hn2 hn3 hn4 hn5 yn
  have HBT := Lib.hid (fbox2 HBb8.out)
  replace HE := Lib.hid (HEb8.out)
  replace HBA := Lib.hid (HBA.out.later HEb8.out)
  replace HBO := Lib.hid (HBO.out.later HEb8.out)
  clear HBb8 HEb8 HBS hbol
  clear hal e7 e8 e9 e10 e11 e12
  have hal := HBA.out.lt
  have e7 := HBA.out.cell (k := 7) (by omega)
  change World.cell? _ _ = some (.int .i64 a'.ent.ep) at e7
  have e8 := HBA.out.cell (k := 8) (by omega)
  change World.cell? _ _ = some (.int .i64 a'.ent.id) at e8
  have e9 := HBA.out.cell (k := 9) (by omega)
  change World.cell? _ _ = some (.int .i64 a'.ent.num) at e9
  have e10 := HBA.out.cell (k := 10) (by omega)
  change World.cell? _ _ = some (.int .i64 a'.ent.seq) at e10
  have e11 := HBA.out.cell (k := 11) (by omega)
  change World.cell? _ _ = some (.int .i64 a'.ent.kind) at e11
  have e12 := HBA.out.cell (k := 12) (by omega)
  change World.cell? _ _ = some (.int .i64 a'.ent.val) at e12
  have hbol := HBO.out.lt
  have h8l := HBT.out.lt
  repeat' (first | refine X_q ?_ | refine X_nil ?_ | refine W_seqk (fun K hK => ?_) | refine W_seqr ?_ | go_step)
  refine X_ret Tryz.func21 (append_rep (e := a'.ent) (((HH.out.later HE1.out).later HE.out).rep) HGG.out.ne HGG.out.ok HGG.out.len) (fun r w4 hR => ?_)
  obtain ⟨rfl, hM, hRp⟩ := hR
  have HMc := Lib.hid hM
  have HRc := Lib.hid hRp
  have HBO4 := Lib.hid (HBO.out.mod hM (fun h => by have := HFW.out _ h; omega))
  have hbol4 := HBO4.out.lt
  have hs4 := hM.size
  replace HBT := Lib.hid (HBT.out.mod hM (fun h => by have := HFW.out _ h; omega))
  clear hM hRp h8l
  have h8l := HBT.out.lt
  repeat' (first | refine X_q ?_ | refine X_nil ?_ | refine W_seqk (fun K hK => ?_) | refine W_seqr ?_ | go_step)
  refine X_fload HBT.out ?_ (hu := Tryz.underlying33)
  repeat' (first | refine X_gt ?_ | refine X_q ?_ | fail)
  refine X_store (off := 0) HBO4.out (fun W5 hM5 hB5 => ?_)
  have HM5 := Lib.hid hM5
  have HB5 := Lib.hid (fput hB5)
  clear hM5 hB5
  repeat' (first | refine X_q ?_ | refine X_nil ?_ | refine W_ret ?_ | go_step)
  exact Body_retcellv (cs := RepS.cs (s.app a'.ent) _ _ _) hd (does_end HH.out HE1.out HE.out HMc.out HRc.out HM5.out h6W h61 HVO.out) HB5.out (fun k hk => cs_fenc hk) Tryz.underlying33
end Go.Ws
namespace Go.Ws
open Go Go.RowKit Go.Proofs
set_option maxHeartbeats 4000000
set_option maxRecDepth 100000
set_option linter.unusedVariables false
set_option linter.unusedSimpArgs false

theorem does3_calls {w0 W : World} {b : Nat} {F X : Nat → Prop} {s : RepS} {uL uI uC vI vE vL : Value} {a : ActD} (h : HR w0 W b F s) (hg : s.Fine) (hX : ∀ k, X k → k < W.heap.size) (hv : VR (fun k => F k ∨ X k) W uL uI uC s) (ha : ActR (fun k => F k ∨ X k) W vI vE vL a) (hk : a.kind = 3) :
    Ret Tryz.prog 16 #[.pointer (some ⟨b, 0, none⟩), s.v uL uI uC, a.v vI vE vL] W fun r W' => DoesR w0 W b F X (s.step (a.atS s)) r W' := by
  have HH := Lib.hid h
  have HG := Lib.hid hg
  have HXW := Lib.hid hX
  clear hX
  have HVR := Lib.hid hv
  have HAC := Lib.hid (ha.at s)
  have NEAR : Hid (∀ W', Ext W W' → Ret Tryz.prog 35 #[a.v vI vE vL, s.v uL uI uC] W' fun r w' => Ext W' w' ∧ r = (a.atS s).v vI vE vL) := Lib.hid (fun W' hE => near_calls (hv.later hE) hg.good hg.ver (ha.later hE))
  have hka : (a.atS s).kind = 3 := (atS_kind a s).1.trans hk
  have ht : s.step (a.atS s) = s.flush := by unfold RepS.step; simp [hka]
  rw [ht]
  clear ht
  obtain ⟨A1, c1, rfl, -⟩ := hv.rl.rd.ent
  obtain ⟨A2, c2, rfl, -⟩ := hv.ri.rd.int
  obtain ⟨A3, c3, rfl, -⟩ := hv.rc.rd.int
  clear h hg hv ha hk
  generalize a.atS s = a' at *
  obtain ⟨A4, c4, rfl, -⟩ := HAC.out.ri.int
  obtain ⟨A5, c5, rfl, -⟩ := HAC.out.re.ent
  obtain ⟨A6, c6, rfl, -⟩ := HAC.out.rl.int
  refine Fn_of Tryz.func16 rfl (Nat.le_of_ble_eq_true rfl) ?_; intro A hd hA; simp only [ix, Nat.reduceAdd]; replace hA : A.tmps.size = 268 := hA
  (repeat' (first | refine W_seqk (fun K hK => ?_) | refine W_seqr ?_ | fail)); (first | (refine X_var (fun yn b4 hn1 hn2 hn3 hn4 hn5 => ?_)) | (refine X_s (fun x K hK => ?_); go_simp; refine hK _ _ (Ext.alloc _ _) ?_; clear hK K; refine X_al x ?_; generalize (World.later _ x).heap.size = b4; intro yn hn1 hn2 hn3 hn4 hn5; clear x)); have HBb4 := Lib.hid (Blk.new hn5.out); have HEb4 := Lib.hid yn.ext; have hlb4 : (World.heap W).size ≤ b4 := hn1; generalize World.later W yn = W0 at *; clear hn1 hn2 hn3 hn4 hn5 yn
  (skip); (first | (refine X_var (fun yn b5 hn1 hn2 hn3 hn4 hn5 => ?_)) | (refine X_s (fun x K hK => ?_); go_simp; refine hK _ _ (Ext.alloc _ _) ?_; clear hK K; refine X_al x ?_; generalize (World.later _ x).heap.size = b5; intro yn hn1 hn2 hn3 hn4 hn5; clear x)); have HBb5 := Lib.hid (Blk.new hn5.out); have HEb5 := Lib.hid yn.ext; have hlb5 : (World.heap W0).size ≤ b5 := hn1; generalize World.later W0 yn = W1 at *; clear hn1 hn2 hn3 hn4 hn5 yn
  (skip); (first | (refine X_var (fun yn b6 hn1 hn2 hn3 hn4 hn5 => ?_)) | (refine X_s (fun x K hK => ?_); go_simp; refine hK _ _ (Ext.alloc _ _) ?_; clear hK K; refine X_al x ?_; generalize (World.later _ x).heap.size = b6; intro yn hn1 hn2 hn3 hn4 hn5; clear x)); have HBb6 := Lib.hid (Blk.new hn5.out); have HEb6 := Lib.hid yn.ext; have hlb6 : (World.heap W1).size ≤ b6 := hn1; generalize World.later W1 yn = W2 at *; clear hn1 hn2 hn3 hn4 hn5 yn
  have HBS := Lib.hid ((fbox2 HBb4.out).later (Ext.trans HEb5.out HEb6.out))
  have HBA : Hid (Blk W2 b5 51 27 (aenc a (.slice A4 a'.view.isr.length c4) (.slice A5 a'.reply.entries.length c5) (.slice A6 a'.list.length c6))) := Lib.hid ((HBb5.out.later HEb6.out).congr (fun k hk => rfl))
  have HBO := HBb6
  have HE := Lib.hid (Ext.trans (Ext.trans HEb4.out HEb5.out) HEb6.out)
  have hbb : b4 < b5 := by have := HBb4.out.lt; omega
  have hbb2 : b5 < b6 := by have := HBb5.out.lt; omega
  have hs0 := HEb4.out.size
  have hs1 := HEb5.out.size
  have h6W : W.heap.size ≤ b6 := by omega
  clear HBb4 HBb5 HBb6 HEb4 HEb5 HEb6
  have HFW : Hid (∀ k, F k → k < W.heap.size) := Lib.hid (fun k hk => (HH.out.hi k hk).2)
  have HVN := Lib.hid (HVR.out.wide (N' := fun k => F k ∨ X k ∨ k = b6) (fun k hk => hk.elim (fun h => .inl (.inl h)) (fun h => h.elim (fun h => .inl (.inr h)) (fun e => .inr (by subst e; exact h6W)))))
  have HAN := Lib.hid (HAC.out.wide (N' := fun k => F k ∨ X k ∨ k = b6) (fun k hk => hk.elim (fun h => .inl (.inl h)) (fun h => h.elim (fun h => .inl (.inr h)) (fun e => .inr (by subst e; exact h6W)))))
  clear HVR HAC
  have hal := HBA.out.lt
  have hsl := HBS.out.lt
  repeat' (first | refine X_q ?_ | refine X_nil ?_ | refine W_seqk (fun K hK => ?_) | refine W_seqr ?_ | go_step)
  refine X_aload HBA.out ?_ (hu := Tryz.underlying51)
  skip
  refine X_fload HBS.out ?_ (hu := Tryz.underlying33)
  skip
  refine X_ret Tryz.func35 (NEAR.out _ HE.out) (fun r w1 hR => ?_)
  obtain ⟨hE1, rfl⟩ := hR
  replace HBS := Lib.hid (HBS.out.later hE1)
  replace HBA := Lib.hid (HBA.out.later hE1)
  replace HBO := Lib.hid (HBO.out.later hE1)
  replace HE := Lib.hid (Ext.trans HE.out hE1)
  clear hE1 NEAR hal hsl
  have hal := HBA.out.lt
  skip
  refine X_store (off := 0) HBA.out (fun W1 hM1 hB1 => ?_); replace HE := Lib.hid (Ext.fresh HE.out hM1 (fun k hk => by subst hk; omega)); replace HBS := Lib.hid (HBS.out.mod hM1 (fun h => by omega)); replace HBO := Lib.hid (HBO.out.mod hM1 (fun h => by omega)); replace HBA := Lib.hid hB1; clear hM1 hB1
  replace HBA := Lib.hid (HBA.out.congr (g' := aenc a' (.slice A4 a'.view.isr.length c4) (.slice A5 a'.reply.entries.length c5) (.slice A6 a'.list.length c6)) (all27 ⟨rfl, rfl, rfl, rfl, rfl, rfl, rfl, rfl, rfl, rfl, rfl, rfl, rfl, rfl, rfl, rfl, rfl, rfl, rfl, rfl, rfl, rfl, rfl, rfl, rfl, rfl, rfl⟩))
  clear hal
  obtain ⟨hlt, d0, d1, d2, d3, d4, d5, d6, d7, d8, d9, d10⟩ := fcells HBS.out
  have hal := HBA.out.lt
  have e0 := HBA.out.cell (k := 0) (by omega)
  change World.cell? _ _ = some (.int .i64 a'.kind) at e0
  rw [hka] at e0
  have hbol := HBO.out.lt
  have hEW := HE.out.size
  have HGG := Lib.hid HG.out.good
  repeat' (first | refine X_q ?_ | refine X_nil ?_ | refine W_seqk (fun K hK => ?_) | refine W_seqr ?_ | refine W_block ?_ | refine W_tt ?_ | refine W_ff ?_ | go_step)
  refine X_fload HBS.out ?_ (hu := Tryz.underlying33)
  skip
  refine X_ret Tryz.func38 (flush11_calls (N := fun k => F k ∨ X k ∨ k = b6) (HVN.out.later HE.out) HGG.out.bks) (fun r w1 hR => ?_)
  obtain ⟨hE1, oL, oI, oC, rfl, hVO⟩ := hR
  obtain ⟨B1, x1, rfl, -⟩ := hVO.rl.ent
  obtain ⟨B2, x2, rfl, -⟩ := hVO.ri.int
  obtain ⟨B3, x3, rfl, -⟩ := hVO.rc.int
  have HE1 := Lib.hid (Ext.trans HE.out hE1)
  have HVO := Lib.hid hVO
  replace HBS := Lib.hid (HBS.out.later hE1)
  replace HBA := Lib.hid (HBA.out.later hE1)
  replace HBO := Lib.hid (HBO.out.later hE1)
  clear hE1 hVO HE hbol hEW e0 hal
  clear hlt d0 d1 d2 d3 d4 d5 d6 d7 d8 d9 d10
  have HE := Lib.hid (Ext.refl w1)
  have hbol := HBO.out.lt
  have hEW := HE1.out.size
  have h61 := HBO.out.lt
  repeat' (first | refine X_q ?_ | fail)
  refine X_ret Tryz.func26 (flush_calls ((HH.out.later HE1.out).rep) HGG.out.ne HGG.out.bks) (fun r w4 hR => ?_)
  replace hR := And.intro hR.1 (And.intro hR.2.1 (hR.2.2.mono (G := fun k => F k ∨ w1.heap.size ≤ k) (fun k hk => .inl hk)))
  obtain ⟨rfl, hM, hRp⟩ := hR
  have HMc := Lib.hid hM
  have HRc := Lib.hid hRp
  have HBO4 := Lib.hid (HBO.out.mod hM (fun h => by have := HFW.out _ h; omega))
  have hbol4 := HBO4.out.lt
  have hs4 := hM.size
  clear hM hRp
  repeat' (first | refine X_q ?_ | fail)
  refine X_store (off := 0) HBO4.out (fun W5 hM5 hB5 => ?_)
  have HM5 := Lib.hid hM5
  have HB5 := Lib.hid (fput hB5)
  clear hM5 hB5
  repeat' (first | refine X_q ?_ | refine X_nil ?_ | refine W_ret ?_ | go_step)
  exact Body_retcellv (cs := RepS.cs (s.flush) _ _ _) hd (does_end HH.out HE1.out HE.out HMc.out HRc.out HM5.out h6W h61 HVO.out) HB5.out (fun k hk => cs_fenc hk) Tryz.underlying33
end Go.Ws
