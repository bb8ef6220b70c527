/- Lemmas for the statements of this layer (joined texts); no condition. -/
import Derived.Test.YtlpjgegbdmkmdaaGreatBb15
import Derived.Test.YtlpjgegbdmkmdaaGreatBb16
import Derived.Test.YtlpjgegbdmkmdaaGreatBb21
import Derived.Test.YtlpjgegbdmkmdaaGreatBb23
namespace Go.Ws
open Go Go.RowKit Go.Proofs
set_option maxHeartbeats 2000000
set_option maxRecDepth 100000
set_option linter.unusedVariables false
set_option linter.unusedSimpArgs false
theorem take11_calls {N:Nat→Prop} {w:World} {uL uI uC u:Value} {s:RepS} {p:Reply} (hN:∀ k,N k→k < w.heap.size) (h:VR N w uL uI uC s) (hl:s.log.length≤4096) (hm:mayE s.log = true) (hu:RdE w u p.entries) (hul:p.entries.length≤100000):Ret Tryz.prog 42 #[s.v uL uI uC,p.v u] w fun r w'=>Ext w w'∧∃ v',r = .tuple #[v',.int .i64 (s.takeNo p)]∧FV N w' v' (s.take p):=by
  have HNN:=Lib.hid hN
  clear hN
  have HVR:=Lib.hid h
  obtain ⟨A1,c1,rfl,hc1,hcm1,-⟩:=h.rl.rd.ent
  obtain ⟨A2,c2,rfl,-⟩:=h.ri.rd.int
  obtain ⟨A3,c3,rfl,-⟩:=h.rc.rd.int
  clear h
  have HU:=Lib.hid hu
  obtain ⟨A4,c4,rfl,-⟩:=hu.ent
  clear hu
  by_cases z0:p.epoch < 0
  · have hn:s.takeNo p = 2:=by unfold RepS.takeNo;rw [if_pos (by simp [Reply.right];omega)]
    have ht:s.take p = s:=by unfold RepS.take;rw [if_pos (by rw [hn];decide)]
    rw [hn,ht]
    clear hn ht
    refine Fn_of Tryz.func42 rfl (Nat.le_of_ble_eq_true rfl) ?_;intro A hd hA;simp only [ix,Nat.reduceAdd];replace hA:A.tmps.size = 156:=hA
    (repeat' (first|refine W_seqk (fun K hK=>?_)|refine W_seqr ?_|fail));(first|(refine X_var (fun yn bx hn1 hn2 hn3 hn4 hn5=>?_))|(refine X_s (fun x K hK=>?_);go_simp;refine hK _ _ (Ext.alloc _ _) ?_;clear hK K;refine X_al x ?_;generalize (World.later _ x).heap.size = bx;intro yn hn1 hn2 hn3 hn4 hn5;clear x));have HBbx:=Lib.hid (Blk.new hn5.out);have HEbx:=Lib.hid yn.ext;have hlbx:(World.heap w).size≤bx:=hn1;generalize World.later w yn = W0 at *;clear hn1 hn2 hn3 hn4 hn5 yn
    (skip);(first|(refine X_var (fun yn bp hn1 hn2 hn3 hn4 hn5=>?_))|(refine X_s (fun x K hK=>?_);go_simp;refine hK _ _ (Ext.alloc _ _) ?_;clear hK K;refine X_al x ?_;generalize (World.later _ x).heap.size = bp;intro yn hn1 hn2 hn3 hn4 hn5;clear x));have HBbp:=Lib.hid (Blk.new hn5.out);have HEbp:=Lib.hid yn.ext;have hlbp:(World.heap W0).size≤bp:=hn1;generalize World.later W0 yn = W1 at *;clear hn1 hn2 hn3 hn4 hn5 yn
    (skip);(first|(refine X_var (fun yn bo hn1 hn2 hn3 hn4 hn5=>?_))|(refine X_s (fun x K hK=>?_);go_simp;refine hK _ _ (Ext.alloc _ _) ?_;clear hK K;refine X_al x ?_;generalize (World.later _ x).heap.size = bo;intro yn hn1 hn2 hn3 hn4 hn5;clear x));have HBbo:=Lib.hid (Blk.new hn5.out);have HEbo:=Lib.hid yn.ext;have hlbo:(World.heap W1).size≤bo:=hn1;generalize World.later W1 yn = W at *;clear hn1 hn2 hn3 hn4 hn5 yn
    have HBX:=Lib.hid ((fbox2 HBbx.out).later (Ext.trans HEbp.out HEbo.out))
    have HBP:=Lib.hid (HBbp.out.later HEbo.out)
    have HE:=Lib.hid (Ext.trans (Ext.trans HEbx.out HEbp.out) HEbo.out)
    have hbb:bx < bp:=by have:=HBbx.out.lt;omega
    have hbb2:bp < bo:=by have:=HBbp.out.lt;omega
    have hE0:=HEbx.out.size
    have hE1:=HEbp.out.size
    have HBO:=HBbo
    clear HBbx HBbo HBbp HEbx HEbo HEbp
    obtain ⟨hlt,d0,d1,d2,d3,d4,d5,d6,d7,d8,d9,d10⟩:=fcells HBX.out
    have hpl:=HBP.out.lt
    have p0:=HBP.out.cell (k:=0) (by simp)
    have p1:=HBP.out.cell (k:=1) (by simp)
    have p2:=HBP.out.cell (k:=2) (by simp)
    have p3:=HBP.out.cell (k:=3) (by simp)
    have p4:=HBP.out.cell (k:=4) (by simp)
    have p5:=HBP.out.cell (k:=5) (by simp)
    have p6:=HBP.out.cell (k:=6) (by simp)
    have p7:=HBP.out.cell (k:=7) (by simp)
    simp at p0 p1 p2 p3 p4 p5 p6 p7
    repeat' (first|refine X_q ?_|refine X_g ?_|refine X_gf ?_|refine X_nil ?_|refine W_seqk (fun K hK=>?_)|refine W_seqr ?_|refine W_tt ?_|go_step)
    refine X_fload HBX.out ?_ (hu:=Tryz.underlying33)
    skip
    refine X_store (off:=0) HBO.out (fun W1 hM1 hB1=>?_);replace HE:=Lib.hid (Ext.fresh HE.out hM1 (fun k hk=>by subst hk;omega));replace HBO:=Lib.hid hB1;clear hM1 hB1
    replace HBO:=Lib.hid (fput HBO.out)
    repeat' (first|refine X_q ?_|refine X_nil ?_|refine W_ret ?_|go_step)
    exact Body_retcellv (cs:=RepS.cs (s) _ _ _) hd ⟨HE.out,_,rfl,_,_,_,rfl,HVR.out.later HE.out⟩ HBO.out (fun k hk=>cs_fenc hk) Tryz.underlying33
  · by_cases z1:p.base < 0
    · have hn:s.takeNo p = 2:=by unfold RepS.takeNo;rw [if_pos (by simp [Reply.right];omega)]
      have ht:s.take p = s:=by unfold RepS.take;rw [if_pos (by rw [hn];decide)]
      rw [hn,ht]
      clear hn ht
      refine Fn_of Tryz.func42 rfl (Nat.le_of_ble_eq_true rfl) ?_;intro A hd hA;simp only [ix,Nat.reduceAdd];replace hA:A.tmps.size = 156:=hA
      (repeat' (first|refine W_seqk (fun K hK=>?_)|refine W_seqr ?_|fail));(first|(refine X_var (fun yn bx hn1 hn2 hn3 hn4 hn5=>?_))|(refine X_s (fun x K hK=>?_);go_simp;refine hK _ _ (Ext.alloc _ _) ?_;clear hK K;refine X_al x ?_;generalize (World.later _ x).heap.size = bx;intro yn hn1 hn2 hn3 hn4 hn5;clear x));have HBbx:=Lib.hid (Blk.new hn5.out);have HEbx:=Lib.hid yn.ext;have hlbx:(World.heap w).size≤bx:=hn1;generalize World.later w yn = W0 at *;clear hn1 hn2 hn3 hn4 hn5 yn
      (skip);(first|(refine X_var (fun yn bp hn1 hn2 hn3 hn4 hn5=>?_))|(refine X_s (fun x K hK=>?_);go_simp;refine hK _ _ (Ext.alloc _ _) ?_;clear hK K;refine X_al x ?_;generalize (World.later _ x).heap.size = bp;intro yn hn1 hn2 hn3 hn4 hn5;clear x));have HBbp:=Lib.hid (Blk.new hn5.out);have HEbp:=Lib.hid yn.ext;have hlbp:(World.heap W0).size≤bp:=hn1;generalize World.later W0 yn = W1 at *;clear hn1 hn2 hn3 hn4 hn5 yn
      (skip);(first|(refine X_var (fun yn bo hn1 hn2 hn3 hn4 hn5=>?_))|(refine X_s (fun x K hK=>?_);go_simp;refine hK _ _ (Ext.alloc _ _) ?_;clear hK K;refine X_al x ?_;generalize (World.later _ x).heap.size = bo;intro yn hn1 hn2 hn3 hn4 hn5;clear x));have HBbo:=Lib.hid (Blk.new hn5.out);have HEbo:=Lib.hid yn.ext;have hlbo:(World.heap W1).size≤bo:=hn1;generalize World.later W1 yn = W at *;clear hn1 hn2 hn3 hn4 hn5 yn
      have HBX:=Lib.hid ((fbox2 HBbx.out).later (Ext.trans HEbp.out HEbo.out))
      have HBP:=Lib.hid (HBbp.out.later HEbo.out)
      have HE:=Lib.hid (Ext.trans (Ext.trans HEbx.out HEbp.out) HEbo.out)
      have hbb:bx < bp:=by have:=HBbx.out.lt;omega
      have hbb2:bp < bo:=by have:=HBbp.out.lt;omega
      have hE0:=HEbx.out.size
      have hE1:=HEbp.out.size
      have HBO:=HBbo
      clear HBbx HBbo HBbp HEbx HEbo HEbp
      obtain ⟨hlt,d0,d1,d2,d3,d4,d5,d6,d7,d8,d9,d10⟩:=fcells HBX.out
      have hpl:=HBP.out.lt
      have p0:=HBP.out.cell (k:=0) (by simp)
      have p1:=HBP.out.cell (k:=1) (by simp)
      have p2:=HBP.out.cell (k:=2) (by simp)
      have p3:=HBP.out.cell (k:=3) (by simp)
      have p4:=HBP.out.cell (k:=4) (by simp)
      have p5:=HBP.out.cell (k:=5) (by simp)
      have p6:=HBP.out.cell (k:=6) (by simp)
      have p7:=HBP.out.cell (k:=7) (by simp)
      simp at p0 p1 p2 p3 p4 p5 p6 p7
      repeat' (first|refine X_gt ?_|refine X_q ?_|refine X_g ?_|refine X_gf ?_|refine X_nil ?_|refine W_seqk (fun K hK=>?_)|refine W_seqr ?_|refine W_tt ?_|go_step)
      refine X_fload HBX.out ?_ (hu:=Tryz.underlying33)
      skip
      refine X_store (off:=0) HBO.out (fun W1 hM1 hB1=>?_);replace HE:=Lib.hid (Ext.fresh HE.out hM1 (fun k hk=>by subst hk;omega));replace HBO:=Lib.hid hB1;clear hM1 hB1
      replace HBO:=Lib.hid (fput HBO.out)
      repeat' (first|refine X_q ?_|refine X_nil ?_|refine W_ret ?_|go_step)
      exact Body_retcellv (cs:=RepS.cs (s) _ _ _) hd ⟨HE.out,_,rfl,_,_,_,rfl,HVR.out.later HE.out⟩ HBO.out (fun k hk=>cs_fenc hk) Tryz.underlying33
    · by_cases z2:p.last < 0
      · have hn:s.takeNo p = 2:=by unfold RepS.takeNo;rw [if_pos (by simp [Reply.right];omega)]
        have ht:s.take p = s:=by unfold RepS.take;rw [if_pos (by rw [hn];decide)]
        rw [hn,ht]
        clear hn ht
        refine Fn_of Tryz.func42 rfl (Nat.le_of_ble_eq_true rfl) ?_;intro A hd hA;simp only [ix,Nat.reduceAdd];replace hA:A.tmps.size = 156:=hA
        (repeat' (first|refine W_seqk (fun K hK=>?_)|refine W_seqr ?_|fail));(first|(refine X_var (fun yn bx hn1 hn2 hn3 hn4 hn5=>?_))|(refine X_s (fun x K hK=>?_);go_simp;refine hK _ _ (Ext.alloc _ _) ?_;clear hK K;refine X_al x ?_;generalize (World.later _ x).heap.size = bx;intro yn hn1 hn2 hn3 hn4 hn5;clear x));have HBbx:=Lib.hid (Blk.new hn5.out);have HEbx:=Lib.hid yn.ext;have hlbx:(World.heap w).size≤bx:=hn1;generalize World.later w yn = W0 at *;clear hn1 hn2 hn3 hn4 hn5 yn
        (skip);(first|(refine X_var (fun yn bp hn1 hn2 hn3 hn4 hn5=>?_))|(refine X_s (fun x K hK=>?_);go_simp;refine hK _ _ (Ext.alloc _ _) ?_;clear hK K;refine X_al x ?_;generalize (World.later _ x).heap.size = bp;intro yn hn1 hn2 hn3 hn4 hn5;clear x));have HBbp:=Lib.hid (Blk.new hn5.out);have HEbp:=Lib.hid yn.ext;have hlbp:(World.heap W0).size≤bp:=hn1;generalize World.later W0 yn = W1 at *;clear hn1 hn2 hn3 hn4 hn5 yn
        (skip);(first|(refine X_var (fun yn bo hn1 hn2 hn3 hn4 hn5=>?_))|(refine X_s (fun x K hK=>?_);go_simp;refine hK _ _ (Ext.alloc _ _) ?_;clear hK K;refine X_al x ?_;generalize (World.later _ x).heap.size = bo;intro yn hn1 hn2 hn3 hn4 hn5;clear x));have HBbo:=Lib.hid (Blk.new hn5.out);have HEbo:=Lib.hid yn.ext;have hlbo:(World.heap W1).size≤bo:=hn1;generalize World.later W1 yn = W at *;clear hn1 hn2 hn3 hn4 hn5 yn
        have HBX:=Lib.hid ((fbox2 HBbx.out).later (Ext.trans HEbp.out HEbo.out))
        have HBP:=Lib.hid (HBbp.out.later HEbo.out)
        have HE:=Lib.hid (Ext.trans (Ext.trans HEbx.out HEbp.out) HEbo.out)
        have hbb:bx < bp:=by have:=HBbx.out.lt;omega
        have hbb2:bp < bo:=by have:=HBbp.out.lt;omega
        have hE0:=HEbx.out.size
        have hE1:=HEbp.out.size
        have HBO:=HBbo
        clear HBbx HBbo HBbp HEbx HEbo HEbp
        obtain ⟨hlt,d0,d1,d2,d3,d4,d5,d6,d7,d8,d9,d10⟩:=fcells HBX.out
        have hpl:=HBP.out.lt
        have p0:=HBP.out.cell (k:=0) (by simp)
        have p1:=HBP.out.cell (k:=1) (by simp)
        have p2:=HBP.out.cell (k:=2) (by simp)
        have p3:=HBP.out.cell (k:=3) (by simp)
        have p4:=HBP.out.cell (k:=4) (by simp)
        have p5:=HBP.out.cell (k:=5) (by simp)
        have p6:=HBP.out.cell (k:=6) (by simp)
        have p7:=HBP.out.cell (k:=7) (by simp)
        simp at p0 p1 p2 p3 p4 p5 p6 p7
        repeat' (first|refine X_gt ?_|refine X_q ?_|refine X_g ?_|refine X_gf ?_|refine X_nil ?_|refine W_seqk (fun K hK=>?_)|refine W_seqr ?_|refine W_tt ?_|go_step)
        refine X_fload HBX.out ?_ (hu:=Tryz.underlying33)
        skip
        refine X_store (off:=0) HBO.out (fun W1 hM1 hB1=>?_);replace HE:=Lib.hid (Ext.fresh HE.out hM1 (fun k hk=>by subst hk;omega));replace HBO:=Lib.hid hB1;clear hM1 hB1
        replace HBO:=Lib.hid (fput HBO.out)
        repeat' (first|refine X_q ?_|refine X_nil ?_|refine W_ret ?_|go_step)
        exact Body_retcellv (cs:=RepS.cs (s) _ _ _) hd ⟨HE.out,_,rfl,_,_,_,rfl,HVR.out.later HE.out⟩ HBO.out (fun k hk=>cs_fenc hk) Tryz.underlying33
      · by_cases z3:p.cutEpoch < 0
        · have hn:s.takeNo p = 2:=by unfold RepS.takeNo;rw [if_pos (by simp [Reply.right];omega)]
          have ht:s.take p = s:=by unfold RepS.take;rw [if_pos (by rw [hn];decide)]
          rw [hn,ht]
          clear hn ht
          refine Fn_of Tryz.func42 rfl (Nat.le_of_ble_eq_true rfl) ?_;intro A hd hA;simp only [ix,Nat.reduceAdd];replace hA:A.tmps.size = 156:=hA
          (repeat' (first|refine W_seqk (fun K hK=>?_)|refine W_seqr ?_|fail));(first|(refine X_var (fun yn bx hn1 hn2 hn3 hn4 hn5=>?_))|(refine X_s (fun x K hK=>?_);go_simp;refine hK _ _ (Ext.alloc _ _) ?_;clear hK K;refine X_al x ?_;generalize (World.later _ x).heap.size = bx;intro yn hn1 hn2 hn3 hn4 hn5;clear x));have HBbx:=Lib.hid (Blk.new hn5.out);have HEbx:=Lib.hid yn.ext;have hlbx:(World.heap w).size≤bx:=hn1;generalize World.later w yn = W0 at *;clear hn1 hn2 hn3 hn4 hn5 yn
          (skip);(first|(refine X_var (fun yn bp hn1 hn2 hn3 hn4 hn5=>?_))|(refine X_s (fun x K hK=>?_);go_simp;refine hK _ _ (Ext.alloc _ _) ?_;clear hK K;refine X_al x ?_;generalize (World.later _ x).heap.size = bp;intro yn hn1 hn2 hn3 hn4 hn5;clear x));have HBbp:=Lib.hid (Blk.new hn5.out);have HEbp:=Lib.hid yn.ext;have hlbp:(World.heap W0).size≤bp:=hn1;generalize World.later W0 yn = W1 at *;clear hn1 hn2 hn3 hn4 hn5 yn
          (skip);(first|(refine X_var (fun yn bo hn1 hn2 hn3 hn4 hn5=>?_))|(refine X_s (fun x K hK=>?_);go_simp;refine hK _ _ (Ext.alloc _ _) ?_;clear hK K;refine X_al x ?_;generalize (World.later _ x).heap.size = bo;intro yn hn1 hn2 hn3 hn4 hn5;clear x));have HBbo:=Lib.hid (Blk.new hn5.out);have HEbo:=Lib.hid yn.ext;have hlbo:(World.heap W1).size≤bo:=hn1;generalize World.later W1 yn = W at *;clear hn1 hn2 hn3 hn4 hn5 yn
          have HBX:=Lib.hid ((fbox2 HBbx.out).later (Ext.trans HEbp.out HEbo.out))
          have HBP:=Lib.hid (HBbp.out.later HEbo.out)
          have HE:=Lib.hid (Ext.trans (Ext.trans HEbx.out HEbp.out) HEbo.out)
          have hbb:bx < bp:=by have:=HBbx.out.lt;omega
          have hbb2:bp < bo:=by have:=HBbp.out.lt;omega
          have hE0:=HEbx.out.size
          have hE1:=HEbp.out.size
          have HBO:=HBbo
          clear HBbx HBbo HBbp HEbx HEbo HEbp
          obtain ⟨hlt,d0,d1,d2,d3,d4,d5,d6,d7,d8,d9,d10⟩:=fcells HBX.out
          have hpl:=HBP.out.lt
          have p0:=HBP.out.cell (k:=0) (by simp)
          have p1:=HBP.out.cell (k:=1) (by simp)
          have p2:=HBP.out.cell (k:=2) (by simp)
          have p3:=HBP.out.cell (k:=3) (by simp)
          have p4:=HBP.out.cell (k:=4) (by simp)
          have p5:=HBP.out.cell (k:=5) (by simp)
          have p6:=HBP.out.cell (k:=6) (by simp)
          have p7:=HBP.out.cell (k:=7) (by simp)
          simp at p0 p1 p2 p3 p4 p5 p6 p7
          repeat' (first|refine X_gt ?_|refine X_q ?_|refine X_g ?_|refine X_gf ?_|refine X_nil ?_|refine W_seqk (fun K hK=>?_)|refine W_seqr ?_|refine W_tt ?_|go_step)
          refine X_fload HBX.out ?_ (hu:=Tryz.underlying33)
          skip
          refine X_store (off:=0) HBO.out (fun W1 hM1 hB1=>?_);replace HE:=Lib.hid (Ext.fresh HE.out hM1 (fun k hk=>by subst hk;omega));replace HBO:=Lib.hid hB1;clear hM1 hB1
          replace HBO:=Lib.hid (fput HBO.out)
          repeat' (first|refine X_q ?_|refine X_nil ?_|refine W_ret ?_|go_step)
          exact Body_retcellv (cs:=RepS.cs (s) _ _ _) hd ⟨HE.out,_,rfl,_,_,_,rfl,HVR.out.later HE.out⟩ HBO.out (fun k hk=>cs_fenc hk) Tryz.underlying33
        · by_cases z4:p.cutEnd < 0
          · have hn:s.takeNo p = 2:=by unfold RepS.takeNo;rw [if_pos (by simp [Reply.right];omega)]
            have ht:s.take p = s:=by unfold RepS.take;rw [if_pos (by rw [hn];decide)]
            rw [hn,ht]
            clear hn ht
            refine Fn_of Tryz.func42 rfl (Nat.le_of_ble_eq_true rfl) ?_;intro A hd hA;simp only [ix,Nat.reduceAdd];replace hA:A.tmps.size = 156:=hA
            (repeat' (first|refine W_seqk (fun K hK=>?_)|refine W_seqr ?_|fail));(first|(refine X_var (fun yn bx hn1 hn2 hn3 hn4 hn5=>?_))|(refine X_s (fun x K hK=>?_);go_simp;refine hK _ _ (Ext.alloc _ _) ?_;clear hK K;refine X_al x ?_;generalize (World.later _ x).heap.size = bx;intro yn hn1 hn2 hn3 hn4 hn5;clear x));have HBbx:=Lib.hid (Blk.new hn5.out);have HEbx:=Lib.hid yn.ext;have hlbx:(World.heap w).size≤bx:=hn1;generalize World.later w yn = W0 at *;clear hn1 hn2 hn3 hn4 hn5 yn
            (skip);(first|(refine X_var (fun yn bp hn1 hn2 hn3 hn4 hn5=>?_))|(refine X_s (fun x K hK=>?_);go_simp;refine hK _ _ (Ext.alloc _ _) ?_;clear hK K;refine X_al x ?_;generalize (World.later _ x).heap.size = bp;intro yn hn1 hn2 hn3 hn4 hn5;clear x));have HBbp:=Lib.hid (Blk.new hn5.out);have HEbp:=Lib.hid yn.ext;have hlbp:(World.heap W0).size≤bp:=hn1;generalize World.later W0 yn = W1 at *;clear hn1 hn2 hn3 hn4 hn5 yn
            (skip);(first|(refine X_var (fun yn bo hn1 hn2 hn3 hn4 hn5=>?_))|(refine X_s (fun x K hK=>?_);go_simp;refine hK _ _ (Ext.alloc _ _) ?_;clear hK K;refine X_al x ?_;generalize (World.later _ x).heap.size = bo;intro yn hn1 hn2 hn3 hn4 hn5;clear x));have HBbo:=Lib.hid (Blk.new hn5.out);have HEbo:=Lib.hid yn.ext;have hlbo:(World.heap W1).size≤bo:=hn1;generalize World.later W1 yn = W at *;clear hn1 hn2 hn3 hn4 hn5 yn
            have HBX:=Lib.hid ((fbox2 HBbx.out).later (Ext.trans HEbp.out HEbo.out))
            have HBP:=Lib.hid (HBbp.out.later HEbo.out)
            have HE:=Lib.hid (Ext.trans (Ext.trans HEbx.out HEbp.out) HEbo.out)
            have hbb:bx < bp:=by have:=HBbx.out.lt;omega
            have hbb2:bp < bo:=by have:=HBbp.out.lt;omega
            have hE0:=HEbx.out.size
            have hE1:=HEbp.out.size
            have HBO:=HBbo
            clear HBbx HBbo HBbp HEbx HEbo HEbp
            obtain ⟨hlt,d0,d1,d2,d3,d4,d5,d6,d7,d8,d9,d10⟩:=fcells HBX.out
            have hpl:=HBP.out.lt
            have p0:=HBP.out.cell (k:=0) (by simp)
            have p1:=HBP.out.cell (k:=1) (by simp)
            have p2:=HBP.out.cell (k:=2) (by simp)
            have p3:=HBP.out.cell (k:=3) (by simp)
            have p4:=HBP.out.cell (k:=4) (by simp)
            have p5:=HBP.out.cell (k:=5) (by simp)
            have p6:=HBP.out.cell (k:=6) (by simp)
            have p7:=HBP.out.cell (k:=7) (by simp)
            simp at p0 p1 p2 p3 p4 p5 p6 p7
            repeat' (first|refine X_gt ?_|refine X_q ?_|refine X_g ?_|refine X_gf ?_|refine X_nil ?_|refine W_seqk (fun K hK=>?_)|refine W_seqr ?_|refine W_tt ?_|go_step)
            refine X_fload HBX.out ?_ (hu:=Tryz.underlying33)
            skip
            refine X_store (off:=0) HBO.out (fun W1 hM1 hB1=>?_);replace HE:=Lib.hid (Ext.fresh HE.out hM1 (fun k hk=>by subst hk;omega));replace HBO:=Lib.hid hB1;clear hM1 hB1
            replace HBO:=Lib.hid (fput HBO.out)
            repeat' (first|refine X_q ?_|refine X_nil ?_|refine W_ret ?_|go_step)
            exact Body_retcellv (cs:=RepS.cs (s) _ _ _) hd ⟨HE.out,_,rfl,_,_,_,rfl,HVR.out.later HE.out⟩ HBO.out (fun k hk=>cs_fenc hk) Tryz.underlying33
          · by_cases z5:p.high < 0
            · have hn:s.takeNo p = 2:=by unfold RepS.takeNo;rw [if_pos (by simp [Reply.right];omega)]
              have ht:s.take p = s:=by unfold RepS.take;rw [if_pos (by rw [hn];decide)]
              rw [hn,ht]
              clear hn ht
              refine Fn_of Tryz.func42 rfl (Nat.le_of_ble_eq_true rfl) ?_;intro A hd hA;simp only [ix,Nat.reduceAdd];replace hA:A.tmps.size = 156:=hA
              (repeat' (first|refine W_seqk (fun K hK=>?_)|refine W_seqr ?_|fail));(first|(refine X_var (fun yn bx hn1 hn2 hn3 hn4 hn5=>?_))|(refine X_s (fun x K hK=>?_);go_simp;refine hK _ _ (Ext.alloc _ _) ?_;clear hK K;refine X_al x ?_;generalize (World.later _ x).heap.size = bx;intro yn hn1 hn2 hn3 hn4 hn5;clear x));have HBbx:=Lib.hid (Blk.new hn5.out);have HEbx:=Lib.hid yn.ext;have hlbx:(World.heap w).size≤bx:=hn1;generalize World.later w yn = W0 at *;clear hn1 hn2 hn3 hn4 hn5 yn
              (skip);(first|(refine X_var (fun yn bp hn1 hn2 hn3 hn4 hn5=>?_))|(refine X_s (fun x K hK=>?_);go_simp;refine hK _ _ (Ext.alloc _ _) ?_;clear hK K;refine X_al x ?_;generalize (World.later _ x).heap.size = bp;intro yn hn1 hn2 hn3 hn4 hn5;clear x));have HBbp:=Lib.hid (Blk.new hn5.out);have HEbp:=Lib.hid yn.ext;have hlbp:(World.heap W0).size≤bp:=hn1;generalize World.later W0 yn = W1 at *;clear hn1 hn2 hn3 hn4 hn5 yn
              (skip);(first|(refine X_var (fun yn bo hn1 hn2 hn3 hn4 hn5=>?_))|(refine X_s (fun x K hK=>?_);go_simp;refine hK _ _ (Ext.alloc _ _) ?_;clear hK K;refine X_al x ?_;generalize (World.later _ x).heap.size = bo;intro yn hn1 hn2 hn3 hn4 hn5;clear x));have HBbo:=Lib.hid (Blk.new hn5.out);have HEbo:=Lib.hid yn.ext;have hlbo:(World.heap W1).size≤bo:=hn1;generalize World.later W1 yn = W at *;clear hn1 hn2 hn3 hn4 hn5 yn
              have HBX:=Lib.hid ((fbox2 HBbx.out).later (Ext.trans HEbp.out HEbo.out))
              have HBP:=Lib.hid (HBbp.out.later HEbo.out)
              have HE:=Lib.hid (Ext.trans (Ext.trans HEbx.out HEbp.out) HEbo.out)
              have hbb:bx < bp:=by have:=HBbx.out.lt;omega
              have hbb2:bp < bo:=by have:=HBbp.out.lt;omega
              have hE0:=HEbx.out.size
              have hE1:=HEbp.out.size
              have HBO:=HBbo
              clear HBbx HBbo HBbp HEbx HEbo HEbp
              obtain ⟨hlt,d0,d1,d2,d3,d4,d5,d6,d7,d8,d9,d10⟩:=fcells HBX.out
              have hpl:=HBP.out.lt
              have p0:=HBP.out.cell (k:=0) (by simp)
              have p1:=HBP.out.cell (k:=1) (by simp)
              have p2:=HBP.out.cell (k:=2) (by simp)
              have p3:=HBP.out.cell (k:=3) (by simp)
              have p4:=HBP.out.cell (k:=4) (by simp)
              have p5:=HBP.out.cell (k:=5) (by simp)
              have p6:=HBP.out.cell (k:=6) (by simp)
              have p7:=HBP.out.cell (k:=7) (by simp)
              simp at p0 p1 p2 p3 p4 p5 p6 p7
              repeat' (first|refine X_gt ?_|refine X_q ?_|refine X_nil ?_|refine W_seqk (fun K hK=>?_)|refine W_seqr ?_|refine W_tt ?_|go_step)
              refine X_fload HBX.out ?_ (hu:=Tryz.underlying33)
              skip
              refine X_store (off:=0) HBO.out (fun W1 hM1 hB1=>?_);replace HE:=Lib.hid (Ext.fresh HE.out hM1 (fun k hk=>by subst hk;omega));replace HBO:=Lib.hid hB1;clear hM1 hB1
              replace HBO:=Lib.hid (fput HBO.out)
              repeat' (first|refine X_q ?_|refine X_nil ?_|refine W_ret ?_|go_step)
              exact Body_retcellv (cs:=RepS.cs (s) _ _ _) hd ⟨HE.out,_,rfl,_,_,_,rfl,HVR.out.later HE.out⟩ HBO.out (fun k hk=>cs_fenc hk) Tryz.underlying33
            · have hright : p.right = entsFrom p.last p.entries := by
                unfold Reply.right
                rw [decide_eq_true (by omega:(0:Int)≤p.epoch),decide_eq_true (by omega:(0:Int)≤p.base),decide_eq_true (by omega:(0:Int)≤p.last),decide_eq_true (by omega:(0:Int)≤p.cutEpoch),decide_eq_true (by omega:(0:Int)≤p.cutEnd),decide_eq_true (by omega:(0:Int)≤p.high)];simp
              have HRT:=Lib.hid hright
              clear hright
              refine Fn_of Tryz.func42 rfl (Nat.le_of_ble_eq_true rfl) ?_;intro A hd hA;simp only [ix,Nat.reduceAdd];replace hA:A.tmps.size = 156:=hA
              (repeat' (first|refine W_seqk (fun K hK=>?_)|refine W_seqr ?_|fail));(first|(refine X_var (fun yn bx hn1 hn2 hn3 hn4 hn5=>?_))|(refine X_s (fun x K hK=>?_);go_simp;refine hK _ _ (Ext.alloc _ _) ?_;clear hK K;refine X_al x ?_;generalize (World.later _ x).heap.size = bx;intro yn hn1 hn2 hn3 hn4 hn5;clear x));have HBbx:=Lib.hid (Blk.new hn5.out);have HEbx:=Lib.hid yn.ext;have hlbx:(World.heap w).size≤bx:=hn1;generalize World.later w yn = W0 at *;clear hn1 hn2 hn3 hn4 hn5 yn
              (skip);(first|(refine X_var (fun yn bp hn1 hn2 hn3 hn4 hn5=>?_))|(refine X_s (fun x K hK=>?_);go_simp;refine hK _ _ (Ext.alloc _ _) ?_;clear hK K;refine X_al x ?_;generalize (World.later _ x).heap.size = bp;intro yn hn1 hn2 hn3 hn4 hn5;clear x));have HBbp:=Lib.hid (Blk.new hn5.out);have HEbp:=Lib.hid yn.ext;have hlbp:(World.heap W0).size≤bp:=hn1;generalize World.later W0 yn = W1 at *;clear hn1 hn2 hn3 hn4 hn5 yn
              (skip);(first|(refine X_var (fun yn bo hn1 hn2 hn3 hn4 hn5=>?_))|(refine X_s (fun x K hK=>?_);go_simp;refine hK _ _ (Ext.alloc _ _) ?_;clear hK K;refine X_al x ?_;generalize (World.later _ x).heap.size = bo;intro yn hn1 hn2 hn3 hn4 hn5;clear x));have HBbo:=Lib.hid (Blk.new hn5.out);have HEbo:=Lib.hid yn.ext;have hlbo:(World.heap W1).size≤bo:=hn1;generalize World.later W1 yn = W at *;clear hn1 hn2 hn3 hn4 hn5 yn
              have HBX:=Lib.hid ((fbox2 HBbx.out).later (Ext.trans HEbp.out HEbo.out))
              have HBP:=Lib.hid (HBbp.out.later HEbo.out)
              have HE:=Lib.hid (Ext.trans (Ext.trans HEbx.out HEbp.out) HEbo.out)
              have hbb:bx < bp:=by have:=HBbx.out.lt;omega
              have hbb2:bp < bo:=by have:=HBbp.out.lt;omega
              have hE0:=HEbx.out.size
              have hE1:=HEbp.out.size
              have HBO:=HBbo
              clear HBbx HBbo HBbp HEbx HEbo HEbp
              obtain ⟨hlt,d0,d1,d2,d3,d4,d5,d6,d7,d8,d9,d10⟩:=fcells HBX.out
              have hpl:=HBP.out.lt
              have p0:=HBP.out.cell (k:=0) (by simp)
              have p1:=HBP.out.cell (k:=1) (by simp)
              have p2:=HBP.out.cell (k:=2) (by simp)
              have p3:=HBP.out.cell (k:=3) (by simp)
              have p4:=HBP.out.cell (k:=4) (by simp)
              have p5:=HBP.out.cell (k:=5) (by simp)
              have p6:=HBP.out.cell (k:=6) (by simp)
              have p7:=HBP.out.cell (k:=7) (by simp)
              simp at p0 p1 p2 p3 p4 p5 p6 p7
              obtain ⟨A6,c6,hA6,-,-,HR⟩:=(HU.out.later HE.out).ent
              cases hA6
              repeat' (first|refine X_gt ?_|refine X_q ?_|refine X_nil ?_|refine W_seqk (fun K hK=>?_)|refine W_seqr ?_|refine W_skip ?_|refine W_block ?_|refine W_ff ?_|go_step)
              refine W_loops [2,3,4,5,6,7] (fun n vs w'=>∃ (k:Nat) (last:Int),Ext W w'∧k + n = p.entries.length∧vs = [.pointer (some ⟨bx,0,none⟩),.pointer (some ⟨bp,0,none⟩),.pointer (some ⟨bo,0,none⟩),.int .i64 0,.int .i64 last,.int .i64 k]∧entsFrom last (p.entries.drop k) = entsFrom p.last p.entries) p.entries.length hd hA (by decide) ⟨0,p.last,by simp,by omega,by simp,by simp⟩ ?_
              clear hd hA A;intro n vs B w' hd hA _ ⟨k,last,hW,hk,hvs,hmm⟩;subst hvs
              obtain ⟨y,rfl⟩:=hW.get
              clear hW
              replace HE:=Lib.hid (Ext.trans HE.out y.ext)
              replace HBX:=Lib.hid (HBX.out.later y.ext)
              replace HBP:=Lib.hid (HBP.out.later y.ext)
              replace HBO:=Lib.hid (HBO.out.later y.ext)
              clear hlt d0 d1 d2 d3 d4 d5 d6 d7 d8 d9 d10
              clear hpl p0 p1 p2 p3 p4 p5 p6 p7
              clear HR
              have HWE:=Lib.hid y.ext
              generalize World.later W y = W5 at *
              clear y
              obtain ⟨hlt,d0,d1,d2,d3,d4,d5,d6,d7,d8,d9,d10⟩:=fcells HBX.out
              have hpl:=HBP.out.lt
              have p0:=HBP.out.cell (k:=0) (by simp)
              have p1:=HBP.out.cell (k:=1) (by simp)
              have p2:=HBP.out.cell (k:=2) (by simp)
              have p3:=HBP.out.cell (k:=3) (by simp)
              have p4:=HBP.out.cell (k:=4) (by simp)
              have p5:=HBP.out.cell (k:=5) (by simp)
              have p6:=HBP.out.cell (k:=6) (by simp)
              have p7:=HBP.out.cell (k:=7) (by simp)
              simp at p0 p1 p2 p3 p4 p5 p6 p7
              obtain ⟨A6,c6,hA6,-,-,HR⟩:=(HU.out.later HE.out).ent
              cases hA6
              simp only [List.zip_cons_cons,List.zip_nil_right,List.zip_nil_left]
              by_cases hlt2:k < p.entries.length
              · obtain ⟨e,b3,o3,HE3,rfl,hb3,x0,x1,x2,x3,x4,x5⟩:=HR.out k hlt2
                have hki:(k:Int) < p.entries.length:=by omega
                rw [drop_at HE3.out,entsFrom_cons] at hmm
                by_cases g1:e.ep < last
                · have hf:entsFrom p.last p.entries = false:=by rw [← hmm,decide_eq_false (by omega)];simp
                  have hn:s.takeNo p = 2:=by unfold RepS.takeNo;rw [if_pos (by rw [HRT.out,hf])]
                  have ht:s.take p = s:=by unfold RepS.take;rw [if_pos (by rw [hn];decide)]
                  rw [hn,ht]
                  clear hn ht
                  clear hf hmm
                  repeat' (first|(refine X_gf2 ?_)|refine X_q ?_|refine X_g ?_|refine X_gf ?_|refine X_nil ?_|refine W_seqk (fun K hK=>?_)|refine W_seqr ?_|refine W_skip ?_|refine W_block ?_|refine W_tt ?_|go_step)
                  refine X_fload HBX.out ?_ (hu:=Tryz.underlying33)
                  skip
                  refine X_store (off:=0) HBO.out (fun W1 hM1 hB1=>?_);replace HE:=Lib.hid (Ext.fresh HE.out hM1 (fun k hk=>by subst hk;omega));replace HBO:=Lib.hid hB1;clear hM1 hB1
                  replace HBO:=Lib.hid (fput HBO.out)
                  repeat' (first|refine X_q ?_|refine X_nil ?_|refine W_ret ?_|go_step)
                  exact Body_retcellv (cs:=RepS.cs (s) _ _ _) hd ⟨HE.out,_,rfl,_,_,_,rfl,HVR.out.later HE.out⟩ HBO.out (fun k hk=>cs_fenc hk) Tryz.underlying33
                · by_cases g2:rightB e = true
                  · have hmm':entsFrom e.ep (p.entries.drop (k + 1)) = entsFrom p.last p.entries:=by rw [← hmm,decide_eq_true (by omega),g2];simp
                    have HM:=Lib.hid hmm'
                    clear hmm hmm'
                    have RGT:Hid (∀ W,Pure Tryz.prog 78 #[e.v] W (.bool true)):=Lib.hid (fun W=>g2▸right8_calls e W)
                    clear g2
                    repeat' (first|refine X_gpure Tryz.func78 (fun _=>RGT.out _) ?_|refine X_gt ?_|refine X_q ?_|refine X_nil ?_|refine W_seqk (fun K hK=>?_)|refine W_seqr ?_|refine W_skip ?_|refine W_block ?_|refine W_tt ?_|refine W_ff ?_|go_step)
                    exact ⟨_,_,rfl,hd,hA,n - 1,by omega,k + 1,e.ep,Ext.trans HWE.out (by simp),by omega,by simp,HM.out⟩
                  · have hf:entsFrom p.last p.entries = false:=by rw [← hmm];simp [g2]
                    have g2f:rightB e = false:=by simpa using g2
                    have RGT:Hid (∀ W,Pure Tryz.prog 78 #[e.v] W (.bool false)):=Lib.hid (fun W=>g2f▸right8_calls e W)
                    clear g2f g2
                    have hn:s.takeNo p = 2:=by unfold RepS.takeNo;rw [if_pos (by rw [HRT.out,hf])]
                    have ht:s.take p = s:=by unfold RepS.take;rw [if_pos (by rw [hn];decide)]
                    rw [hn,ht]
                    clear hn ht
                    clear hf hmm
                    repeat' (first|refine X_gpure Tryz.func78 (fun _=>RGT.out _) ?_|refine X_gt ?_|refine X_q ?_|refine X_nil ?_|refine W_seqk (fun K hK=>?_)|refine W_seqr ?_|refine W_skip ?_|refine W_block ?_|refine W_tt ?_|go_step)
                    refine X_fload HBX.out ?_ (hu:=Tryz.underlying33)
                    skip
                    refine X_store (off:=0) HBO.out (fun W1 hM1 hB1=>?_);replace HE:=Lib.hid (Ext.fresh HE.out hM1 (fun k hk=>by subst hk;omega));replace HBO:=Lib.hid hB1;clear hM1 hB1
                    replace HBO:=Lib.hid (fput HBO.out)
                    repeat' (first|refine X_q ?_|refine X_nil ?_|refine W_ret ?_|go_step)
                    exact Body_retcellv (cs:=RepS.cs (s) _ _ _) hd ⟨HE.out,_,rfl,_,_,_,rfl,HVR.out.later HE.out⟩ HBO.out (fun k hk=>cs_fenc hk) Tryz.underlying33
              · obtain rfl:k = p.entries.length:=by omega
                rw [List.drop_length] at hmm
                have hrt:p.right = true:=by rw [HRT.out,← hmm];rfl
                clear hmm
                have LAST:Hid (∀ W,Ext w W→Pure Tryz.prog 74 #[.slice A1 s.log.length c1] W (.int .i64 (lastE s.log))):=Lib.hid (fun W hE=>last7_calls _ _ W (HVR.out.later hE).rl.rd)
                have CUTS:Hid (0≤p.cutEnd→∀ W,Ext w W→Pure Tryz.prog 83 #[.slice A1 s.log.length c1,.int .i64 p.cutEpoch,.int .i64 p.cutEnd] W (.int .i64 (min p.cutEnd (aboveE s.log p.cutEpoch:Int)))):=Lib.hid (fun h0 W hE=>cut7_calls _ _ _ _ W (HVR.out.later hE).rl.rd hm h0)
                by_cases q2:s.role = 2
                · have q2b:(s.role != 2) = false:=by simp [q2]
                  by_cases q4:s.fitsNow p = true
                  · obtain ⟨⟨g1,g2⟩,g3⟩:(p.epoch = s.epoch∧p.base = (s.log.length:Int))∧p.last = lastE s.log:=by simpa [RepS.fitsNow] using q4
                    have g1b:(p.epoch != s.epoch) = false:=by simp [g1]
                    have g2b:(p.base != (s.log.length:Int)) = false:=by simp [g2]
                    have g3b:(p.last != lastE s.log) = false:=by simp [g3]
                    clear g1 g2 g3
                    have hap0:p.right = true∧s.role = 2∧s.fitsNow p = true:=⟨hrt,q2,q4⟩
                    have HA0:=Lib.hid hap0
                    clear hap0 hrt q2 q4
                    repeat' (first|refine X_q ?_|refine X_nil ?_|refine W_seqk (fun K hK=>?_)|refine W_seqr ?_|refine W_skip ?_|refine W_exit ?_|refine W_ff ?_|go_step)
                    refine W_drawσ [(0,0),(1,0),(2,0),(3,0),(4,0),(5,0),(6,0),(7,0),(8,0),(9,0),(10,0),(11,0),(12,0),(13,0),(14,0),(15,0),(16,0),(17,0),(18,1),(19,0),(20,0)] (by kernel_rfl) (by kernel_rfl) ?_
                    repeat' (first|(refine X_pure1 Tryz.func74 (fun x=>LAST.out _ (Ext.trans HE.out x.ext)) ?_)|refine X_gt ?_|refine X_q ?_|refine X_niln ?_|refine X_nil ?_|refine W_seqk (fun K hK=>?_)|refine W_seqr ?_|refine W_skip ?_|refine W_ff ?_|refine W_test (fun hc=>?_) (fun hc=>?_)|go_step)
                    · have g4:=hc
                      clear hc
                      have hap:s.takeNo p = 0:=by unfold RepS.takeNo;rw [if_neg (by simp [HA0.out.1]),if_neg (by simp [HA0.out.2.1]),if_neg (by simp [HA0.out.2.2]),if_pos g4]
                      have hab:aboveE s.log p.cutEpoch≤s.log.length:=by unfold aboveE;exact (List.takeWhile_sublist _).length_le
                      have hct:s.cutAt p = gmax 0 (gmin (min p.cutEnd (aboveE s.log p.cutEpoch:Int)) ((s.log.length:Int) - 1)):=rfl
                      have hce:0≤p.cutEnd:=by omega
                      have CUT2:=Lib.hid (CUTS.out hce)
                      have hc0:0≤min p.cutEnd (aboveE s.log p.cutEpoch:Int)∧min p.cutEnd (aboveE s.log p.cutEpoch:Int)≤s.log.length:=by omega
                      clear CUTS hce hab
                      generalize min p.cutEnd (aboveE s.log p.cutEpoch:Int) = cc at *
                      obtain ⟨n,hn⟩:∃ n:Nat,s.cutAt p = n:=⟨(s.cutAt p).toNat,by rw [hct,gmax_eq,gmin_eq];omega⟩
                      have hnl:n≤s.log.length:=by rw [hct,gmax_eq,gmin_eq] at hn;omega
                      have hnn:(if (0:Int) < (if cc < (s.log.length:Int) - 1 then cc else (s.log.length:Int) - 1) then (if cc < (s.log.length:Int) - 1 then cc else (s.log.length:Int) - 1) else 0) = (n:Int):=by rw [← hn,hct,gmax_eq,gmin_eq];repeat' split <;> omega
                      have hnc:n≤c1:=by omega
                      have HCN:=Lib.hid hn
                      have HAP:=Lib.hid hap
                      have HG4:=Lib.hid g4
                      clear hct hn hap g4
                      refine W_drawσ [(0,0),(1,0),(2,0),(3,0),(4,0),(5,0),(6,0),(7,0),(8,0),(9,0),(10,1),(11,0),(12,0),(13,0)] (by kernel_rfl) (by kernel_rfl) ?_
                      repeat' (first|(refine X_pure1 Tryz.func83 (fun x=>CUT2.out _ (Ext.trans HE.out x.ext)) ?_)|refine X_q ?_|refine X_niln ?_|refine W_seqk (fun K hK=>?_)|refine W_seqr ?_|go_step)
                      skip
                      refine X_store (off:=4) HBX.out (fun W1 hM1 hB1=>?_);replace HE:=Lib.hid (Ext.fresh HE.out hM1 (fun k hk=>by subst hk;omega));replace HBO:=Lib.hid (HBO.out.mod hM1 (fun h=>by omega));replace HBP:=Lib.hid (HBP.out.mod hM1 (fun h=>by omega));replace HBX:=Lib.hid hB1;clear hM1 hB1
                      replace HBX:=Lib.hid (HBX.out.congr (g':=fenc { s with log:=s.log.take n } (.slice A1 n n) (.slice A2 s.isr.length c2) (.slice A3 s.counts.length c3)) (all15 ⟨rfl,rfl,rfl,rfl,rfl,rfl,rfl,rfl,rfl,rfl,rfl,rfl,rfl,rfl,rfl⟩))
                      clear hlt d0 d1 d2 d3 d4 d5 d6 d7 d8 d9 d10
                      clear hpl p0 p1 p2 p3 p4 p5 p6 p7
                      obtain ⟨hlt,d0,d1,d2,d3,d4,d5,d6,d7,d8,d9,d10⟩:=fcells HBX.out
                      have hbol:=HBO.out.lt
                      repeat' (first|refine X_q ?_|refine X_nil ?_|refine W_seqk (fun K hK=>?_)|refine W_seqr ?_|go_step)
                      refine X_store (off:=5) HBX.out (fun W1 hM1 hB1=>?_);replace HE:=Lib.hid (Ext.fresh HE.out hM1 (fun k hk=>by subst hk;omega));replace HBO:=Lib.hid (HBO.out.mod hM1 (fun h=>by omega));replace HBP:=Lib.hid (HBP.out.mod hM1 (fun h=>by omega));replace HBX:=Lib.hid hB1;clear hM1 hB1
                      replace HBX:=Lib.hid (HBX.out.congr (g':=fenc { s with log:=s.log.take n,flushed:=gmin s.flushed n } (.slice A1 n n) (.slice A2 s.isr.length c2) (.slice A3 s.counts.length c3)) (all15 ⟨rfl,rfl,rfl,rfl,rfl,rfl,rfl,rfl,rfl,rfl,rfl,rfl,rfl,rfl,rfl⟩))
                      clear hlt d0 d1 d2 d3 d4 d5 d6 d7 d8 d9 d10
                      clear hbol
                      obtain ⟨hlt,d0,d1,d2,d3,d4,d5,d6,d7,d8,d9,d10⟩:=fcells HBX.out
                      have hbol:=HBO.out.lt
                      repeat' (first|refine X_q ?_|fail)
                      refine X_store (off:=6) HBX.out (fun W1 hM1 hB1=>?_);replace HE:=Lib.hid (Ext.fresh HE.out hM1 (fun k hk=>by subst hk;omega));replace HBO:=Lib.hid (HBO.out.mod hM1 (fun h=>by omega));replace HBP:=Lib.hid (HBP.out.mod hM1 (fun h=>by omega));replace HBX:=Lib.hid hB1;clear hM1 hB1
                      replace HBX:=Lib.hid (HBX.out.congr (g':=fenc { s with log:=s.log.take n,flushed:=gmin s.flushed n,high:=gmin s.high n } (.slice A1 n n) (.slice A2 s.isr.length c2) (.slice A3 s.counts.length c3)) (all15 ⟨rfl,rfl,rfl,rfl,rfl,rfl,rfl,rfl,rfl,rfl,rfl,rfl,rfl,rfl,rfl⟩))
                      clear hlt d0 d1 d2 d3 d4 d5 d6 d7 d8 d9 d10
                      clear hbol
                      obtain ⟨hlt,d0,d1,d2,d3,d4,d5,d6,d7,d8,d9,d10⟩:=fcells HBX.out
                      have hbol:=HBO.out.lt
                      repeat' (first|refine X_nil ?_|refine W_seqk (fun K hK=>?_)|refine W_seqr ?_|go_step)
                      refine X_fload HBX.out ?_ (hu:=Tryz.underlying33)
                      skip
                      refine X_store (off:=0) HBO.out (fun W1 hM1 hB1=>?_);replace HE:=Lib.hid (Ext.fresh HE.out hM1 (fun k hk=>by subst hk;omega));replace HBO:=Lib.hid hB1;clear hM1 hB1
                      replace HBO:=Lib.hid (fput HBO.out)
                      repeat' (first|refine X_q ?_|refine X_nil ?_|refine W_ret ?_|go_step)
                      have htk:s.take p = { s with log:=s.log.take n,flushed:=gmin s.flushed n,high:=gmin s.high n }:=by unfold RepS.take;rw [if_neg (by rw [HAP.out];decide),if_pos HG4.out,HCN.out];rfl
                      exact Body_retcellv (cs:=RepS.cs ({ s with log:=s.log.take n,flushed:=gmin s.flushed n,high:=gmin s.high n }) _ _ _) hd ⟨HE.out,_,by rw [HAP.out],by rw [htk];exact ⟨_,_,_,rfl,(HVR.out.later HE.out).rl.takeN n hnl,(HVR.out.later HE.out).ri,(HVR.out.later HE.out).rc⟩⟩ HBO.out (fun k hk=>cs_fenc hk) Tryz.underlying33
                    · have g5:=hc
                      clear hc
                      have g4:=hc
                      clear hc
                      have g6:(4096:Int) - s.log.length < p.entries.length:=by have:=of_decide_eq_true g5;omega
                      have hno:s.takeNo p = 3:=by unfold RepS.takeNo;rw [if_neg (by simp [HA0.out.1]),if_neg (by simp [HA0.out.2.1]),if_neg (by simp [HA0.out.2.2]),if_neg (by simp [g4]),if_pos g6]
                      have ht:s.take p = s:=by unfold RepS.take;rw [if_pos (by rw [hno];decide)]
                      have HN:=Lib.hid hno
                      have HT:=Lib.hid ht
                      clear hno ht g4 g5 g6
                      refine X_fload HBX.out ?_ (hu:=Tryz.underlying33)
                      skip
                      refine X_store (off:=0) HBO.out (fun W1 hM1 hB1=>?_);replace HE:=Lib.hid (Ext.fresh HE.out hM1 (fun k hk=>by subst hk;omega));replace HBO:=Lib.hid hB1;clear hM1 hB1
                      replace HBO:=Lib.hid (fput HBO.out)
                      repeat' (first|refine X_q ?_|refine X_nil ?_|refine W_ret ?_|go_step)
                      exact Body_retcellv (cs:=RepS.cs (s) _ _ _) hd ⟨HE.out,_,by rw [HN.out],by rw [HT.out];exact ⟨_,_,_,rfl,HVR.out.later HE.out⟩⟩ HBO.out (fun k hk=>cs_fenc hk) Tryz.underlying33
                    · have g5:=hc
                      clear hc
                      have g4:=hc
                      clear hc
                      have g6:¬ (4096:Int) < (s.log.length:Int) + p.entries.length:=of_decide_eq_false g5
                      have hno:s.takeNo p = 0:=by unfold RepS.takeNo;rw [if_neg (by simp [HA0.out.1]),if_neg (by simp [HA0.out.2.1]),if_neg (by simp [HA0.out.2.2]),if_neg (by simp [g4]),if_neg (by omega)]
                      have ht:s.take p = { s with log:=s.log ++ p.entries,high:=gmax s.high (gmin p.high ((s.log.length + p.entries.length:Nat):Int)) }:=by unfold RepS.take;rw [if_neg (by rw [hno];decide),if_neg (by simp [g4])]
                      have HN:=Lib.hid hno
                      have HT:=Lib.hid ht
                      clear hno ht g4 g5
                      have HVL:=Lib.hid (HVR.out.later HE.out).rl.rd
                      have hlw:=HE.out.size
                      refine W_drawσ [(0,0),(1,0),(3,0),(4,0),(2,1),(5,2),(6,0),(7,2)] (by kernel_rfl) (by kernel_rfl) ?_
                      repeat' (first|refine X_q ?_|fail)
                      refine X_s (fun x K hK=>?_)
                      refine F_copy0 elemEnt HVL.out (by omega) (by unfold maxLen;omega) x K (fun y v4 hE hO hF=>hK v4 _ hE ?_)
                      clear hK K hE
                      have hE4:Ext W5 (W5.later y):=y.ext
                      have HO4:=Lib.hid hO
                      have HF4:=Lib.hid hF
                      clear hO hF x
                      generalize World.later W5 y = W4 at *
                      clear y
                      have hbxl:=HBX.out.lt
                      have hbpl:=HBP.out.lt
                      have hbol:=HBO.out.lt
                      replace HBX:=Lib.hid (HBX.out.later hE4)
                      replace HBP:=Lib.hid (HBP.out.later hE4)
                      replace HBO:=Lib.hid (HBO.out.later hE4)
                      replace HE:=Lib.hid (Ext.trans HE.out hE4)
                      obtain ⟨A7,m7,c7,rfl⟩:=own_slice HO4.out
                      have hs4:=hE4.size
                      clear hE4 HVL
                      clear hlt d0 d1 d2 d3 d4 d5 d6 d7 d8 d9 d10
                      clear hpl p0 p1 p2 p3 p4 p5 p6 p7
                      obtain ⟨hlt,d0,d1,d2,d3,d4,d5,d6,d7,d8,d9,d10⟩:=fcells HBX.out
                      have hpl:=HBP.out.lt
                      have p0:=HBP.out.cell (k:=0) (by simp)
                      have p1:=HBP.out.cell (k:=1) (by simp)
                      have p2:=HBP.out.cell (k:=2) (by simp)
                      have p3:=HBP.out.cell (k:=3) (by simp)
                      have p4:=HBP.out.cell (k:=4) (by simp)
                      have p5:=HBP.out.cell (k:=5) (by simp)
                      have p6:=HBP.out.cell (k:=6) (by simp)
                      have p7:=HBP.out.cell (k:=7) (by simp)
                      simp at p0 p1 p2 p3 p4 p5 p6 p7
                      skip
                      refine X_append (xs:=s.log) elemEnt HO4.out (HU.out.later HE.out) (by omega) (by unfold maxLen;omega) (fun v6 W6 hM6 hO6 hF6 hN6=>?_)
                      replace HE:=Lib.hid (Ext.fresh HE.out hM6 (fun k hk=>by have:=HF4.out k hk;omega))
                      have HO6:=Lib.hid hO6
                      have HF6:Hid (∀ k,v6.ownBlock = some k→W5.heap.size≤k):=Lib.hid (fun k hk=>by
                        rcases hF6 with h|⟨g,h,hg⟩
                        · exact HF4.out k (h▸hk)
                        · rw [h] at hk;cases hk;omega)
                      replace HBX:=Lib.hid (HBX.out.mod hM6 (fun h=>by have:=HF4.out _ h;omega))
                      replace HBP:=Lib.hid (HBP.out.mod hM6 (fun h=>by have:=HF4.out _ h;omega))
                      replace HBO:=Lib.hid (HBO.out.mod hM6 (fun h=>by have:=HF4.out _ h;omega))
                      obtain ⟨A8,m8,c8,rfl⟩:=own_slice HO6.out
                      clear hM6 hO6 hF6 hN6 HO4 HF4
                      clear hlt d0 d1 d2 d3 d4 d5 d6 d7 d8 d9 d10
                      clear hpl p0 p1 p2 p3 p4 p5 p6 p7
                      obtain ⟨hlt,d0,d1,d2,d3,d4,d5,d6,d7,d8,d9,d10⟩:=fcells HBX.out
                      have hpl:=HBP.out.lt
                      have p0:=HBP.out.cell (k:=0) (by simp)
                      have p1:=HBP.out.cell (k:=1) (by simp)
                      have p2:=HBP.out.cell (k:=2) (by simp)
                      have p3:=HBP.out.cell (k:=3) (by simp)
                      have p4:=HBP.out.cell (k:=4) (by simp)
                      have p5:=HBP.out.cell (k:=5) (by simp)
                      have p6:=HBP.out.cell (k:=6) (by simp)
                      have p7:=HBP.out.cell (k:=7) (by simp)
                      simp at p0 p1 p2 p3 p4 p5 p6 p7
                      have hbol:=HBO.out.lt
                      have HL:=Lib.hid (HO6.out.rdt Ent.len)
                      have Hf:=HF6
                      obtain rfl:m8 = s.log.length + p.entries.length:=by have:=RdT.length HL.out;simp at this;omega
                      clear HO6 HF6
                      repeat' (first|refine X_q ?_|fail)
                      refine X_store (off:=4) HBX.out (fun W1 hM1 hB1=>?_);replace HE:=Lib.hid (Ext.fresh HE.out hM1 (fun k hk=>by subst hk;omega));replace HBO:=Lib.hid (HBO.out.mod hM1 (fun h=>by omega));replace HBP:=Lib.hid (HBP.out.mod hM1 (fun h=>by omega));replace HL:=Lib.hid (HL.out.mod hM1 (fun g hg he=>by subst he;have:=Hf.out _ hg;omega));replace HBX:=Lib.hid hB1;clear hM1 hB1
                      replace HBX:=Lib.hid (HBX.out.congr (g':=fenc { s with log:=s.log ++ p.entries } (.slice A8 (s.log.length + p.entries.length) c8) (.slice A2 s.isr.length c2) (.slice A3 s.counts.length c3)) (all15 ⟨rfl,rfl,rfl,rfl,rfl,rfl,rfl,rfl,rfl,rfl,rfl,rfl,rfl,rfl,rfl⟩))
                      clear hlt d0 d1 d2 d3 d4 d5 d6 d7 d8 d9 d10
                      clear hpl p0 p1 p2 p3 p4 p5 p6 p7
                      clear hbol
                      obtain ⟨hlt,d0,d1,d2,d3,d4,d5,d6,d7,d8,d9,d10⟩:=fcells HBX.out
                      have hpl:=HBP.out.lt
                      have p0:=HBP.out.cell (k:=0) (by simp)
                      have p1:=HBP.out.cell (k:=1) (by simp)
                      have p2:=HBP.out.cell (k:=2) (by simp)
                      have p3:=HBP.out.cell (k:=3) (by simp)
                      have p4:=HBP.out.cell (k:=4) (by simp)
                      have p5:=HBP.out.cell (k:=5) (by simp)
                      have p6:=HBP.out.cell (k:=6) (by simp)
                      have p7:=HBP.out.cell (k:=7) (by simp)
                      simp at p0 p1 p2 p3 p4 p5 p6 p7
                      have hbol:=HBO.out.lt
                      repeat' (first|refine X_q ?_|refine X_niln ?_|refine W_seqk (fun K hK=>?_)|refine W_seqr ?_|go_step)
                      refine X_store (off:=6) HBX.out (fun W1 hM1 hB1=>?_);replace HE:=Lib.hid (Ext.fresh HE.out hM1 (fun k hk=>by subst hk;omega));replace HBO:=Lib.hid (HBO.out.mod hM1 (fun h=>by omega));replace HBP:=Lib.hid (HBP.out.mod hM1 (fun h=>by omega));replace HL:=Lib.hid (HL.out.mod hM1 (fun g hg he=>by subst he;have:=Hf.out _ hg;omega));replace HBX:=Lib.hid hB1;clear hM1 hB1
                      obtain ⟨q,hq⟩:∃ q:RepS,q = { s with log:=s.log ++ p.entries,high:=gmax s.high (gmin p.high ((s.log.length + p.entries.length:Nat):Int)) }:=⟨_,rfl⟩
                      replace HBX:=Lib.hid (HBX.out.congr (g':=fenc q (.slice A8 (s.log.length + p.entries.length) c8) (.slice A2 s.isr.length c2) (.slice A3 s.counts.length c3)) (by subst hq;exact all15 ⟨rfl,rfl,rfl,rfl,rfl,rfl,rfl,rfl,rfl,rfl,rfl,rfl,rfl,rfl,rfl⟩))
                      replace HT:=Lib.hid (HT.out.trans hq.symm)
                      have HVQ:Hid (∀ W,Ext w W→RdEN N W (.slice A8 (s.log.length + p.entries.length) c8) (s.log ++ p.entries)→VR N W (.slice A8 (s.log.length + p.entries.length) c8) (.slice A2 s.isr.length c2) (.slice A3 s.counts.length c3) q):=Lib.hid (fun W hE h=>by subst hq;exact ⟨h,(HVR.out.later hE).ri,(HVR.out.later hE).rc⟩)
                      clear hq
                      clear hlt d0 d1 d2 d3 d4 d5 d6 d7 d8 d9 d10
                      clear hpl p0 p1 p2 p3 p4 p5 p6 p7
                      clear hbol
                      obtain ⟨hlt,d0,d1,d2,d3,d4,d5,d6,d7,d8,d9,d10⟩:=fcells HBX.out
                      have hbol:=HBO.out.lt
                      repeat' (first|refine X_nil ?_|refine W_seqk (fun K hK=>?_)|refine W_seqr ?_|go_step)
                      refine X_fload HBX.out ?_ (hu:=Tryz.underlying33)
                      skip
                      refine X_store (off:=0) HBO.out (fun W1 hM1 hB1=>?_);replace HE:=Lib.hid (Ext.fresh HE.out hM1 (fun k hk=>by subst hk;omega));replace HL:=Lib.hid (HL.out.mod hM1 (fun g hg he=>by subst he;have:=Hf.out _ hg;omega));replace HBO:=Lib.hid hB1;clear hM1 hB1
                      replace HBO:=Lib.hid (fput HBO.out)
                      repeat' (first|refine X_q ?_|refine X_nil ?_|refine W_ret ?_|go_step)
                      exact Body_retcellv (cs:=RepS.cs q _ _ _) hd ⟨HE.out,_,by rw [HN.out],by rw [HT.out];exact ⟨_,_,_,rfl,HVQ.out _ HE.out ⟨HL.out.rd,fun k hk=>⟨fun hn=>by have:=HNN.out k hn;have:=Hf.out k hk;omega,HL.out.lt k hk⟩⟩⟩⟩ HBO.out (fun k hk=>cs_fenc hk) Tryz.underlying33
                  · have hno:s.takeNo p = 210:=by unfold RepS.takeNo;rw [if_neg (by simp [hrt]),if_neg (by simp [q2]),if_pos (by simpa using q4)]
                    have ht:s.take p = s:=by unfold RepS.take;rw [if_pos (by rw [hno];decide)]
                    have HN:=Lib.hid hno
                    have HT:=Lib.hid ht
                    clear hno ht hrt
                    by_cases g1:p.epoch = s.epoch
                    · have g1b:(p.epoch != s.epoch) = false:=by simp [g1]
                      by_cases g2:p.base = (s.log.length:Int)
                      · have g2b:(p.base != (s.log.length:Int)) = false:=by simp [g2]
                        have g3b:(p.last != lastE s.log) = true:=by
                          have:p.last ≠ lastE s.log:=fun h=>q4 (by simp [RepS.fitsNow,g1,g2,h])
                          simp [this]
                        clear g1 g2 q4 q2
                        repeat' (first|refine X_q ?_|refine X_nil ?_|refine W_seqk (fun K hK=>?_)|refine W_seqr ?_|refine W_skip ?_|refine W_exit ?_|refine W_ff ?_|go_step)
                        refine W_drawσ [(0,0),(1,0),(2,0),(3,0),(4,0),(5,0),(6,0),(7,0),(8,0),(9,0),(10,0),(11,0),(12,0),(13,0),(14,0),(15,0),(16,0),(17,0),(18,1),(19,0),(20,0)] (by kernel_rfl) (by kernel_rfl) ?_
                        repeat' (first|(refine X_pure1 Tryz.func74 (fun x=>LAST.out _ (Ext.trans HE.out x.ext)) ?_)|refine X_gt ?_|refine X_q ?_|refine X_niln ?_|refine W_seqk (fun K hK=>?_)|refine W_seqr ?_|refine W_tt ?_|go_step)
                        refine X_fload HBX.out ?_ (hu:=Tryz.underlying33)
                        skip
                        refine X_store (off:=0) HBO.out (fun W1 hM1 hB1=>?_);replace HE:=Lib.hid (Ext.fresh HE.out hM1 (fun k hk=>by subst hk;omega));replace HBO:=Lib.hid hB1;clear hM1 hB1
                        replace HBO:=Lib.hid (fput HBO.out)
                        repeat' (first|refine X_q ?_|refine X_nil ?_|refine W_ret ?_|go_step)
                        exact Body_retcellv (cs:=RepS.cs (s) _ _ _) hd ⟨HE.out,_,by rw [HN.out],by rw [HT.out];exact ⟨_,_,_,rfl,HVR.out.later HE.out⟩⟩ HBO.out (fun k hk=>cs_fenc hk) Tryz.underlying33
                      · have g2b:(p.base != (s.log.length:Int)) = true:=by simp [g2]
                        clear g1 g2 q4 q2
                        repeat' (first|refine X_q ?_|refine X_nil ?_|refine W_seqk (fun K hK=>?_)|refine W_seqr ?_|refine W_skip ?_|refine W_exit ?_|refine W_ff ?_|go_step)
                        refine W_drawσ [(0,0),(1,0),(2,0),(3,0),(4,0),(5,0),(6,0),(7,0),(8,0),(9,0),(10,0),(11,0),(12,0),(13,0),(14,0),(15,0),(16,0),(17,0),(18,1),(19,0),(20,0)] (by kernel_rfl) (by kernel_rfl) ?_
                        repeat' (first|(refine X_gf2 ?_)|refine X_gt ?_|refine X_q ?_|refine X_g ?_|refine X_gf ?_|refine X_niln ?_|refine W_seqk (fun K hK=>?_)|refine W_seqr ?_|refine W_tt ?_|go_step)
                        refine X_fload HBX.out ?_ (hu:=Tryz.underlying33)
                        skip
                        refine X_store (off:=0) HBO.out (fun W1 hM1 hB1=>?_);replace HE:=Lib.hid (Ext.fresh HE.out hM1 (fun k hk=>by subst hk;omega));replace HBO:=Lib.hid hB1;clear hM1 hB1
                        replace HBO:=Lib.hid (fput HBO.out)
                        repeat' (first|refine X_q ?_|refine X_nil ?_|refine W_ret ?_|go_step)
                        exact Body_retcellv (cs:=RepS.cs (s) _ _ _) hd ⟨HE.out,_,by rw [HN.out],by rw [HT.out];exact ⟨_,_,_,rfl,HVR.out.later HE.out⟩⟩ HBO.out (fun k hk=>cs_fenc hk) Tryz.underlying33
                    · have g1b:(p.epoch != s.epoch) = true:=by simp [g1]
                      clear g1 q4 q2
                      repeat' (first|refine X_q ?_|refine X_nil ?_|refine W_seqk (fun K hK=>?_)|refine W_seqr ?_|refine W_skip ?_|refine W_exit ?_|refine W_ff ?_|go_step)
                      refine W_drawσ [(0,0),(1,0),(2,0),(3,0),(4,0),(5,0),(6,0),(7,0),(8,0),(9,0),(10,0),(11,0),(12,0),(13,0),(14,0),(15,0),(16,0),(17,0),(18,1),(19,0),(20,0)] (by kernel_rfl) (by kernel_rfl) ?_
                      repeat' (first|(refine X_gf2 ?_)|refine X_q ?_|refine X_g ?_|refine X_gf ?_|refine X_niln ?_|refine W_seqk (fun K hK=>?_)|refine W_seqr ?_|refine W_tt ?_|go_step)
                      refine X_fload HBX.out ?_ (hu:=Tryz.underlying33)
                      skip
                      refine X_store (off:=0) HBO.out (fun W1 hM1 hB1=>?_);replace HE:=Lib.hid (Ext.fresh HE.out hM1 (fun k hk=>by subst hk;omega));replace HBO:=Lib.hid hB1;clear hM1 hB1
                      replace HBO:=Lib.hid (fput HBO.out)
                      repeat' (first|refine X_q ?_|refine X_nil ?_|refine W_ret ?_|go_step)
                      exact Body_retcellv (cs:=RepS.cs (s) _ _ _) hd ⟨HE.out,_,by rw [HN.out],by rw [HT.out];exact ⟨_,_,_,rfl,HVR.out.later HE.out⟩⟩ HBO.out (fun k hk=>cs_fenc hk) Tryz.underlying33
                · have q2b:(s.role != 2) = true:=by simp [q2]
                  have hn:s.takeNo p = 211:=by unfold RepS.takeNo;rw [if_neg (by simp [hrt]),if_pos q2]
                  have ht:s.take p = s:=by unfold RepS.take;rw [if_pos (by rw [hn];decide)]
                  have HN:=Lib.hid hn
                  have HT:=Lib.hid ht
                  clear hn ht
                  repeat' (first|refine X_q ?_|refine X_nil ?_|refine W_seqk (fun K hK=>?_)|refine W_seqr ?_|refine W_exit ?_|refine W_tt ?_|refine W_ff ?_|go_step)
                  refine X_fload HBX.out ?_ (hu:=Tryz.underlying33)
                  skip
                  refine X_store (off:=0) HBO.out (fun W1 hM1 hB1=>?_);replace HE:=Lib.hid (Ext.fresh HE.out hM1 (fun k hk=>by subst hk;omega));replace HBO:=Lib.hid hB1;clear hM1 hB1
                  replace HBO:=Lib.hid (fput HBO.out)
                  repeat' (first|refine X_q ?_|refine X_nil ?_|refine W_ret ?_|go_step)
                  exact Body_retcellv (cs:=RepS.cs (s) _ _ _) hd ⟨HE.out,_,by rw [HN.out],by rw [HT.out];exact ⟨_,_,_,rfl,HVR.out.later HE.out⟩⟩ HBO.out (fun k hk=>cs_fenc hk) Tryz.underlying33
end Go.Ws
