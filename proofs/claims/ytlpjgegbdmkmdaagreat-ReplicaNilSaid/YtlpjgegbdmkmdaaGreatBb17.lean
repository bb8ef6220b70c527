/- Lemmas for the statements of this layer (joined texts); no condition. -/
import Derived.Test.YtlpjgegbdmkmdaaGreatBb15
namespace Go.Ws
open Go Go.RowKit Go.Proofs
set_option maxHeartbeats 2000000
set_option maxRecDepth 100000
set_option linter.unusedVariables false
set_option linter.unusedSimpArgs false
theorem flush11_calls {N:Nat→Prop} {w:World} {uL uI uC:Value} {s:RepS} (h:VR N w uL uI uC s) (hc:Bks s.counts):Ret Tryz.prog 38 #[s.v uL uI uC] w fun v w'=>Ext w w'∧FV N w' v s.flush:=by
  have HVR:=Lib.hid h
  obtain ⟨A1,c1,rfl,-⟩:=h.rl.rd.ent
  obtain ⟨A2,c2,rfl,-⟩:=h.ri.rd.int
  obtain ⟨A3,c3,rfl,-⟩:=h.rc.rd.int
  clear h
  refine Fn_of Tryz.func38 rfl (Nat.le_of_ble_eq_true rfl) ?_;intro A hd hA;simp only [ix,Nat.reduceAdd];replace hA:A.tmps.size = 9:=hA
  (repeat' (first|refine W_seqk (fun K hK=>?_)|refine W_seqr ?_|fail));(first|(refine X_var (fun yn bx hn1 hn2 hn3 hn4 hn5=>?_))|(refine X_s (fun x K hK=>?_);go_simp;refine hK _ _ (Ext.alloc _ _) ?_;clear hK K;refine X_al x ?_;generalize (World.later _ x).heap.size = bx;intro yn hn1 hn2 hn3 hn4 hn5;clear x));have HBbx:=Lib.hid (Blk.new hn5.out);have HEbx:=Lib.hid yn.ext;have hlbx:(World.heap w).size≤bx:=hn1;generalize World.later w yn = W0 at *;clear hn1 hn2 hn3 hn4 hn5 yn
  (skip);(first|(refine X_var (fun yn bo hn1 hn2 hn3 hn4 hn5=>?_))|(refine X_s (fun x K hK=>?_);go_simp;refine hK _ _ (Ext.alloc _ _) ?_;clear hK K;refine X_al x ?_;generalize (World.later _ x).heap.size = bo;intro yn hn1 hn2 hn3 hn4 hn5;clear x));have HBbo:=Lib.hid (Blk.new hn5.out);have HEbo:=Lib.hid yn.ext;have hlbo:(World.heap W0).size≤bo:=hn1;generalize World.later W0 yn = W at *;clear hn1 hn2 hn3 hn4 hn5 yn
  have HBX:=Lib.hid ((fbox2 HBbx.out).later HEbo.out)
  have HE:=Lib.hid (Ext.trans HEbx.out HEbo.out)
  have hbb:bx < bo:=by have:=HBbx.out.lt;omega
  have hE0:=HEbx.out.size
  have HBO:=HBbo
  clear HBbx HBbo HEbx HEbo
  obtain ⟨hlt,d0,d1,d2,d3,d4,d5,d6,d7,d8,d9,d10⟩:=fcells HBX.out
  have hbol:=HBO.out.lt
  repeat' (first|refine X_q ?_|refine X_nil ?_|refine W_seqk (fun K hK=>?_)|refine W_seqr ?_|go_step)
  refine X_store (off:=5) HBX.out (fun W1 hM1 hB1=>?_);replace HE:=Lib.hid (Ext.fresh HE.out hM1 (fun k hk=>by subst hk;omega));replace HBO:=Lib.hid (HBO.out.mod hM1 (fun h=>by omega));replace HBX:=Lib.hid hB1;clear hM1 hB1
  replace HBX:=Lib.hid (HBX.out.congr (g':=fenc { s with flushed:=s.log.length } (.slice A1 s.log.length c1) (.slice A2 s.isr.length c2) (.slice A3 s.counts.length c3)) (all15 ⟨rfl,rfl,rfl,rfl,rfl,rfl,rfl,rfl,rfl,rfl,rfl,rfl,rfl,rfl,rfl⟩))
  clear hlt d0 d1 d2 d3 d4 d5 d6 d7 d8 d9 d10
  repeat' (first|refine X_nil ?_|refine W_seqk (fun K hK=>?_)|refine W_seqr ?_|go_step)
  refine X_fload HBX.out ?_ (hu:=Tryz.underlying33)
  skip
  refine X_ret Tryz.func76 (count11_calls (s:={ s with flushed:=s.log.length }) (uL:=(.slice A1 s.log.length c1)) (uI:=(.slice A2 s.isr.length c2)) (uC:=(.slice A3 s.counts.length c3)) ⟨(HVR.out.later HE.out).rl,(HVR.out.later HE.out).ri,(HVR.out.later HE.out).rc⟩ hc) (fun r w1 hR=>?_)
  obtain ⟨hE1,rfl⟩:=hR
  replace HE:=Lib.hid (Ext.trans HE.out hE1)
  replace HBO:=Lib.hid (HBO.out.later hE1)
  clear hE1
  skip
  refine X_store (off:=0) HBO.out (fun W1 hM1 hB1=>?_);replace HE:=Lib.hid (Ext.fresh HE.out hM1 (fun k hk=>by subst hk;omega));replace HBO:=Lib.hid hB1;clear hM1 hB1
  replace HBO:=Lib.hid (fput HBO.out)
  repeat' (first|refine X_nil ?_|refine W_ret ?_|go_step)
  exact Body_retcell1 (cs:=s.flush.cs _ _ _) hd ⟨HE.out,_,_,_,rfl,VR.count ⟨(HVR.out.later HE.out).rl,(HVR.out.later HE.out).ri,(HVR.out.later HE.out).rc⟩⟩ HBO.out (fun k hk=>cs_fenc hk) Tryz.underlying33
theorem learn11_calls {N:Nat→Prop} {w:World} {uL uI uC:Value} {s:RepS} {v:Value} {x:View} (h:VR N w uL uI uC s) (hc:Bks s.counts) (hr:s.role = 1∨s.role = 2∨s.role = 3) (hv:VV w v x) (hvn:∀ a b c u,v = .agg #[a,b,c,u]→∀ k,u.ownBlock = some k→x.isr = []∨¬ N k):Ret Tryz.prog 36 #[s.v uL uI uC,v] w fun r w'=>Ext w w'∧∃ v',r = .tuple #[v',.int .i64 (s.learn x).2]∧FV N w' v' (s.learn x).1:=by
  have HVR:=Lib.hid h
  obtain ⟨A1,c1,rfl,-⟩:=h.rl.rd.ent
  obtain ⟨A2,c2,rfl,-⟩:=h.ri.rd.int
  obtain ⟨A3,c3,rfl,-⟩:=h.rc.rd.int
  clear h
  have HBK:=Lib.hid hc
  have HRO:=Lib.hid hr
  have HV:=Lib.hid hv
  clear hc hr
  obtain ⟨u,rfl,hu⟩:=hv
  have HU0:Hid (x.isr ≠ []→RdIN N w u x.isr):=Lib.hid (fun hx=>⟨hu,fun k hk=>⟨(hvn _ _ _ _ rfl k hk).resolve_left hx,hu.lt hx k hk⟩⟩)
  clear hvn
  obtain ⟨A4,c4,rfl,-⟩:=hu.int
  clear hu
  have MAY:Hid (∀ W,Ext w W→Pure Tryz.prog 75 #[.agg #[.int .i64 x.leader,.int .i64 x.epoch,.int .i64 x.version,.slice A4 x.isr.length c4]] W (.bool x.may)):=Lib.hid (fun W hE=>may11_calls (HV.out.later hE))
  by_cases hm:x.may = true
  · skip
    rw [hm] at MAY
    have HMM:=Lib.hid hm
    have hbb0:brokersB x.isr = true:=by
      have h4:=hm
      simp only [View.may,Bool.and_eq_true] at h4
      exact h4.1.1.2
    have HBB:=Lib.hid hbb0
    have hne0:x.isr ≠ []:=by
      have h4:=hm
      simp only [View.may,Bool.and_eq_true,decide_eq_true_eq] at h4
      intro e
      have h5:=h4.1.2
      rw [e] at h5
      exact absurd h5 (by simp)
    have HU:=Lib.hid (HU0.out hne0)
    clear hbb0 HU0 hne0
    by_cases h1:x.epoch < s.epoch
    · have hl:s.learn x = (s,210):=by unfold RepS.learn;rw [if_pos hm,if_pos h1]
      rw [hl]
      clear hl hm
      refine Fn_of Tryz.func36 rfl (Nat.le_of_ble_eq_true rfl) ?_;intro A hd hA;simp only [ix,Nat.reduceAdd];replace hA:A.tmps.size = 92:=hA
      (repeat' (first|refine W_seqk (fun K hK=>?_)|refine W_seqr ?_|fail));(first|(refine X_var (fun yn bx hn1 hn2 hn3 hn4 hn5=>?_))|(refine X_s (fun x K hK=>?_);go_simp;refine hK _ _ (Ext.alloc _ _) ?_;clear hK K;refine X_al x ?_;generalize (World.later _ x).heap.size = bx;intro yn hn1 hn2 hn3 hn4 hn5;clear x));have HBbx:=Lib.hid (Blk.new hn5.out);have HEbx:=Lib.hid yn.ext;have hlbx:(World.heap w).size≤bx:=hn1;generalize World.later w yn = W0 at *;clear hn1 hn2 hn3 hn4 hn5 yn
      (skip);(first|(refine X_var (fun yn bv hn1 hn2 hn3 hn4 hn5=>?_))|(refine X_s (fun x K hK=>?_);go_simp;refine hK _ _ (Ext.alloc _ _) ?_;clear hK K;refine X_al x ?_;generalize (World.later _ x).heap.size = bv;intro yn hn1 hn2 hn3 hn4 hn5;clear x));have HBbv:=Lib.hid (Blk.new hn5.out);have HEbv:=Lib.hid yn.ext;have hlbv:(World.heap W0).size≤bv:=hn1;generalize World.later W0 yn = W1 at *;clear hn1 hn2 hn3 hn4 hn5 yn
      (skip);(first|(refine X_var (fun yn bo hn1 hn2 hn3 hn4 hn5=>?_))|(refine X_s (fun x K hK=>?_);go_simp;refine hK _ _ (Ext.alloc _ _) ?_;clear hK K;refine X_al x ?_;generalize (World.later _ x).heap.size = bo;intro yn hn1 hn2 hn3 hn4 hn5;clear x));have HBbo:=Lib.hid (Blk.new hn5.out);have HEbo:=Lib.hid yn.ext;have hlbo:(World.heap W1).size≤bo:=hn1;generalize World.later W1 yn = W at *;clear hn1 hn2 hn3 hn4 hn5 yn
      have HBX:=Lib.hid ((fbox2 HBbx.out).later (Ext.trans HEbv.out HEbo.out))
      have HBV:=Lib.hid (HBbv.out.later HEbo.out)
      have HE:=Lib.hid (Ext.trans (Ext.trans HEbx.out HEbv.out) HEbo.out)
      have hbb:bx < bv:=by have:=HBbx.out.lt;omega
      have hbb2:bv < bo:=by have:=HBbv.out.lt;omega
      have hE0:=HEbx.out.size
      have hE1:=HEbv.out.size
      have HBO:=HBbo
      clear HBbx HBbo HBbv HEbx HEbo HEbv
      obtain ⟨hlt,d0,d1,d2,d3,d4,d5,d6,d7,d8,d9,d10⟩:=fcells HBX.out
      have hvl:=HBV.out.lt
      have v0:=HBV.out.cell (k:=0) (by simp)
      have v1:=HBV.out.cell (k:=1) (by simp)
      have v2:=HBV.out.cell (k:=2) (by simp)
      have v3:=HBV.out.cell (k:=3) (by simp)
      simp at v0 v1 v2 v3
      repeat' (first|refine X_pure Tryz.func75 (MAY.out _ HE.out) ?_|refine X_q ?_|refine X_nil ?_|refine W_seqk (fun K hK=>?_)|refine W_seqr ?_|refine W_skip ?_|refine W_tt ?_|refine W_ff ?_|go_step)
      refine X_fload HBX.out ?_ (hu:=Tryz.underlying33)
      skip
      refine X_store (off:=0) HBO.out (fun W1 hM1 hB1=>?_);replace HE:=Lib.hid (Ext.fresh HE.out hM1 (fun k hk=>by subst hk;omega));replace HBO:=Lib.hid hB1;clear hM1 hB1
      replace HBO:=Lib.hid (fput HBO.out)
      repeat' (first|refine X_q ?_|refine X_nil ?_|refine W_ret ?_|go_step)
      exact Body_retcellv (cs:=RepS.cs (s) _ _ _) hd ⟨HE.out,_,rfl,_,_,_,rfl,HVR.out.later HE.out⟩ HBO.out (fun k hk=>cs_fenc hk) Tryz.underlying33
    · by_cases h2:x.epoch = s.epoch
      · skip
        have h2b:(x.epoch == s.epoch) = true:=by simp [h2]
        have hl:s.learn x = s.again x:=by unfold RepS.learn;rw [if_pos hm,if_neg h1,if_pos h2]
        rw [hl]
        clear hl hm h2
        by_cases h3:s.role = 3
        · have h3b:(s.role == 3) = true:=by simp [h3]
          by_cases h4:s.version < x.version
          · have ha:s.again x = ((s.steps x).count,0):=by unfold RepS.again;rw [if_pos h3,if_pos h4]
            rw [ha]
            clear ha h3
            have h4n:¬ x.version≤s.version:=by omega
            refine Fn_of Tryz.func36 rfl (Nat.le_of_ble_eq_true rfl) ?_;intro A hd hA;simp only [ix,Nat.reduceAdd];replace hA:A.tmps.size = 92:=hA
            (repeat' (first|refine W_seqk (fun K hK=>?_)|refine W_seqr ?_|fail));(first|(refine X_var (fun yn bx hn1 hn2 hn3 hn4 hn5=>?_))|(refine X_s (fun x K hK=>?_);go_simp;refine hK _ _ (Ext.alloc _ _) ?_;clear hK K;refine X_al x ?_;generalize (World.later _ x).heap.size = bx;intro yn hn1 hn2 hn3 hn4 hn5;clear x));have HBbx:=Lib.hid (Blk.new hn5.out);have HEbx:=Lib.hid yn.ext;have hlbx:(World.heap w).size≤bx:=hn1;generalize World.later w yn = W0 at *;clear hn1 hn2 hn3 hn4 hn5 yn
            (skip);(first|(refine X_var (fun yn bv hn1 hn2 hn3 hn4 hn5=>?_))|(refine X_s (fun x K hK=>?_);go_simp;refine hK _ _ (Ext.alloc _ _) ?_;clear hK K;refine X_al x ?_;generalize (World.later _ x).heap.size = bv;intro yn hn1 hn2 hn3 hn4 hn5;clear x));have HBbv:=Lib.hid (Blk.new hn5.out);have HEbv:=Lib.hid yn.ext;have hlbv:(World.heap W0).size≤bv:=hn1;generalize World.later W0 yn = W1 at *;clear hn1 hn2 hn3 hn4 hn5 yn
            (skip);(first|(refine X_var (fun yn bo hn1 hn2 hn3 hn4 hn5=>?_))|(refine X_s (fun x K hK=>?_);go_simp;refine hK _ _ (Ext.alloc _ _) ?_;clear hK K;refine X_al x ?_;generalize (World.later _ x).heap.size = bo;intro yn hn1 hn2 hn3 hn4 hn5;clear x));have HBbo:=Lib.hid (Blk.new hn5.out);have HEbo:=Lib.hid yn.ext;have hlbo:(World.heap W1).size≤bo:=hn1;generalize World.later W1 yn = W at *;clear hn1 hn2 hn3 hn4 hn5 yn
            have HBX:=Lib.hid ((fbox2 HBbx.out).later (Ext.trans HEbv.out HEbo.out))
            have HBV:=Lib.hid (HBbv.out.later HEbo.out)
            have HE:=Lib.hid (Ext.trans (Ext.trans HEbx.out HEbv.out) HEbo.out)
            have hbb:bx < bv:=by have:=HBbx.out.lt;omega
            have hbb2:bv < bo:=by have:=HBbv.out.lt;omega
            have hE0:=HEbx.out.size
            have hE1:=HEbv.out.size
            have HBO:=HBbo
            clear HBbx HBbo HBbv HEbx HEbo HEbv
            obtain ⟨hlt,d0,d1,d2,d3,d4,d5,d6,d7,d8,d9,d10⟩:=fcells HBX.out
            have hvl:=HBV.out.lt
            have v0:=HBV.out.cell (k:=0) (by simp)
            have v1:=HBV.out.cell (k:=1) (by simp)
            have v2:=HBV.out.cell (k:=2) (by simp)
            have v3:=HBV.out.cell (k:=3) (by simp)
            simp at v0 v1 v2 v3
            repeat' (first|refine X_pure Tryz.func75 (MAY.out _ HE.out) ?_|refine X_q ?_|refine X_nil ?_|refine W_seqk (fun K hK=>?_)|refine W_seqr ?_|refine W_skip ?_|refine W_block ?_|refine W_tt ?_|refine W_ff ?_|go_step)
            obtain ⟨G,hG⟩:∃ G:Nat→Prop,G = (fun k=>k = bx):=⟨_,rfl⟩;have HGo:Hid (G bx):=Lib.hid (by subst hG;rfl);have hGbv:¬ G bv:=(by subst hG;show ¬ bv = bx;omega);clear hG
            refine W_drawG G [(0,0),(1,3),(2,0),(3,0),(4,0),(5,0),(6,0),(7,2),(8,0),(9,2),(10,0),(11,2)] (by kernel_rfl) (by kernel_rfl) ?_
            repeat' (first|refine Y_q ?_|refine Y_r ?_|fail)
            refine Y_store (off:=7) HBX.out HGo.out (fun W1 hM1 hG1 hB1=>?_);replace HE:=Lib.hid (Ext.fresh HE.out hM1 (fun k hk=>by subst hk;omega));replace HBO:=Lib.hid (HBO.out.mod hM1 (fun h=>by omega));replace HBX:=Lib.hid hB1;clear hM1 hB1 hG1
            repeat' (first|refine Y_q ?_|fail)
            refine Y_store (off:=9) HBX.out HGo.out (fun W1 hM1 hG1 hB1=>?_);replace HE:=Lib.hid (Ext.fresh HE.out hM1 (fun k hk=>by subst hk;omega));replace HBO:=Lib.hid (HBO.out.mod hM1 (fun h=>by omega));replace HBX:=Lib.hid hB1;clear hM1 hB1 hG1
            repeat' (first|refine Y_q ?_|fail)
            refine Y_store (off:=10) HBX.out HGo.out (fun W1 hM1 hG1 hB1=>?_);replace HE:=Lib.hid (Ext.fresh HE.out hM1 (fun k hk=>by subst hk;omega));replace HBO:=Lib.hid (HBO.out.mod hM1 (fun h=>by omega));replace HBX:=Lib.hid hB1;clear hM1 hB1 hG1
            repeat' (first|refine Y_nil ?_)
            replace HBX:=Lib.hid (HBX.out.congr (g':=fenc (s.steps x) (.slice A1 s.log.length c1) (.slice A4 x.isr.length c4) (.slice A4 x.isr.length c4)) (all15 ⟨rfl,rfl,rfl,rfl,rfl,rfl,rfl,rfl,rfl,rfl,rfl,rfl,rfl,rfl,rfl⟩))
            clear hlt d0 d1 d2 d3 d4 d5 d6 d7 d8 d9 d10
            clear hvl v0 v1 v2 v3
            repeat' (first|refine W_seqk (fun K hK=>?_)|refine W_seqr ?_|go_step)
            refine X_fload HBX.out ?_ (hu:=Tryz.underlying33)
            skip
            refine X_ret Tryz.func76 (count11_calls (s:=s.steps x) (uL:=(.slice A1 s.log.length c1)) (uI:=.slice A4 x.isr.length c4) (uC:=.slice A4 x.isr.length c4) ⟨(HVR.out.later HE.out).rl,HU.out.later HE.out,HU.out.later HE.out⟩ (brokersB_bks HBB.out)) (fun r w1 hR=>?_)
            obtain ⟨hE2,rfl⟩:=hR
            replace HE:=Lib.hid (Ext.trans HE.out hE2)
            replace HBO:=Lib.hid (HBO.out.later hE2)
            clear hE2
            skip
            refine X_store (off:=0) HBO.out (fun W1 hM1 hB1=>?_);replace HE:=Lib.hid (Ext.fresh HE.out hM1 (fun k hk=>by subst hk;omega));replace HBO:=Lib.hid hB1;clear hM1 hB1
            replace HBO:=Lib.hid (fput HBO.out)
            repeat' (first|refine X_q ?_|refine X_nil ?_|refine W_ret ?_|go_step)
            exact Body_retcellv (cs:=RepS.cs ((s.steps x).count) _ _ _) hd ⟨HE.out,_,rfl,_,_,_,rfl,VR.count ⟨(HVR.out.later HE.out).rl,HU.out.later HE.out,HU.out.later HE.out⟩⟩ HBO.out (fun k hk=>cs_fenc hk) Tryz.underlying33
          · have ha:s.again x = (s,210):=by unfold RepS.again;rw [if_pos h3,if_neg h4]
            rw [ha]
            clear ha h3
            have h4n:x.version≤s.version:=by omega
            refine Fn_of Tryz.func36 rfl (Nat.le_of_ble_eq_true rfl) ?_;intro A hd hA;simp only [ix,Nat.reduceAdd];replace hA:A.tmps.size = 92:=hA
            (repeat' (first|refine W_seqk (fun K hK=>?_)|refine W_seqr ?_|fail));(first|(refine X_var (fun yn bx hn1 hn2 hn3 hn4 hn5=>?_))|(refine X_s (fun x K hK=>?_);go_simp;refine hK _ _ (Ext.alloc _ _) ?_;clear hK K;refine X_al x ?_;generalize (World.later _ x).heap.size = bx;intro yn hn1 hn2 hn3 hn4 hn5;clear x));have HBbx:=Lib.hid (Blk.new hn5.out);have HEbx:=Lib.hid yn.ext;have hlbx:(World.heap w).size≤bx:=hn1;generalize World.later w yn = W0 at *;clear hn1 hn2 hn3 hn4 hn5 yn
            (skip);(first|(refine X_var (fun yn bv hn1 hn2 hn3 hn4 hn5=>?_))|(refine X_s (fun x K hK=>?_);go_simp;refine hK _ _ (Ext.alloc _ _) ?_;clear hK K;refine X_al x ?_;generalize (World.later _ x).heap.size = bv;intro yn hn1 hn2 hn3 hn4 hn5;clear x));have HBbv:=Lib.hid (Blk.new hn5.out);have HEbv:=Lib.hid yn.ext;have hlbv:(World.heap W0).size≤bv:=hn1;generalize World.later W0 yn = W1 at *;clear hn1 hn2 hn3 hn4 hn5 yn
            (skip);(first|(refine X_var (fun yn bo hn1 hn2 hn3 hn4 hn5=>?_))|(refine X_s (fun x K hK=>?_);go_simp;refine hK _ _ (Ext.alloc _ _) ?_;clear hK K;refine X_al x ?_;generalize (World.later _ x).heap.size = bo;intro yn hn1 hn2 hn3 hn4 hn5;clear x));have HBbo:=Lib.hid (Blk.new hn5.out);have HEbo:=Lib.hid yn.ext;have hlbo:(World.heap W1).size≤bo:=hn1;generalize World.later W1 yn = W at *;clear hn1 hn2 hn3 hn4 hn5 yn
            have HBX:=Lib.hid ((fbox2 HBbx.out).later (Ext.trans HEbv.out HEbo.out))
            have HBV:=Lib.hid (HBbv.out.later HEbo.out)
            have HE:=Lib.hid (Ext.trans (Ext.trans HEbx.out HEbv.out) HEbo.out)
            have hbb:bx < bv:=by have:=HBbx.out.lt;omega
            have hbb2:bv < bo:=by have:=HBbv.out.lt;omega
            have hE0:=HEbx.out.size
            have hE1:=HEbv.out.size
            have HBO:=HBbo
            clear HBbx HBbo HBbv HEbx HEbo HEbv
            obtain ⟨hlt,d0,d1,d2,d3,d4,d5,d6,d7,d8,d9,d10⟩:=fcells HBX.out
            have hvl:=HBV.out.lt
            have v0:=HBV.out.cell (k:=0) (by simp)
            have v1:=HBV.out.cell (k:=1) (by simp)
            have v2:=HBV.out.cell (k:=2) (by simp)
            have v3:=HBV.out.cell (k:=3) (by simp)
            simp at v0 v1 v2 v3
            repeat' (first|refine X_pure Tryz.func75 (MAY.out _ HE.out) ?_|refine X_q ?_|refine X_nil ?_|refine W_seqk (fun K hK=>?_)|refine W_seqr ?_|refine W_skip ?_|refine W_block ?_|refine W_tt ?_|refine W_ff ?_|go_step)
            refine X_fload HBX.out ?_ (hu:=Tryz.underlying33)
            skip
            refine X_store (off:=0) HBO.out (fun W1 hM1 hB1=>?_);replace HE:=Lib.hid (Ext.fresh HE.out hM1 (fun k hk=>by subst hk;omega));replace HBO:=Lib.hid hB1;clear hM1 hB1
            replace HBO:=Lib.hid (fput HBO.out)
            repeat' (first|refine X_q ?_|refine X_nil ?_|refine W_ret ?_|go_step)
            exact Body_retcellv (cs:=RepS.cs (s) _ _ _) hd ⟨HE.out,_,rfl,_,_,_,rfl,HVR.out.later HE.out⟩ HBO.out (fun k hk=>cs_fenc hk) Tryz.underlying33
        · have h3b:(s.role == 3) = false:=beq_false_of_ne h3
          by_cases h5:s.role = 1
          · have h5b:(s.role == 2) = false:=beq_false_of_ne (by omega)
            by_cases h6:x.leader = -1
            · have h6b:(x.leader == -1) = true:=by simp [h6]
              have ha:s.again x = (s,210):=by unfold RepS.again;rw [if_neg h3,if_pos h5,if_neg (fun h=>h.1 h6)]
              rw [ha]
              clear ha h5 h6
              refine Fn_of Tryz.func36 rfl (Nat.le_of_ble_eq_true rfl) ?_;intro A hd hA;simp only [ix,Nat.reduceAdd];replace hA:A.tmps.size = 92:=hA
              (repeat' (first|refine W_seqk (fun K hK=>?_)|refine W_seqr ?_|fail));(first|(refine X_var (fun yn bx hn1 hn2 hn3 hn4 hn5=>?_))|(refine X_s (fun x K hK=>?_);go_simp;refine hK _ _ (Ext.alloc _ _) ?_;clear hK K;refine X_al x ?_;generalize (World.later _ x).heap.size = bx;intro yn hn1 hn2 hn3 hn4 hn5;clear x));have HBbx:=Lib.hid (Blk.new hn5.out);have HEbx:=Lib.hid yn.ext;have hlbx:(World.heap w).size≤bx:=hn1;generalize World.later w yn = W0 at *;clear hn1 hn2 hn3 hn4 hn5 yn
              (skip);(first|(refine X_var (fun yn bv hn1 hn2 hn3 hn4 hn5=>?_))|(refine X_s (fun x K hK=>?_);go_simp;refine hK _ _ (Ext.alloc _ _) ?_;clear hK K;refine X_al x ?_;generalize (World.later _ x).heap.size = bv;intro yn hn1 hn2 hn3 hn4 hn5;clear x));have HBbv:=Lib.hid (Blk.new hn5.out);have HEbv:=Lib.hid yn.ext;have hlbv:(World.heap W0).size≤bv:=hn1;generalize World.later W0 yn = W1 at *;clear hn1 hn2 hn3 hn4 hn5 yn
              (skip);(first|(refine X_var (fun yn bo hn1 hn2 hn3 hn4 hn5=>?_))|(refine X_s (fun x K hK=>?_);go_simp;refine hK _ _ (Ext.alloc _ _) ?_;clear hK K;refine X_al x ?_;generalize (World.later _ x).heap.size = bo;intro yn hn1 hn2 hn3 hn4 hn5;clear x));have HBbo:=Lib.hid (Blk.new hn5.out);have HEbo:=Lib.hid yn.ext;have hlbo:(World.heap W1).size≤bo:=hn1;generalize World.later W1 yn = W at *;clear hn1 hn2 hn3 hn4 hn5 yn
              have HBX:=Lib.hid ((fbox2 HBbx.out).later (Ext.trans HEbv.out HEbo.out))
              have HBV:=Lib.hid (HBbv.out.later HEbo.out)
              have HE:=Lib.hid (Ext.trans (Ext.trans HEbx.out HEbv.out) HEbo.out)
              have hbb:bx < bv:=by have:=HBbx.out.lt;omega
              have hbb2:bv < bo:=by have:=HBbv.out.lt;omega
              have hE0:=HEbx.out.size
              have hE1:=HEbv.out.size
              have HBO:=HBbo
              clear HBbx HBbo HBbv HEbx HEbo HEbv
              obtain ⟨hlt,d0,d1,d2,d3,d4,d5,d6,d7,d8,d9,d10⟩:=fcells HBX.out
              have hvl:=HBV.out.lt
              have v0:=HBV.out.cell (k:=0) (by simp)
              have v1:=HBV.out.cell (k:=1) (by simp)
              have v2:=HBV.out.cell (k:=2) (by simp)
              have v3:=HBV.out.cell (k:=3) (by simp)
              simp at v0 v1 v2 v3
              repeat' (first|refine X_pure Tryz.func75 (MAY.out _ HE.out) ?_|refine X_q ?_|refine X_g ?_|refine X_gf ?_|refine X_nil ?_|refine W_seqk (fun K hK=>?_)|refine W_seqr ?_|refine W_skip ?_|refine W_block ?_|refine W_tt ?_|refine W_ff ?_|go_step)
              refine X_fload HBX.out ?_ (hu:=Tryz.underlying33)
              skip
              refine X_store (off:=0) HBO.out (fun W1 hM1 hB1=>?_);replace HE:=Lib.hid (Ext.fresh HE.out hM1 (fun k hk=>by subst hk;omega));replace HBO:=Lib.hid hB1;clear hM1 hB1
              replace HBO:=Lib.hid (fput HBO.out)
              repeat' (first|refine X_q ?_|refine X_nil ?_|refine W_ret ?_|go_step)
              exact Body_retcellv (cs:=RepS.cs (s) _ _ _) hd ⟨HE.out,_,rfl,_,_,_,rfl,HVR.out.later HE.out⟩ HBO.out (fun k hk=>cs_fenc hk) Tryz.underlying33
            · have h6b:(x.leader == -1) = false:=beq_false_of_ne h6
              by_cases h7:x.leader = s.self
              · have h7b:(x.leader == s.self) = true:=by simp [h7]
                have ha:s.again x = (s,210):=by unfold RepS.again;rw [if_neg h3,if_pos h5,if_neg (fun h=>h.2 h7)]
                rw [ha]
                clear ha h5 h7
                refine Fn_of Tryz.func36 rfl (Nat.le_of_ble_eq_true rfl) ?_;intro A hd hA;simp only [ix,Nat.reduceAdd];replace hA:A.tmps.size = 92:=hA
                (repeat' (first|refine W_seqk (fun K hK=>?_)|refine W_seqr ?_|fail));(first|(refine X_var (fun yn bx hn1 hn2 hn3 hn4 hn5=>?_))|(refine X_s (fun x K hK=>?_);go_simp;refine hK _ _ (Ext.alloc _ _) ?_;clear hK K;refine X_al x ?_;generalize (World.later _ x).heap.size = bx;intro yn hn1 hn2 hn3 hn4 hn5;clear x));have HBbx:=Lib.hid (Blk.new hn5.out);have HEbx:=Lib.hid yn.ext;have hlbx:(World.heap w).size≤bx:=hn1;generalize World.later w yn = W0 at *;clear hn1 hn2 hn3 hn4 hn5 yn
                (skip);(first|(refine X_var (fun yn bv hn1 hn2 hn3 hn4 hn5=>?_))|(refine X_s (fun x K hK=>?_);go_simp;refine hK _ _ (Ext.alloc _ _) ?_;clear hK K;refine X_al x ?_;generalize (World.later _ x).heap.size = bv;intro yn hn1 hn2 hn3 hn4 hn5;clear x));have HBbv:=Lib.hid (Blk.new hn5.out);have HEbv:=Lib.hid yn.ext;have hlbv:(World.heap W0).size≤bv:=hn1;generalize World.later W0 yn = W1 at *;clear hn1 hn2 hn3 hn4 hn5 yn
                (skip);(first|(refine X_var (fun yn bo hn1 hn2 hn3 hn4 hn5=>?_))|(refine X_s (fun x K hK=>?_);go_simp;refine hK _ _ (Ext.alloc _ _) ?_;clear hK K;refine X_al x ?_;generalize (World.later _ x).heap.size = bo;intro yn hn1 hn2 hn3 hn4 hn5;clear x));have HBbo:=Lib.hid (Blk.new hn5.out);have HEbo:=Lib.hid yn.ext;have hlbo:(World.heap W1).size≤bo:=hn1;generalize World.later W1 yn = W at *;clear hn1 hn2 hn3 hn4 hn5 yn
                have HBX:=Lib.hid ((fbox2 HBbx.out).later (Ext.trans HEbv.out HEbo.out))
                have HBV:=Lib.hid (HBbv.out.later HEbo.out)
                have HE:=Lib.hid (Ext.trans (Ext.trans HEbx.out HEbv.out) HEbo.out)
                have hbb:bx < bv:=by have:=HBbx.out.lt;omega
                have hbb2:bv < bo:=by have:=HBbv.out.lt;omega
                have hE0:=HEbx.out.size
                have hE1:=HEbv.out.size
                have HBO:=HBbo
                clear HBbx HBbo HBbv HEbx HEbo HEbv
                obtain ⟨hlt,d0,d1,d2,d3,d4,d5,d6,d7,d8,d9,d10⟩:=fcells HBX.out
                have hvl:=HBV.out.lt
                have v0:=HBV.out.cell (k:=0) (by simp)
                have v1:=HBV.out.cell (k:=1) (by simp)
                have v2:=HBV.out.cell (k:=2) (by simp)
                have v3:=HBV.out.cell (k:=3) (by simp)
                simp at v0 v1 v2 v3
                repeat' (first|refine X_pure Tryz.func75 (MAY.out _ HE.out) ?_|refine X_gt ?_|refine X_q ?_|refine X_nil ?_|refine W_seqk (fun K hK=>?_)|refine W_seqr ?_|refine W_skip ?_|refine W_block ?_|refine W_tt ?_|refine W_ff ?_|go_step)
                refine X_fload HBX.out ?_ (hu:=Tryz.underlying33)
                skip
                refine X_store (off:=0) HBO.out (fun W1 hM1 hB1=>?_);replace HE:=Lib.hid (Ext.fresh HE.out hM1 (fun k hk=>by subst hk;omega));replace HBO:=Lib.hid hB1;clear hM1 hB1
                replace HBO:=Lib.hid (fput HBO.out)
                repeat' (first|refine X_q ?_|refine X_nil ?_|refine W_ret ?_|go_step)
                exact Body_retcellv (cs:=RepS.cs (s) _ _ _) hd ⟨HE.out,_,rfl,_,_,_,rfl,HVR.out.later HE.out⟩ HBO.out (fun k hk=>cs_fenc hk) Tryz.underlying33
              · have h7b:(x.leader == s.self) = false:=beq_false_of_ne h7
                have ha:s.again x = ({ s with role:=2 },0):=by unfold RepS.again;rw [if_neg h3,if_pos h5,if_pos ⟨h6,h7⟩]
                rw [ha]
                clear ha h5
                refine Fn_of Tryz.func36 rfl (Nat.le_of_ble_eq_true rfl) ?_;intro A hd hA;simp only [ix,Nat.reduceAdd];replace hA:A.tmps.size = 92:=hA
                (repeat' (first|refine W_seqk (fun K hK=>?_)|refine W_seqr ?_|fail));(first|(refine X_var (fun yn bx hn1 hn2 hn3 hn4 hn5=>?_))|(refine X_s (fun x K hK=>?_);go_simp;refine hK _ _ (Ext.alloc _ _) ?_;clear hK K;refine X_al x ?_;generalize (World.later _ x).heap.size = bx;intro yn hn1 hn2 hn3 hn4 hn5;clear x));have HBbx:=Lib.hid (Blk.new hn5.out);have HEbx:=Lib.hid yn.ext;have hlbx:(World.heap w).size≤bx:=hn1;generalize World.later w yn = W0 at *;clear hn1 hn2 hn3 hn4 hn5 yn
                (skip);(first|(refine X_var (fun yn bv hn1 hn2 hn3 hn4 hn5=>?_))|(refine X_s (fun x K hK=>?_);go_simp;refine hK _ _ (Ext.alloc _ _) ?_;clear hK K;refine X_al x ?_;generalize (World.later _ x).heap.size = bv;intro yn hn1 hn2 hn3 hn4 hn5;clear x));have HBbv:=Lib.hid (Blk.new hn5.out);have HEbv:=Lib.hid yn.ext;have hlbv:(World.heap W0).size≤bv:=hn1;generalize World.later W0 yn = W1 at *;clear hn1 hn2 hn3 hn4 hn5 yn
                (skip);(first|(refine X_var (fun yn bo hn1 hn2 hn3 hn4 hn5=>?_))|(refine X_s (fun x K hK=>?_);go_simp;refine hK _ _ (Ext.alloc _ _) ?_;clear hK K;refine X_al x ?_;generalize (World.later _ x).heap.size = bo;intro yn hn1 hn2 hn3 hn4 hn5;clear x));have HBbo:=Lib.hid (Blk.new hn5.out);have HEbo:=Lib.hid yn.ext;have hlbo:(World.heap W1).size≤bo:=hn1;generalize World.later W1 yn = W at *;clear hn1 hn2 hn3 hn4 hn5 yn
                have HBX:=Lib.hid ((fbox2 HBbx.out).later (Ext.trans HEbv.out HEbo.out))
                have HBV:=Lib.hid (HBbv.out.later HEbo.out)
                have HE:=Lib.hid (Ext.trans (Ext.trans HEbx.out HEbv.out) HEbo.out)
                have hbb:bx < bv:=by have:=HBbx.out.lt;omega
                have hbb2:bv < bo:=by have:=HBbv.out.lt;omega
                have hE0:=HEbx.out.size
                have hE1:=HEbv.out.size
                have HBO:=HBbo
                clear HBbx HBbo HBbv HEbx HEbo HEbv
                obtain ⟨hlt,d0,d1,d2,d3,d4,d5,d6,d7,d8,d9,d10⟩:=fcells HBX.out
                have hvl:=HBV.out.lt
                have v0:=HBV.out.cell (k:=0) (by simp)
                have v1:=HBV.out.cell (k:=1) (by simp)
                have v2:=HBV.out.cell (k:=2) (by simp)
                have v3:=HBV.out.cell (k:=3) (by simp)
                simp at v0 v1 v2 v3
                repeat' (first|refine X_pure Tryz.func75 (MAY.out _ HE.out) ?_|refine X_gt ?_|refine X_q ?_|refine X_nil ?_|refine W_seqk (fun K hK=>?_)|refine W_seqr ?_|refine W_skip ?_|refine W_block ?_|refine W_tt ?_|refine W_ff ?_|go_step)
                refine X_store (off:=2) HBX.out (fun W1 hM1 hB1=>?_);replace HE:=Lib.hid (Ext.fresh HE.out hM1 (fun k hk=>by subst hk;omega));replace HBO:=Lib.hid (HBO.out.mod hM1 (fun h=>by omega));replace HBX:=Lib.hid hB1;clear hM1 hB1
                replace HBX:=Lib.hid (HBX.out.congr (g':=fenc { s with role:=2 } (.slice A1 s.log.length c1) (.slice A2 s.isr.length c2) (.slice A3 s.counts.length c3)) (all15 ⟨rfl,rfl,rfl,rfl,rfl,rfl,rfl,rfl,rfl,rfl,rfl,rfl,rfl,rfl,rfl⟩))
                clear hlt d0 d1 d2 d3 d4 d5 d6 d7 d8 d9 d10
                clear hvl v0 v1 v2 v3
                repeat' (first|refine X_nil ?_|refine W_seqk (fun K hK=>?_)|refine W_seqr ?_|go_step)
                refine X_fload HBX.out ?_ (hu:=Tryz.underlying33)
                skip
                refine X_store (off:=0) HBO.out (fun W1 hM1 hB1=>?_);replace HE:=Lib.hid (Ext.fresh HE.out hM1 (fun k hk=>by subst hk;omega));replace HBO:=Lib.hid hB1;clear hM1 hB1
                replace HBO:=Lib.hid (fput HBO.out)
                repeat' (first|refine X_q ?_|refine X_nil ?_|refine W_ret ?_|go_step)
                exact Body_retcellv (cs:=RepS.cs ({ s with role:=2 }) _ _ _) hd ⟨HE.out,_,rfl,_,_,_,rfl,⟨(HVR.out.later HE.out).rl,(HVR.out.later HE.out).ri,(HVR.out.later HE.out).rc⟩⟩ HBO.out (fun k hk=>cs_fenc hk) Tryz.underlying33
          · have h5c:s.role = 2:=by have:=HRO.out;omega
            have h5b:(s.role == 2) = true:=by simp [h5c]
            have ha:s.again x = (s,0):=by unfold RepS.again;rw [if_neg h3,if_neg h5]
            rw [ha]
            clear ha h5c
            refine Fn_of Tryz.func36 rfl (Nat.le_of_ble_eq_true rfl) ?_;intro A hd hA;simp only [ix,Nat.reduceAdd];replace hA:A.tmps.size = 92:=hA
            (repeat' (first|refine W_seqk (fun K hK=>?_)|refine W_seqr ?_|fail));(first|(refine X_var (fun yn bx hn1 hn2 hn3 hn4 hn5=>?_))|(refine X_s (fun x K hK=>?_);go_simp;refine hK _ _ (Ext.alloc _ _) ?_;clear hK K;refine X_al x ?_;generalize (World.later _ x).heap.size = bx;intro yn hn1 hn2 hn3 hn4 hn5;clear x));have HBbx:=Lib.hid (Blk.new hn5.out);have HEbx:=Lib.hid yn.ext;have hlbx:(World.heap w).size≤bx:=hn1;generalize World.later w yn = W0 at *;clear hn1 hn2 hn3 hn4 hn5 yn
            (skip);(first|(refine X_var (fun yn bv hn1 hn2 hn3 hn4 hn5=>?_))|(refine X_s (fun x K hK=>?_);go_simp;refine hK _ _ (Ext.alloc _ _) ?_;clear hK K;refine X_al x ?_;generalize (World.later _ x).heap.size = bv;intro yn hn1 hn2 hn3 hn4 hn5;clear x));have HBbv:=Lib.hid (Blk.new hn5.out);have HEbv:=Lib.hid yn.ext;have hlbv:(World.heap W0).size≤bv:=hn1;generalize World.later W0 yn = W1 at *;clear hn1 hn2 hn3 hn4 hn5 yn
            (skip);(first|(refine X_var (fun yn bo hn1 hn2 hn3 hn4 hn5=>?_))|(refine X_s (fun x K hK=>?_);go_simp;refine hK _ _ (Ext.alloc _ _) ?_;clear hK K;refine X_al x ?_;generalize (World.later _ x).heap.size = bo;intro yn hn1 hn2 hn3 hn4 hn5;clear x));have HBbo:=Lib.hid (Blk.new hn5.out);have HEbo:=Lib.hid yn.ext;have hlbo:(World.heap W1).size≤bo:=hn1;generalize World.later W1 yn = W at *;clear hn1 hn2 hn3 hn4 hn5 yn
            have HBX:=Lib.hid ((fbox2 HBbx.out).later (Ext.trans HEbv.out HEbo.out))
            have HBV:=Lib.hid (HBbv.out.later HEbo.out)
            have HE:=Lib.hid (Ext.trans (Ext.trans HEbx.out HEbv.out) HEbo.out)
            have hbb:bx < bv:=by have:=HBbx.out.lt;omega
            have hbb2:bv < bo:=by have:=HBbv.out.lt;omega
            have hE0:=HEbx.out.size
            have hE1:=HEbv.out.size
            have HBO:=HBbo
            clear HBbx HBbo HBbv HEbx HEbo HEbv
            obtain ⟨hlt,d0,d1,d2,d3,d4,d5,d6,d7,d8,d9,d10⟩:=fcells HBX.out
            have hvl:=HBV.out.lt
            have v0:=HBV.out.cell (k:=0) (by simp)
            have v1:=HBV.out.cell (k:=1) (by simp)
            have v2:=HBV.out.cell (k:=2) (by simp)
            have v3:=HBV.out.cell (k:=3) (by simp)
            simp at v0 v1 v2 v3
            repeat' (first|refine X_pure Tryz.func75 (MAY.out _ HE.out) ?_|refine X_q ?_|refine X_nil ?_|refine W_seqk (fun K hK=>?_)|refine W_seqr ?_|refine W_skip ?_|refine W_block ?_|refine W_tt ?_|refine W_ff ?_|go_step)
            refine X_fload HBX.out ?_ (hu:=Tryz.underlying33)
            skip
            refine X_store (off:=0) HBO.out (fun W1 hM1 hB1=>?_);replace HE:=Lib.hid (Ext.fresh HE.out hM1 (fun k hk=>by subst hk;omega));replace HBO:=Lib.hid hB1;clear hM1 hB1
            replace HBO:=Lib.hid (fput HBO.out)
            repeat' (first|refine X_q ?_|refine X_nil ?_|refine W_ret ?_|go_step)
            exact Body_retcellv (cs:=RepS.cs (s) _ _ _) hd ⟨HE.out,_,rfl,_,_,_,rfl,HVR.out.later HE.out⟩ HBO.out (fun k hk=>cs_fenc hk) Tryz.underlying33
      · have h2b:(x.epoch == s.epoch) = false:=beq_false_of_ne h2
        have hl:s.learn x = (if x.leader = -1 then { s.turn x with role:=1 } else if x.leader = s.self then s.lead x else s.turn x,0):=by unfold RepS.learn;rw [if_pos hm,if_neg h1,if_neg h2]
        rw [hl]
        clear hl hm
        by_cases h6:x.leader = -1
        · have h6b:(x.leader == -1) = true:=by simp [h6]
          rw [if_pos h6]
          clear h6
          refine Fn_of Tryz.func36 rfl (Nat.le_of_ble_eq_true rfl) ?_;intro A hd hA;simp only [ix,Nat.reduceAdd];replace hA:A.tmps.size = 92:=hA
          (repeat' (first|refine W_seqk (fun K hK=>?_)|refine W_seqr ?_|fail));(first|(refine X_var (fun yn bx hn1 hn2 hn3 hn4 hn5=>?_))|(refine X_s (fun x K hK=>?_);go_simp;refine hK _ _ (Ext.alloc _ _) ?_;clear hK K;refine X_al x ?_;generalize (World.later _ x).heap.size = bx;intro yn hn1 hn2 hn3 hn4 hn5;clear x));have HBbx:=Lib.hid (Blk.new hn5.out);have HEbx:=Lib.hid yn.ext;have hlbx:(World.heap w).size≤bx:=hn1;generalize World.later w yn = W0 at *;clear hn1 hn2 hn3 hn4 hn5 yn
          (skip);(first|(refine X_var (fun yn bv hn1 hn2 hn3 hn4 hn5=>?_))|(refine X_s (fun x K hK=>?_);go_simp;refine hK _ _ (Ext.alloc _ _) ?_;clear hK K;refine X_al x ?_;generalize (World.later _ x).heap.size = bv;intro yn hn1 hn2 hn3 hn4 hn5;clear x));have HBbv:=Lib.hid (Blk.new hn5.out);have HEbv:=Lib.hid yn.ext;have hlbv:(World.heap W0).size≤bv:=hn1;generalize World.later W0 yn = W1 at *;clear hn1 hn2 hn3 hn4 hn5 yn
          (skip);(first|(refine X_var (fun yn bo hn1 hn2 hn3 hn4 hn5=>?_))|(refine X_s (fun x K hK=>?_);go_simp;refine hK _ _ (Ext.alloc _ _) ?_;clear hK K;refine X_al x ?_;generalize (World.later _ x).heap.size = bo;intro yn hn1 hn2 hn3 hn4 hn5;clear x));have HBbo:=Lib.hid (Blk.new hn5.out);have HEbo:=Lib.hid yn.ext;have hlbo:(World.heap W1).size≤bo:=hn1;generalize World.later W1 yn = W at *;clear hn1 hn2 hn3 hn4 hn5 yn
          have HBX:=Lib.hid ((fbox2 HBbx.out).later (Ext.trans HEbv.out HEbo.out))
          have HBV:=Lib.hid (HBbv.out.later HEbo.out)
          have HE:=Lib.hid (Ext.trans (Ext.trans HEbx.out HEbv.out) HEbo.out)
          have hbb:bx < bv:=by have:=HBbx.out.lt;omega
          have hbb2:bv < bo:=by have:=HBbv.out.lt;omega
          have hE0:=HEbx.out.size
          have hE1:=HEbv.out.size
          have HBO:=HBbo
          clear HBbx HBbo HBbv HEbx HEbo HEbv
          obtain ⟨hlt,d0,d1,d2,d3,d4,d5,d6,d7,d8,d9,d10⟩:=fcells HBX.out
          have hvl:=HBV.out.lt
          have v0:=HBV.out.cell (k:=0) (by simp)
          have v1:=HBV.out.cell (k:=1) (by simp)
          have v2:=HBV.out.cell (k:=2) (by simp)
          have v3:=HBV.out.cell (k:=3) (by simp)
          simp at v0 v1 v2 v3
          repeat' (first|refine X_pure Tryz.func75 (MAY.out _ HE.out) ?_|refine X_q ?_|refine X_nil ?_|refine W_seqk (fun K hK=>?_)|refine W_seqr ?_|refine W_skip ?_|refine W_ff ?_|go_step)
          refine X_fload HBX.out ?_ (hu:=Tryz.underlying33)
          clear hlt d0 d1 d2 d3 d4 d5 d6 d7 d8 d9 d10
          clear hvl v0 v1 v2 v3
          skip
          refine X_ret Tryz.func77 (bare11_calls (HVR.out.later HE.out)) (fun r w1 hR=>?_)
          obtain ⟨hE2,rfl⟩:=hR
          replace HE:=Lib.hid (Ext.trans HE.out hE2)
          replace HBO:=Lib.hid (HBO.out.later hE2)
          replace HBX:=Lib.hid (HBX.out.later hE2)
          replace HBV:=Lib.hid (HBV.out.later hE2)
          clear hE2
          skip
          refine X_store (off:=0) HBX.out (fun W1 hM1 hB1=>?_);replace HE:=Lib.hid (Ext.fresh HE.out hM1 (fun k hk=>by subst hk;omega));replace HBO:=Lib.hid (HBO.out.mod hM1 (fun h=>by omega));replace HBV:=Lib.hid (HBV.out.mod hM1 (fun h=>by omega));replace HBX:=Lib.hid hB1;clear hM1 hB1
          replace HBX:=Lib.hid (fput HBX.out)
          obtain ⟨hlt,d0,d1,d2,d3,d4,d5,d6,d7,d8,d9,d10⟩:=fcells HBX.out
          (try dsimp only [RepS.turn,RepS.bare] at d0 d1 d2 d3 d5 d6 d7 d8)
          have hvl:=HBV.out.lt
          have v0:=HBV.out.cell (k:=0) (by simp)
          have v1:=HBV.out.cell (k:=1) (by simp)
          have v2:=HBV.out.cell (k:=2) (by simp)
          have v3:=HBV.out.cell (k:=3) (by simp)
          simp at v0 v1 v2 v3
          repeat' (first|refine X_q ?_|refine X_nil ?_|refine W_seqk (fun K hK=>?_)|refine W_seqr ?_|go_step)
          refine X_store (off:=3) HBX.out (fun W1 hM1 hB1=>?_);replace HE:=Lib.hid (Ext.fresh HE.out hM1 (fun k hk=>by subst hk;omega));replace HBO:=Lib.hid (HBO.out.mod hM1 (fun h=>by omega));replace HBV:=Lib.hid (HBV.out.mod hM1 (fun h=>by omega));replace HBX:=Lib.hid hB1;clear hM1 hB1
          replace HBX:=Lib.hid (HBX.out.congr (g':=fenc { s.bare with epoch:=x.epoch } (.slice A1 s.log.length c1) (.slice none 0 0) (.slice none 0 0)) (all15 ⟨rfl,rfl,rfl,rfl,rfl,rfl,rfl,rfl,rfl,rfl,rfl,rfl,rfl,rfl,rfl⟩))
          clear hlt d0 d1 d2 d3 d4 d5 d6 d7 d8 d9 d10
          clear hvl v0 v1 v2 v3
          obtain ⟨hlt,d0,d1,d2,d3,d4,d5,d6,d7,d8,d9,d10⟩:=fcells HBX.out
          (try dsimp only [RepS.turn,RepS.bare] at d0 d1 d2 d3 d5 d6 d7 d8)
          have hvl:=HBV.out.lt
          have v0:=HBV.out.cell (k:=0) (by simp)
          have v1:=HBV.out.cell (k:=1) (by simp)
          have v2:=HBV.out.cell (k:=2) (by simp)
          have v3:=HBV.out.cell (k:=3) (by simp)
          simp at v0 v1 v2 v3
          repeat' (first|refine X_q ?_|refine X_nil ?_|refine W_seqk (fun K hK=>?_)|refine W_seqr ?_|refine W_block ?_|refine W_tt ?_|go_step)
          refine X_store (off:=2) HBX.out (fun W1 hM1 hB1=>?_);replace HE:=Lib.hid (Ext.fresh HE.out hM1 (fun k hk=>by subst hk;omega));replace HBO:=Lib.hid (HBO.out.mod hM1 (fun h=>by omega));replace HBV:=Lib.hid (HBV.out.mod hM1 (fun h=>by omega));replace HBX:=Lib.hid hB1;clear hM1 hB1
          replace HBX:=Lib.hid (HBX.out.congr (g':=fenc ({ s.turn x with role:=1 }) (.slice A1 s.log.length c1) (.slice none 0 0) (.slice none 0 0)) (all15 ⟨rfl,rfl,rfl,rfl,rfl,rfl,rfl,rfl,rfl,rfl,rfl,rfl,rfl,rfl,rfl⟩))
          clear hlt d0 d1 d2 d3 d4 d5 d6 d7 d8 d9 d10
          clear hvl v0 v1 v2 v3
          repeat' (first|refine X_nil ?_|refine W_seqk (fun K hK=>?_)|refine W_seqr ?_|go_step)
          refine X_fload HBX.out ?_ (hu:=Tryz.underlying33)
          skip
          refine X_store (off:=0) HBO.out (fun W1 hM1 hB1=>?_);replace HE:=Lib.hid (Ext.fresh HE.out hM1 (fun k hk=>by subst hk;omega));replace HBO:=Lib.hid hB1;clear hM1 hB1
          replace HBO:=Lib.hid (fput HBO.out)
          repeat' (first|refine X_q ?_|refine X_nil ?_|refine W_ret ?_|go_step)
          exact Body_retcellv (cs:=RepS.cs ({ s.turn x with role:=1 }) _ _ _) hd ⟨HE.out,_,rfl,_,_,_,rfl,⟨(HVR.out.later HE.out).rl,RdN.nil _,RdN.nil _⟩⟩ HBO.out (fun k hk=>cs_fenc hk) Tryz.underlying33
        · have h6b:(x.leader == -1) = false:=beq_false_of_ne h6
          by_cases h7:x.leader = s.self
          · have h7b:(x.leader == s.self) = true:=by simp [h7]
            rw [if_neg h6,if_pos h7]
            clear h7
            refine Fn_of Tryz.func36 rfl (Nat.le_of_ble_eq_true rfl) ?_;intro A hd hA;simp only [ix,Nat.reduceAdd];replace hA:A.tmps.size = 92:=hA
            (repeat' (first|refine W_seqk (fun K hK=>?_)|refine W_seqr ?_|fail));(first|(refine X_var (fun yn bx hn1 hn2 hn3 hn4 hn5=>?_))|(refine X_s (fun x K hK=>?_);go_simp;refine hK _ _ (Ext.alloc _ _) ?_;clear hK K;refine X_al x ?_;generalize (World.later _ x).heap.size = bx;intro yn hn1 hn2 hn3 hn4 hn5;clear x));have HBbx:=Lib.hid (Blk.new hn5.out);have HEbx:=Lib.hid yn.ext;have hlbx:(World.heap w).size≤bx:=hn1;generalize World.later w yn = W0 at *;clear hn1 hn2 hn3 hn4 hn5 yn
            (skip);(first|(refine X_var (fun yn bv hn1 hn2 hn3 hn4 hn5=>?_))|(refine X_s (fun x K hK=>?_);go_simp;refine hK _ _ (Ext.alloc _ _) ?_;clear hK K;refine X_al x ?_;generalize (World.later _ x).heap.size = bv;intro yn hn1 hn2 hn3 hn4 hn5;clear x));have HBbv:=Lib.hid (Blk.new hn5.out);have HEbv:=Lib.hid yn.ext;have hlbv:(World.heap W0).size≤bv:=hn1;generalize World.later W0 yn = W1 at *;clear hn1 hn2 hn3 hn4 hn5 yn
            (skip);(first|(refine X_var (fun yn bo hn1 hn2 hn3 hn4 hn5=>?_))|(refine X_s (fun x K hK=>?_);go_simp;refine hK _ _ (Ext.alloc _ _) ?_;clear hK K;refine X_al x ?_;generalize (World.later _ x).heap.size = bo;intro yn hn1 hn2 hn3 hn4 hn5;clear x));have HBbo:=Lib.hid (Blk.new hn5.out);have HEbo:=Lib.hid yn.ext;have hlbo:(World.heap W1).size≤bo:=hn1;generalize World.later W1 yn = W at *;clear hn1 hn2 hn3 hn4 hn5 yn
            have HBX:=Lib.hid ((fbox2 HBbx.out).later (Ext.trans HEbv.out HEbo.out))
            have HBV:=Lib.hid (HBbv.out.later HEbo.out)
            have HE:=Lib.hid (Ext.trans (Ext.trans HEbx.out HEbv.out) HEbo.out)
            have hbb:bx < bv:=by have:=HBbx.out.lt;omega
            have hbb2:bv < bo:=by have:=HBbv.out.lt;omega
            have hE0:=HEbx.out.size
            have hE1:=HEbv.out.size
            have HBO:=HBbo
            clear HBbx HBbo HBbv HEbx HEbo HEbv
            obtain ⟨hlt,d0,d1,d2,d3,d4,d5,d6,d7,d8,d9,d10⟩:=fcells HBX.out
            have hvl:=HBV.out.lt
            have v0:=HBV.out.cell (k:=0) (by simp)
            have v1:=HBV.out.cell (k:=1) (by simp)
            have v2:=HBV.out.cell (k:=2) (by simp)
            have v3:=HBV.out.cell (k:=3) (by simp)
            simp at v0 v1 v2 v3
            repeat' (first|refine X_pure Tryz.func75 (MAY.out _ HE.out) ?_|refine X_q ?_|refine X_nil ?_|refine W_seqk (fun K hK=>?_)|refine W_seqr ?_|refine W_skip ?_|refine W_ff ?_|go_step)
            refine X_fload HBX.out ?_ (hu:=Tryz.underlying33)
            clear hlt d0 d1 d2 d3 d4 d5 d6 d7 d8 d9 d10
            clear hvl v0 v1 v2 v3
            skip
            refine X_ret Tryz.func77 (bare11_calls (HVR.out.later HE.out)) (fun r w1 hR=>?_)
            obtain ⟨hE2,rfl⟩:=hR
            replace HE:=Lib.hid (Ext.trans HE.out hE2)
            replace HBO:=Lib.hid (HBO.out.later hE2)
            replace HBX:=Lib.hid (HBX.out.later hE2)
            replace HBV:=Lib.hid (HBV.out.later hE2)
            clear hE2
            skip
            refine X_store (off:=0) HBX.out (fun W1 hM1 hB1=>?_);replace HE:=Lib.hid (Ext.fresh HE.out hM1 (fun k hk=>by subst hk;omega));replace HBO:=Lib.hid (HBO.out.mod hM1 (fun h=>by omega));replace HBV:=Lib.hid (HBV.out.mod hM1 (fun h=>by omega));replace HBX:=Lib.hid hB1;clear hM1 hB1
            replace HBX:=Lib.hid (fput HBX.out)
            obtain ⟨hlt,d0,d1,d2,d3,d4,d5,d6,d7,d8,d9,d10⟩:=fcells HBX.out
            (try dsimp only [RepS.turn,RepS.bare] at d0 d1 d2 d3 d5 d6 d7 d8)
            have hvl:=HBV.out.lt
            have v0:=HBV.out.cell (k:=0) (by simp)
            have v1:=HBV.out.cell (k:=1) (by simp)
            have v2:=HBV.out.cell (k:=2) (by simp)
            have v3:=HBV.out.cell (k:=3) (by simp)
            simp at v0 v1 v2 v3
            repeat' (first|refine X_q ?_|refine X_nil ?_|refine W_seqk (fun K hK=>?_)|refine W_seqr ?_|go_step)
            refine X_store (off:=3) HBX.out (fun W1 hM1 hB1=>?_);replace HE:=Lib.hid (Ext.fresh HE.out hM1 (fun k hk=>by subst hk;omega));replace HBO:=Lib.hid (HBO.out.mod hM1 (fun h=>by omega));replace HBV:=Lib.hid (HBV.out.mod hM1 (fun h=>by omega));replace HBX:=Lib.hid hB1;clear hM1 hB1
            replace HBX:=Lib.hid (HBX.out.congr (g':=fenc { s.bare with epoch:=x.epoch } (.slice A1 s.log.length c1) (.slice none 0 0) (.slice none 0 0)) (all15 ⟨rfl,rfl,rfl,rfl,rfl,rfl,rfl,rfl,rfl,rfl,rfl,rfl,rfl,rfl,rfl⟩))
            clear hlt d0 d1 d2 d3 d4 d5 d6 d7 d8 d9 d10
            clear hvl v0 v1 v2 v3
            obtain ⟨hlt,d0,d1,d2,d3,d4,d5,d6,d7,d8,d9,d10⟩:=fcells HBX.out
            (try dsimp only [RepS.turn,RepS.bare] at d0 d1 d2 d3 d5 d6 d7 d8)
            have hvl:=HBV.out.lt
            have v0:=HBV.out.cell (k:=0) (by simp)
            have v1:=HBV.out.cell (k:=1) (by simp)
            have v2:=HBV.out.cell (k:=2) (by simp)
            have v3:=HBV.out.cell (k:=3) (by simp)
            simp at v0 v1 v2 v3
            repeat' (first|refine X_q ?_|refine X_nil ?_|refine W_seqk (fun K hK=>?_)|refine W_seqr ?_|refine W_block ?_|refine W_tt ?_|refine W_ff ?_|go_step)
            obtain ⟨G,hG⟩:∃ G:Nat→Prop,G = (fun k=>k = bx):=⟨_,rfl⟩;have HGo:Hid (G bx):=Lib.hid (by subst hG;rfl);have hGbv:¬ G bv:=(by subst hG;show ¬ bv = bx;omega);clear hG
            refine W_drawG G [(0,0),(1,0),(2,0),(3,0),(4,0),(5,0),(6,0),(7,3),(8,0),(9,0),(10,2),(11,0),(12,2),(13,0),(14,2),(15,0),(16,2),(17,0),(18,2)] (by kernel_rfl) (by kernel_rfl) ?_
            repeat' (first|refine Y_q ?_|refine Y_r ?_|fail)
            refine Y_store (off:=2) HBX.out HGo.out (fun W1 hM1 hG1 hB1=>?_);replace HE:=Lib.hid (Ext.fresh HE.out hM1 (fun k hk=>by subst hk;omega));replace HBO:=Lib.hid (HBO.out.mod hM1 (fun h=>by omega));replace HBV:=Lib.hid (HBV.out.mod hM1 (fun h=>by omega));replace HBX:=Lib.hid hB1;clear hM1 hB1 hG1
            repeat' (first|refine Y_q ?_|fail)
            refine Y_store (off:=7) HBX.out HGo.out (fun W1 hM1 hG1 hB1=>?_);replace HE:=Lib.hid (Ext.fresh HE.out hM1 (fun k hk=>by subst hk;omega));replace HBO:=Lib.hid (HBO.out.mod hM1 (fun h=>by omega));replace HBV:=Lib.hid (HBV.out.mod hM1 (fun h=>by omega));replace HBX:=Lib.hid hB1;clear hM1 hB1 hG1
            repeat' (first|refine Y_q ?_|fail)
            refine Y_store (off:=9) HBX.out HGo.out (fun W1 hM1 hG1 hB1=>?_);replace HE:=Lib.hid (Ext.fresh HE.out hM1 (fun k hk=>by subst hk;omega));replace HBO:=Lib.hid (HBO.out.mod hM1 (fun h=>by omega));replace HBV:=Lib.hid (HBV.out.mod hM1 (fun h=>by omega));replace HBX:=Lib.hid hB1;clear hM1 hB1 hG1
            repeat' (first|refine Y_q ?_|fail)
            refine Y_store (off:=10) HBX.out HGo.out (fun W1 hM1 hG1 hB1=>?_);replace HE:=Lib.hid (Ext.fresh HE.out hM1 (fun k hk=>by subst hk;omega));replace HBO:=Lib.hid (HBO.out.mod hM1 (fun h=>by omega));replace HBV:=Lib.hid (HBV.out.mod hM1 (fun h=>by omega));replace HBX:=Lib.hid hB1;clear hM1 hB1 hG1
            repeat' (first|refine Y_q ?_|fail)
            refine Y_store (off:=8) HBX.out HGo.out (fun W1 hM1 hG1 hB1=>?_);replace HE:=Lib.hid (Ext.fresh HE.out hM1 (fun k hk=>by subst hk;omega));replace HBO:=Lib.hid (HBO.out.mod hM1 (fun h=>by omega));replace HBV:=Lib.hid (HBV.out.mod hM1 (fun h=>by omega));replace HBX:=Lib.hid hB1;clear hM1 hB1 hG1
            repeat' (first|refine Y_nil ?_)
            repeat' (first|refine X_q ?_|refine W_seqk (fun K hK=>?_)|refine W_seqr ?_|go_step)
            refine X_store (off:=11) HBX.out (fun W1 hM1 hB1=>?_);replace HE:=Lib.hid (Ext.fresh HE.out hM1 (fun k hk=>by subst hk;omega));replace HBO:=Lib.hid (HBO.out.mod hM1 (fun h=>by omega));replace HBV:=Lib.hid (HBV.out.mod hM1 (fun h=>by omega));replace HBX:=Lib.hid hB1;clear hM1 hB1
            replace HBX:=Lib.hid (HBX.out.congr (g':=fenc { ((({ s.turn x with role:=3 }):RepS).steps x) with beg:=s.log.length,known:=fun _=>-1 } (.slice A1 s.log.length c1) (.slice A4 x.isr.length c4) (.slice A4 x.isr.length c4)) (all15 ⟨rfl,rfl,rfl,rfl,rfl,rfl,rfl,rfl,rfl,rfl,rfl,rfl,rfl,rfl,rfl⟩))
            clear hlt d0 d1 d2 d3 d4 d5 d6 d7 d8 d9 d10
            clear hvl v0 v1 v2 v3
            repeat' (first|refine X_nil ?_|refine W_seqr ?_|go_step)
            refine X_fload HBX.out ?_ (hu:=Tryz.underlying33)
            skip
            refine X_ret Tryz.func76 (count11_calls (s:={ ((({ s.turn x with role:=3 }):RepS).steps x) with beg:=s.log.length,known:=fun _=>-1 }) (uL:=(.slice A1 s.log.length c1)) (uI:=.slice A4 x.isr.length c4) (uC:=.slice A4 x.isr.length c4) ⟨(HVR.out.later HE.out).rl,HU.out.later HE.out,HU.out.later HE.out⟩ (brokersB_bks HBB.out)) (fun r w1 hR=>?_)
            obtain ⟨hE2,rfl⟩:=hR
            replace HE:=Lib.hid (Ext.trans HE.out hE2)
            replace HBO:=Lib.hid (HBO.out.later hE2)
            replace HBX:=Lib.hid (HBX.out.later hE2)
            clear hE2
            skip
            refine X_store (off:=0) HBX.out (fun W1 hM1 hB1=>?_);replace HE:=Lib.hid (Ext.fresh HE.out hM1 (fun k hk=>by subst hk;omega));replace HBO:=Lib.hid (HBO.out.mod hM1 (fun h=>by omega));replace HBX:=Lib.hid hB1;clear hM1 hB1
            replace HBX:=Lib.hid (fput HBX.out)
            repeat' (first|refine X_nil ?_|refine W_seqk (fun K hK=>?_)|refine W_seqr ?_|go_step)
            refine X_fload HBX.out ?_ (hu:=Tryz.underlying33)
            skip
            refine X_store (off:=0) HBO.out (fun W1 hM1 hB1=>?_);replace HE:=Lib.hid (Ext.fresh HE.out hM1 (fun k hk=>by subst hk;omega));replace HBO:=Lib.hid hB1;clear hM1 hB1
            replace HBO:=Lib.hid (fput HBO.out)
            repeat' (first|refine X_q ?_|refine X_nil ?_|refine W_ret ?_|go_step)
            exact Body_retcellv (cs:=RepS.cs (s.lead x) _ _ _) hd ⟨HE.out,_,rfl,_,_,_,rfl,VR.count ⟨(HVR.out.later HE.out).rl,HU.out.later HE.out,HU.out.later HE.out⟩⟩ HBO.out (fun k hk=>cs_fenc hk) Tryz.underlying33
          · have h7b:(x.leader == s.self) = false:=beq_false_of_ne h7
            rw [if_neg h6,if_neg h7]
            refine Fn_of Tryz.func36 rfl (Nat.le_of_ble_eq_true rfl) ?_;intro A hd hA;simp only [ix,Nat.reduceAdd];replace hA:A.tmps.size = 92:=hA
            (repeat' (first|refine W_seqk (fun K hK=>?_)|refine W_seqr ?_|fail));(first|(refine X_var (fun yn bx hn1 hn2 hn3 hn4 hn5=>?_))|(refine X_s (fun x K hK=>?_);go_simp;refine hK _ _ (Ext.alloc _ _) ?_;clear hK K;refine X_al x ?_;generalize (World.later _ x).heap.size = bx;intro yn hn1 hn2 hn3 hn4 hn5;clear x));have HBbx:=Lib.hid (Blk.new hn5.out);have HEbx:=Lib.hid yn.ext;have hlbx:(World.heap w).size≤bx:=hn1;generalize World.later w yn = W0 at *;clear hn1 hn2 hn3 hn4 hn5 yn
            (skip);(first|(refine X_var (fun yn bv hn1 hn2 hn3 hn4 hn5=>?_))|(refine X_s (fun x K hK=>?_);go_simp;refine hK _ _ (Ext.alloc _ _) ?_;clear hK K;refine X_al x ?_;generalize (World.later _ x).heap.size = bv;intro yn hn1 hn2 hn3 hn4 hn5;clear x));have HBbv:=Lib.hid (Blk.new hn5.out);have HEbv:=Lib.hid yn.ext;have hlbv:(World.heap W0).size≤bv:=hn1;generalize World.later W0 yn = W1 at *;clear hn1 hn2 hn3 hn4 hn5 yn
            (skip);(first|(refine X_var (fun yn bo hn1 hn2 hn3 hn4 hn5=>?_))|(refine X_s (fun x K hK=>?_);go_simp;refine hK _ _ (Ext.alloc _ _) ?_;clear hK K;refine X_al x ?_;generalize (World.later _ x).heap.size = bo;intro yn hn1 hn2 hn3 hn4 hn5;clear x));have HBbo:=Lib.hid (Blk.new hn5.out);have HEbo:=Lib.hid yn.ext;have hlbo:(World.heap W1).size≤bo:=hn1;generalize World.later W1 yn = W at *;clear hn1 hn2 hn3 hn4 hn5 yn
            have HBX:=Lib.hid ((fbox2 HBbx.out).later (Ext.trans HEbv.out HEbo.out))
            have HBV:=Lib.hid (HBbv.out.later HEbo.out)
            have HE:=Lib.hid (Ext.trans (Ext.trans HEbx.out HEbv.out) HEbo.out)
            have hbb:bx < bv:=by have:=HBbx.out.lt;omega
            have hbb2:bv < bo:=by have:=HBbv.out.lt;omega
            have hE0:=HEbx.out.size
            have hE1:=HEbv.out.size
            have HBO:=HBbo
            clear HBbx HBbo HBbv HEbx HEbo HEbv
            obtain ⟨hlt,d0,d1,d2,d3,d4,d5,d6,d7,d8,d9,d10⟩:=fcells HBX.out
            have hvl:=HBV.out.lt
            have v0:=HBV.out.cell (k:=0) (by simp)
            have v1:=HBV.out.cell (k:=1) (by simp)
            have v2:=HBV.out.cell (k:=2) (by simp)
            have v3:=HBV.out.cell (k:=3) (by simp)
            simp at v0 v1 v2 v3
            repeat' (first|refine X_pure Tryz.func75 (MAY.out _ HE.out) ?_|refine X_q ?_|refine X_nil ?_|refine W_seqk (fun K hK=>?_)|refine W_seqr ?_|refine W_skip ?_|refine W_ff ?_|go_step)
            refine X_fload HBX.out ?_ (hu:=Tryz.underlying33)
            clear hlt d0 d1 d2 d3 d4 d5 d6 d7 d8 d9 d10
            clear hvl v0 v1 v2 v3
            skip
            refine X_ret Tryz.func77 (bare11_calls (HVR.out.later HE.out)) (fun r w1 hR=>?_)
            obtain ⟨hE2,rfl⟩:=hR
            replace HE:=Lib.hid (Ext.trans HE.out hE2)
            replace HBO:=Lib.hid (HBO.out.later hE2)
            replace HBX:=Lib.hid (HBX.out.later hE2)
            replace HBV:=Lib.hid (HBV.out.later hE2)
            clear hE2
            skip
            refine X_store (off:=0) HBX.out (fun W1 hM1 hB1=>?_);replace HE:=Lib.hid (Ext.fresh HE.out hM1 (fun k hk=>by subst hk;omega));replace HBO:=Lib.hid (HBO.out.mod hM1 (fun h=>by omega));replace HBV:=Lib.hid (HBV.out.mod hM1 (fun h=>by omega));replace HBX:=Lib.hid hB1;clear hM1 hB1
            replace HBX:=Lib.hid (fput HBX.out)
            obtain ⟨hlt,d0,d1,d2,d3,d4,d5,d6,d7,d8,d9,d10⟩:=fcells HBX.out
            (try dsimp only [RepS.turn,RepS.bare] at d0 d1 d2 d3 d5 d6 d7 d8)
            have hvl:=HBV.out.lt
            have v0:=HBV.out.cell (k:=0) (by simp)
            have v1:=HBV.out.cell (k:=1) (by simp)
            have v2:=HBV.out.cell (k:=2) (by simp)
            have v3:=HBV.out.cell (k:=3) (by simp)
            simp at v0 v1 v2 v3
            repeat' (first|refine X_q ?_|refine X_nil ?_|refine W_seqk (fun K hK=>?_)|refine W_seqr ?_|go_step)
            refine X_store (off:=3) HBX.out (fun W1 hM1 hB1=>?_);replace HE:=Lib.hid (Ext.fresh HE.out hM1 (fun k hk=>by subst hk;omega));replace HBO:=Lib.hid (HBO.out.mod hM1 (fun h=>by omega));replace HBV:=Lib.hid (HBV.out.mod hM1 (fun h=>by omega));replace HBX:=Lib.hid hB1;clear hM1 hB1
            replace HBX:=Lib.hid (HBX.out.congr (g':=fenc { s.bare with epoch:=x.epoch } (.slice A1 s.log.length c1) (.slice none 0 0) (.slice none 0 0)) (all15 ⟨rfl,rfl,rfl,rfl,rfl,rfl,rfl,rfl,rfl,rfl,rfl,rfl,rfl,rfl,rfl⟩))
            clear hlt d0 d1 d2 d3 d4 d5 d6 d7 d8 d9 d10
            clear hvl v0 v1 v2 v3
            obtain ⟨hlt,d0,d1,d2,d3,d4,d5,d6,d7,d8,d9,d10⟩:=fcells HBX.out
            (try dsimp only [RepS.turn,RepS.bare] at d0 d1 d2 d3 d5 d6 d7 d8)
            have hvl:=HBV.out.lt
            have v0:=HBV.out.cell (k:=0) (by simp)
            have v1:=HBV.out.cell (k:=1) (by simp)
            have v2:=HBV.out.cell (k:=2) (by simp)
            have v3:=HBV.out.cell (k:=3) (by simp)
            simp at v0 v1 v2 v3
            repeat' (first|refine X_q ?_|refine X_nil ?_|refine W_seqk (fun K hK=>?_)|refine W_seqr ?_|refine W_block ?_|refine W_ff ?_|go_step)
            refine X_store (off:=2) HBX.out (fun W1 hM1 hB1=>?_);replace HE:=Lib.hid (Ext.fresh HE.out hM1 (fun k hk=>by subst hk;omega));replace HBO:=Lib.hid (HBO.out.mod hM1 (fun h=>by omega));replace HBV:=Lib.hid (HBV.out.mod hM1 (fun h=>by omega));replace HBX:=Lib.hid hB1;clear hM1 hB1
            replace HBX:=Lib.hid (HBX.out.congr (g':=fenc (s.turn x) (.slice A1 s.log.length c1) (.slice none 0 0) (.slice none 0 0)) (all15 ⟨rfl,rfl,rfl,rfl,rfl,rfl,rfl,rfl,rfl,rfl,rfl,rfl,rfl,rfl,rfl⟩))
            clear hlt d0 d1 d2 d3 d4 d5 d6 d7 d8 d9 d10
            clear hvl v0 v1 v2 v3
            repeat' (first|refine X_nil ?_|refine W_seqk (fun K hK=>?_)|refine W_seqr ?_|go_step)
            refine X_fload HBX.out ?_ (hu:=Tryz.underlying33)
            skip
            refine X_store (off:=0) HBO.out (fun W1 hM1 hB1=>?_);replace HE:=Lib.hid (Ext.fresh HE.out hM1 (fun k hk=>by subst hk;omega));replace HBO:=Lib.hid hB1;clear hM1 hB1
            replace HBO:=Lib.hid (fput HBO.out)
            repeat' (first|refine X_q ?_|refine X_nil ?_|refine W_ret ?_|go_step)
            exact Body_retcellv (cs:=RepS.cs (s.turn x) _ _ _) hd ⟨HE.out,_,rfl,_,_,_,rfl,⟨(HVR.out.later HE.out).rl,RdN.nil _,RdN.nil _⟩⟩ HBO.out (fun k hk=>cs_fenc hk) Tryz.underlying33
  · have hm':x.may = false:=by simpa using hm
    have hl:s.learn x = (s,2):=by unfold RepS.learn;rw [if_neg hm]
    rw [hl]
    rw [hm'] at MAY
    clear hl
    refine Fn_of Tryz.func36 rfl (Nat.le_of_ble_eq_true rfl) ?_;intro A hd hA;simp only [ix,Nat.reduceAdd];replace hA:A.tmps.size = 92:=hA
    (repeat' (first|refine W_seqk (fun K hK=>?_)|refine W_seqr ?_|fail));(first|(refine X_var (fun yn bx hn1 hn2 hn3 hn4 hn5=>?_))|(refine X_s (fun x K hK=>?_);go_simp;refine hK _ _ (Ext.alloc _ _) ?_;clear hK K;refine X_al x ?_;generalize (World.later _ x).heap.size = bx;intro yn hn1 hn2 hn3 hn4 hn5;clear x));have HBbx:=Lib.hid (Blk.new hn5.out);have HEbx:=Lib.hid yn.ext;have hlbx:(World.heap w).size≤bx:=hn1;generalize World.later w yn = W0 at *;clear hn1 hn2 hn3 hn4 hn5 yn
    (skip);(first|(refine X_var (fun yn bv hn1 hn2 hn3 hn4 hn5=>?_))|(refine X_s (fun x K hK=>?_);go_simp;refine hK _ _ (Ext.alloc _ _) ?_;clear hK K;refine X_al x ?_;generalize (World.later _ x).heap.size = bv;intro yn hn1 hn2 hn3 hn4 hn5;clear x));have HBbv:=Lib.hid (Blk.new hn5.out);have HEbv:=Lib.hid yn.ext;have hlbv:(World.heap W0).size≤bv:=hn1;generalize World.later W0 yn = W1 at *;clear hn1 hn2 hn3 hn4 hn5 yn
    (skip);(first|(refine X_var (fun yn bo hn1 hn2 hn3 hn4 hn5=>?_))|(refine X_s (fun x K hK=>?_);go_simp;refine hK _ _ (Ext.alloc _ _) ?_;clear hK K;refine X_al x ?_;generalize (World.later _ x).heap.size = bo;intro yn hn1 hn2 hn3 hn4 hn5;clear x));have HBbo:=Lib.hid (Blk.new hn5.out);have HEbo:=Lib.hid yn.ext;have hlbo:(World.heap W1).size≤bo:=hn1;generalize World.later W1 yn = W at *;clear hn1 hn2 hn3 hn4 hn5 yn
    have HBX:=Lib.hid ((fbox2 HBbx.out).later (Ext.trans HEbv.out HEbo.out))
    have HBV:=Lib.hid (HBbv.out.later HEbo.out)
    have HE:=Lib.hid (Ext.trans (Ext.trans HEbx.out HEbv.out) HEbo.out)
    have hbb:bx < bv:=by have:=HBbx.out.lt;omega
    have hbb2:bv < bo:=by have:=HBbv.out.lt;omega
    have hE0:=HEbx.out.size
    have hE1:=HEbv.out.size
    have HBO:=HBbo
    clear HBbx HBbo HBbv HEbx HEbo HEbv
    obtain ⟨hlt,d0,d1,d2,d3,d4,d5,d6,d7,d8,d9,d10⟩:=fcells HBX.out
    have hvl:=HBV.out.lt
    have v0:=HBV.out.cell (k:=0) (by simp)
    have v1:=HBV.out.cell (k:=1) (by simp)
    have v2:=HBV.out.cell (k:=2) (by simp)
    have v3:=HBV.out.cell (k:=3) (by simp)
    simp at v0 v1 v2 v3
    repeat' (first|refine X_pure Tryz.func75 (MAY.out _ HE.out) ?_|refine X_q ?_|refine X_nil ?_|refine W_seqk (fun K hK=>?_)|refine W_seqr ?_|refine W_tt ?_|go_step)
    refine X_fload HBX.out ?_ (hu:=Tryz.underlying33)
    skip
    refine X_store (off:=0) HBO.out (fun W1 hM1 hB1=>?_);replace HE:=Lib.hid (Ext.fresh HE.out hM1 (fun k hk=>by subst hk;omega));replace HBO:=Lib.hid hB1;clear hM1 hB1
    replace HBO:=Lib.hid (fput HBO.out)
    repeat' (first|refine X_q ?_|refine X_nil ?_|refine W_ret ?_|go_step)
    exact Body_retcellv (cs:=RepS.cs (s) _ _ _) hd ⟨HE.out,_,rfl,_,_,_,rfl,HVR.out.later HE.out⟩ HBO.out (fun k hk=>cs_fenc hk) Tryz.underlying33
end Go.Ws
