/- Lemmas for the statements of this layer (joined texts); no condition. -/
import Derived.Test.YtlpjgegbdmkmdaaGreatBb12
import Derived.Test.YtlpjgegbdmkmdaaGreatBb15
import Derived.Test.YtlpjgegbdmkmdaaGreatBb16
import Derived.Test.YtlpjgegbdmkmdaaGreatBb20
import Derived.Test.YtlpjgegbdmkmdaaGreatBb23
namespace Go.Ws
open Go Go.RowKit Go.Proofs
set_option maxHeartbeats 2000000
set_option maxRecDepth 100000
set_option linter.unusedVariables false
set_option linter.unusedSimpArgs false
theorem fputK {W:World} {b:Nat} {E:TypeId} {s:RepS} {uL uI uC:Value} {i:Nat} {x:Int} (hi:i < 4) (h:Blk W b E 15 (put (fenc s uL uI uC) (11 + i) [.int .i64 x])):Blk W b E 15 (fenc { s with known:=setK s.known i x } uL uI uC):=by
  obtain rfl|rfl|rfl|rfl:i = 0∨i = 1∨i = 2∨i = 3:=by omega
  all_goals exact h.congr (all15 ⟨rfl,rfl,rfl,rfl,rfl,rfl,rfl,rfl,rfl,rfl,rfl,rfl,rfl,rfl,rfl⟩)
theorem serveNo_ok {s:RepS} {f:Fetch} {most:Int} (h:s.serveNo f most = 0):(0≤f.src∧f.src < 4∧f.src ≠ s.self∧0≤f.epoch∧0≤f.offset∧0≤f.last∧0≤f.flushed∧f.flushed≤f.offset∧0≤most)∧s.role = 3∧f.epoch = s.epoch:=by
  unfold RepS.serveNo at h
  by_cases h1:s.fetchMay f most = false
  · rw [if_pos h1] at h;cases h
  · rw [if_neg h1] at h
    by_cases h2:s.role ≠ 3
    · rw [if_pos h2] at h;cases h
    · rw [if_neg h2] at h
      by_cases h3:f.epoch ≠ s.epoch
      · rw [if_pos h3] at h;cases h
      · simp [RepS.fetchMay,inB] at h1
        refine ⟨by omega,by omega,by omega⟩
theorem serve11_cut {N:Nat→Prop} {w:World} {uL uI uC:Value} {s:RepS} (h:VR N w uL uI uC s) (f:Fetch) (most:Int) (hno:s.serveNo f most = 0) (hm:mayE s.log = true) (hfit:fitsE s.log f.offset f.last = false):Ret Tryz.prog 40 #[s.v uL uI uC,f.v,.int .i64 most] w fun r w'=>Ext w w'∧∃ v' u,r = .tuple #[v',(s.reply f most).v u,.int .i64 0]∧FV N w' v' (s.serve f most)∧RdEN N w' u (s.reply f most).entries:=by
  have HVR:=Lib.hid h
  obtain ⟨A1,c1,rfl,-⟩:=h.rl.rd.ent
  obtain ⟨A2,c2,rfl,-⟩:=h.ri.rd.int
  obtain ⟨A3,c3,rfl,-⟩:=h.rc.rd.int
  clear h
  have hrep:s.reply f most = ⟨s.epoch,f.offset,f.last,true,lastE (s.log.take (aboveE s.log f.last)),aboveE s.log f.last,[],s.high⟩:=by unfold RepS.reply;rw [if_neg (by simp [hno]),if_neg (by simp [hfit])]
  have hsrv:s.serve f most = s:=by unfold RepS.serve;rw [if_neg (by simp [hno]),if_neg (by simp [hfit])]
  rw [hrep,hsrv]
  clear hrep hsrv
  obtain ⟨⟨d0,d1,c2,d3,d4,d5,d6,d7,d8⟩,q2,q3⟩:=serveNo_ok hno
  have n0:¬ f.src < 0:=by omega
  have n1:¬ 3 < f.src:=by omega
  have c2b:(f.src == s.self) = false:=beq_false_of_ne c2
  have n3:¬ f.epoch < 0:=by omega
  have n4:¬ f.offset < 0:=by omega
  have n5:¬ f.last < 0:=by omega
  have n6:¬ f.flushed < 0:=by omega
  have n7:¬ f.offset < f.flushed:=by omega
  have n8:¬ most < 0:=by omega
  have q2b:(s.role != 3) = false:=by simp [q2]
  have q3b:(f.epoch != s.epoch) = false:=by simp [q3]
  have HNO:=Lib.hid hno
  have HR3:=Lib.hid q2
  clear hno d0 d1 c2 d3 d4 d6 d7 d8 q2 q3
  have FITS:Hid (∀ W,Ext w W→Pure Tryz.prog 80 #[.slice A1 s.log.length c1,.int .i64 f.offset,.int .i64 f.last] W (.bool false)):=Lib.hid (fun W hE=>hfit▸fits7_calls _ _ _ _ W (HVR.out.later hE).rl.rd (by omega))
  have ENDS:Hid (∀ W,Ext w W→Pure Tryz.prog 81 #[.slice A1 s.log.length c1,.int .i64 f.last] W (.tuple #[.int .i64 (lastE (s.log.take (aboveE s.log f.last))),.int .i64 (aboveE s.log f.last)])):=Lib.hid (fun W hE=>end7_calls _ _ _ W (HVR.out.later hE).rl.rd hm)
  clear hfit
  refine Fn_of Tryz.func40 rfl (Nat.le_of_ble_eq_true rfl) ?_;intro A hd hA;simp only [ix,Nat.reduceAdd];replace hA:A.tmps.size = 147:=hA
  (repeat' (first|refine W_seqk (fun K hK=>?_)|refine W_seqr ?_|fail));(first|(refine X_var (fun yn bx hn1 hn2 hn3 hn4 hn5=>?_))|(refine X_s (fun x K hK=>?_);go_simp;refine hK _ _ (Ext.alloc _ _) ?_;clear hK K;refine X_al x ?_;generalize (World.later _ x).heap.size = bx;intro yn hn1 hn2 hn3 hn4 hn5;clear x));have HBbx:=Lib.hid (Blk.new hn5.out);have HEbx:=Lib.hid yn.ext;have hlbx:(World.heap w).size≤bx:=hn1;generalize World.later w yn = W0 at *;clear hn1 hn2 hn3 hn4 hn5 yn
  (skip);(first|(refine X_var (fun yn bf hn1 hn2 hn3 hn4 hn5=>?_))|(refine X_s (fun x K hK=>?_);go_simp;refine hK _ _ (Ext.alloc _ _) ?_;clear hK K;refine X_al x ?_;generalize (World.later _ x).heap.size = bf;intro yn hn1 hn2 hn3 hn4 hn5;clear x));have HBbf:=Lib.hid (Blk.new hn5.out);have HEbf:=Lib.hid yn.ext;have hlbf:(World.heap W0).size≤bf:=hn1;generalize World.later W0 yn = W1 at *;clear hn1 hn2 hn3 hn4 hn5 yn
  (skip);(first|(refine X_var (fun yn bo hn1 hn2 hn3 hn4 hn5=>?_))|(refine X_s (fun x K hK=>?_);go_simp;refine hK _ _ (Ext.alloc _ _) ?_;clear hK K;refine X_al x ?_;generalize (World.later _ x).heap.size = bo;intro yn hn1 hn2 hn3 hn4 hn5;clear x));have HBbo:=Lib.hid (Blk.new hn5.out);have HEbo:=Lib.hid yn.ext;have hlbo:(World.heap W1).size≤bo:=hn1;generalize World.later W1 yn = W2 at *;clear hn1 hn2 hn3 hn4 hn5 yn
  (skip);(first|(refine X_var (fun yn bp hn1 hn2 hn3 hn4 hn5=>?_))|(refine X_s (fun x K hK=>?_);go_simp;refine hK _ _ (Ext.alloc _ _) ?_;clear hK K;refine X_al x ?_;generalize (World.later _ x).heap.size = bp;intro yn hn1 hn2 hn3 hn4 hn5;clear x));have HBbp:=Lib.hid (Blk.new hn5.out);have HEbp:=Lib.hid yn.ext;have hlbp:(World.heap W2).size≤bp:=hn1;generalize World.later W2 yn = W at *;clear hn1 hn2 hn3 hn4 hn5 yn
  have HBX:=Lib.hid ((fbox2 HBbx.out).later (Ext.trans (Ext.trans HEbf.out HEbo.out) HEbp.out))
  have HBF:=Lib.hid (HBbf.out.later (Ext.trans HEbo.out HEbp.out))
  have HBO:=Lib.hid (HBbo.out.later HEbp.out)
  have HE:=Lib.hid (Ext.trans (Ext.trans (Ext.trans HEbx.out HEbf.out) HEbo.out) HEbp.out)
  have HBP:=HBbp
  have hbb:bx < bf:=by have:=HBbx.out.lt;omega
  have hbb2:bf < bo:=by have:=HBbf.out.lt;omega
  have hbb3:bo < bp:=by have:=HBbo.out.lt;omega
  have hE0:=HEbx.out.size
  have hE1:=HEbf.out.size
  have hE2:=HEbo.out.size
  clear HBbx HBbo HBbf HBbp HEbx HEbo HEbf HEbp
  obtain ⟨hlt,d0,d1,d2,d3,d4,d5,d6,d7,d8,d9,d10⟩:=fcells HBX.out
  have hfl:=HBF.out.lt
  have f0:=HBF.out.cell (k:=0) (by simp)
  have f1:=HBF.out.cell (k:=1) (by simp)
  have f2:=HBF.out.cell (k:=2) (by simp)
  have f3:=HBF.out.cell (k:=3) (by simp)
  have f4:=HBF.out.cell (k:=4) (by simp)
  simp at f0 f1 f2 f3 f4
  (repeat' (first|refine X_gt ?_|refine X_q ?_|refine X_nil ?_|refine W_seqk (fun K hK=>?_)|refine W_seqr ?_|refine W_skip ?_|refine W_ff ?_|go_step));(first|(refine X_var (fun yn bq hn1 hn2 hn3 hn4 hn5=>?_))|(refine X_s (fun x K hK=>?_);go_simp;refine hK _ _ (Ext.alloc _ _) ?_;clear hK K;refine X_al x ?_;generalize (World.later _ x).heap.size = bq;intro yn hn1 hn2 hn3 hn4 hn5;clear x));have HBbq:=Lib.hid (Blk.new hn5.out);have HEbq:=Lib.hid yn.ext;have hlbq:(World.heap W).size≤bq:=hn1;generalize World.later W yn = W3 at *;clear hn1 hn2 hn3 hn4 hn5 yn
  clear hlt d0 d1 d2 d3 d4 d5 d6 d7 d8 d9 d10
  clear hfl f0 f1 f2 f3 f4
  replace HE:=Lib.hid (Ext.trans HE.out HEbq.out)
  have hbb4:bp < bq:=by have:=HBP.out.lt;omega
  have hE3:=HE.out.size
  replace HBX:=Lib.hid (HBX.out.later HEbq.out)
  replace HBF:=Lib.hid (HBF.out.later HEbq.out)
  replace HBO:=Lib.hid (HBO.out.later HEbq.out)
  replace HBP:=Lib.hid (HBP.out.later HEbq.out)
  have HBQ:=HBbq
  clear HBbq HEbq
  obtain ⟨hlt,d0,d1,d2,d3,d4,d5,d6,d7,d8,d9,d10⟩:=fcells HBX.out
  have hfl:=HBF.out.lt
  have f2:=HBF.out.cell (k:=2) (by simp)
  have f3:=HBF.out.cell (k:=3) (by simp)
  simp at f2 f3
  repeat' (first|refine X_pure Tryz.func80 (FITS.out _ HE.out) ?_|refine X_q ?_|refine X_nil ?_|refine W_seqk (fun K hK=>?_)|refine W_seqr ?_|refine W_tt ?_|go_step)
  refine X_store (off:=3) HBQ.out (fun W1 hM1 hB1=>?_);replace HE:=Lib.hid (Ext.fresh HE.out hM1 (fun k hk=>by subst hk;omega));replace HBX:=Lib.hid (HBX.out.mod hM1 (fun h=>by omega));replace HBF:=Lib.hid (HBF.out.mod hM1 (fun h=>by omega));replace HBO:=Lib.hid (HBO.out.mod hM1 (fun h=>by omega));replace HBP:=Lib.hid (HBP.out.mod hM1 (fun h=>by omega));replace HBQ:=Lib.hid hB1;clear hM1 hB1
  clear hlt d0 d1 d2 d3 d4 d5 d6 d7 d8 d9 d10
  clear hfl f2 f3
  obtain ⟨hlt,d0,d1,d2,d3,d4,d5,d6,d7,d8,d9,d10⟩:=fcells HBX.out
  have hfl:=HBF.out.lt
  have f2:=HBF.out.cell (k:=2) (by simp)
  have f3:=HBF.out.cell (k:=3) (by simp)
  simp at f2 f3
  repeat' (first|refine X_pure Tryz.func81 (ENDS.out _ HE.out) ?_|refine X_q ?_|refine X_nil ?_|refine W_seqk (fun K hK=>?_)|refine W_seqr ?_|go_step)
  refine X_store (off:=4) HBQ.out (fun W1 hM1 hB1=>?_);replace HE:=Lib.hid (Ext.fresh HE.out hM1 (fun k hk=>by subst hk;omega));replace HBX:=Lib.hid (HBX.out.mod hM1 (fun h=>by omega));replace HBF:=Lib.hid (HBF.out.mod hM1 (fun h=>by omega));replace HBO:=Lib.hid (HBO.out.mod hM1 (fun h=>by omega));replace HBP:=Lib.hid (HBP.out.mod hM1 (fun h=>by omega));replace HBQ:=Lib.hid hB1;clear hM1 hB1
  repeat' (first|refine X_q ?_|fail)
  refine X_store (off:=5) HBQ.out (fun W1 hM1 hB1=>?_);replace HE:=Lib.hid (Ext.fresh HE.out hM1 (fun k hk=>by subst hk;omega));replace HBX:=Lib.hid (HBX.out.mod hM1 (fun h=>by omega));replace HBF:=Lib.hid (HBF.out.mod hM1 (fun h=>by omega));replace HBO:=Lib.hid (HBO.out.mod hM1 (fun h=>by omega));replace HBP:=Lib.hid (HBP.out.mod hM1 (fun h=>by omega));replace HBQ:=Lib.hid hB1;clear hM1 hB1
  clear hlt d0 d1 d2 d3 d4 d5 d6 d7 d8 d9 d10
  clear hfl f2 f3
  obtain ⟨hlt,d0,d1,d2,d3,d4,d5,d6,d7,d8,d9,d10⟩:=fcells HBX.out
  repeat' (first|refine X_q ?_|refine X_nil ?_|refine W_seqk (fun K hK=>?_)|refine W_seqr ?_|go_step)
  refine X_store (off:=7) HBQ.out (fun W1 hM1 hB1=>?_);replace HE:=Lib.hid (Ext.fresh HE.out hM1 (fun k hk=>by subst hk;omega));replace HBX:=Lib.hid (HBX.out.mod hM1 (fun h=>by omega));replace HBF:=Lib.hid (HBF.out.mod hM1 (fun h=>by omega));replace HBO:=Lib.hid (HBO.out.mod hM1 (fun h=>by omega));replace HBP:=Lib.hid (HBP.out.mod hM1 (fun h=>by omega));replace HBQ:=Lib.hid hB1;clear hM1 hB1
  clear hlt d0 d1 d2 d3 d4 d5 d6 d7 d8 d9 d10
  replace HBQ:=Lib.hid (HBQ.out.congr (g':=fun k=>(Reply.cs ⟨s.epoch,f.offset,f.last,true,lastE (s.log.take (aboveE s.log f.last)),aboveE s.log f.last,[],s.high⟩ (.slice none 0 0)).getD k undef) (all8 ⟨rfl,rfl,rfl,rfl,rfl,rfl,rfl,rfl⟩))
  obtain ⟨hlt,d0,d1,d2,d3,d4,d5,d6,d7,d8,d9,d10⟩:=fcells HBX.out
  have q0:=HBQ.out.cell (k:=0) (by simp)
  have q1:=HBQ.out.cell (k:=1) (by simp)
  have q2:=HBQ.out.cell (k:=2) (by simp)
  have q3:=HBQ.out.cell (k:=3) (by simp)
  have q4:=HBQ.out.cell (k:=4) (by simp)
  have q5:=HBQ.out.cell (k:=5) (by simp)
  have q6:=HBQ.out.cell (k:=6) (by simp)
  have q7:=HBQ.out.cell (k:=7) (by simp)
  have hql:=HBQ.out.lt
  simp at q0 q1 q2 q3 q4 q5 q6 q7
  obtain ⟨G,hG⟩:∃ G:Nat→Prop,G = (fun k=>k = bo∨k = bp):=⟨_,rfl⟩
  have HGo:Hid (G bo):=Lib.hid (by subst hG;exact .inl rfl)
  have HGp:Hid (G bp):=Lib.hid (by subst hG;exact .inr rfl)
  have hGbx:¬ G bx:=(by subst hG;show ¬ (bx = bo∨bx = bp);omega)
  have hGbq:¬ G bq:=(by subst hG;show ¬ (bq = bo∨bq = bp);omega)
  clear hG
  repeat' (first|refine X_nil ?_|refine W_seqk (fun K hK=>?_)|go_step)
  refine W_drawG G [(0,3),(1,0),(2,2),(3,2),(4,0)] (by kernel_rfl) (by kernel_rfl) ?_
  (first|refine Y_floadr HBX.out ?_ (hu:=Tryz.underlying33)|refine Y_fload HBX.out hGbx ?_ (hu:=Tryz.underlying33))
  repeat' (first|refine Y_q ?_|fail)
  refine Y_store (off:=0) HBO.out HGo.out (fun W1 hM1 hG1 hB1=>?_);replace HE:=Lib.hid (Ext.fresh HE.out hM1 (fun k hk=>by subst hk;omega));replace HBP:=Lib.hid (HBP.out.mod hM1 (fun h=>by omega));replace HBO:=Lib.hid hB1;clear hM1 hB1 hG1
  replace HBO:=Lib.hid (fput HBO.out)
  replace HGo:=HGp
  skip
  refine Y_store (off:=0) HBP.out HGo.out (fun W1 hM1 hG1 hB1=>?_);replace HE:=Lib.hid (Ext.fresh HE.out hM1 (fun k hk=>by subst hk;omega));replace HBO:=Lib.hid (HBO.out.mod hM1 (fun h=>by omega));replace HBP:=Lib.hid hB1;clear hM1 hB1 hG1
  replace HBP:=Lib.hid (HBP.out.congr (g':=fun k=>(Reply.cs ⟨s.epoch,f.offset,f.last,true,lastE (s.log.take (aboveE s.log f.last)),aboveE s.log f.last,[],s.high⟩ (.slice none 0 0)).getD k undef) (all8 ⟨rfl,rfl,rfl,rfl,rfl,rfl,rfl,rfl⟩))
  repeat' (first|refine Y_q ?_|refine Y_nil ?_)
  repeat' (first|refine W_ret ?_|go_step)
  exact Body_retccv (cs:=s.cs _ _ _) (cs2:=Reply.cs ⟨s.epoch,f.offset,f.last,true,lastE (s.log.take (aboveE s.log f.last)),aboveE s.log f.last,[],s.high⟩ (.slice none 0 0)) hd ⟨HE.out,_,_,rfl,⟨_,_,_,rfl,HVR.out.later HE.out⟩,RdN.nil _⟩ HBO.out (fun k hk=>cs_fenc hk) HBP.out (all8 ⟨rfl,rfl,rfl,rfl,rfl,rfl,rfl,rfl⟩) Tryz.underlying33 Tryz.underlying49
theorem take_same {α:Type} (l:List α) (k m:Nat) (h:k = m∨(l.length≤k∧l.length≤m)):l.take k = l.take m:=by
  rcases h with rfl|⟨h1,h2⟩
  · rfl
  · rw [List.take_of_length_le h1,List.take_of_length_le h2]
theorem serve11_fit {N:Nat→Prop} {w:World} {uL uI uC:Value} {s:RepS} (hN:∀ k,N k→k < w.heap.size) (h:VR N w uL uI uC s) (hc:Bks s.counts) (hl:s.log.length≤4096) (f:Fetch) (most:Int) (hno:s.serveNo f most = 0) (hfit:fitsE s.log f.offset f.last = true):Ret Tryz.prog 40 #[s.v uL uI uC,f.v,.int .i64 most] w fun r w'=>Ext w w'∧∃ v' u,r = .tuple #[v',(s.reply f most).v u,.int .i64 0]∧FV N w' v' (s.serve f most)∧RdEN N w' u (s.reply f most).entries:=by
  have HN:=Lib.hid hN
  clear hN
  have HVR:=Lib.hid h
  obtain ⟨A1,c1,rfl,hc1,hcm1,-⟩:=h.rl.rd.ent
  obtain ⟨A2,c2,rfl,-⟩:=h.ri.rd.int
  obtain ⟨A3,c3,rfl,-⟩:=h.rc.rd.int
  clear h
  have hsrv:s.serve f most = ({ s with known:=setK s.known f.src.toNat (gmax (s.known f.src.toNat) f.flushed) }:RepS).count:=by unfold RepS.serve;rw [if_neg (by simp [hno]),if_pos hfit]
  have hrep:s.reply f most = ⟨s.epoch,f.offset,f.last,false,0,0,(s.log.drop f.offset.toNat).take (gmin most 4096).toNat,(s.serve f most).high⟩:=by unfold RepS.reply;rw [if_neg (by simp [hno]),if_pos hfit]
  rw [hrep,hsrv]
  clear hrep hsrv
  obtain ⟨⟨d0,d1,c2,d3,d4,d5,d6,d7,d8⟩,q2,q3⟩:=serveNo_ok hno
  have n0:¬ f.src < 0:=by omega
  have n1:¬ 3 < f.src:=by omega
  have c2b:(f.src == s.self) = false:=beq_false_of_ne c2
  have n3:¬ f.epoch < 0:=by omega
  have n4:¬ f.offset < 0:=by omega
  have n5:¬ f.last < 0:=by omega
  have n6:¬ f.flushed < 0:=by omega
  have n7:¬ f.offset < f.flushed:=by omega
  have n8:¬ most < 0:=by omega
  have q2b:(s.role != 3) = false:=by simp [q2]
  have q3b:(f.epoch != s.epoch) = false:=by simp [q3]
  have HNO:=Lib.hid hno
  have HR3:=Lib.hid q2
  clear hno c2 d3 d6 d7 q2 q3
  have hoff:f.offset≤s.log.length:=by have:=hfit;unfold fitsE at this;simp at this;exact this.1
  obtain ⟨o,ho⟩:∃ o:Nat,f.offset = o:=⟨f.offset.toNat,by omega⟩
  have HO_:=Lib.hid ho
  have hol:o≤s.log.length:=by omega
  have hmm:0≤most:=d8
  have hs0:0≤f.src:=d0
  have hs4:f.src < 4:=d1
  clear ho hoff d0 d1 d4 d8
  have FITS:Hid (∀ W,Ext w W→Pure Tryz.prog 80 #[.slice A1 s.log.length c1,.int .i64 f.offset,.int .i64 f.last] W (.bool true)):=Lib.hid (fun W hE=>hfit▸fits7_calls _ _ _ _ W (HVR.out.later hE).rl.rd (by have:=HO_.out;omega))
  clear hfit
  refine Fn_of Tryz.func40 rfl (Nat.le_of_ble_eq_true rfl) ?_;intro A hd hA;simp only [ix,Nat.reduceAdd];replace hA:A.tmps.size = 147:=hA
  (repeat' (first|refine W_seqk (fun K hK=>?_)|refine W_seqr ?_|fail));(first|(refine X_var (fun yn bx hn1 hn2 hn3 hn4 hn5=>?_))|(refine X_s (fun x K hK=>?_);go_simp;refine hK _ _ (Ext.alloc _ _) ?_;clear hK K;refine X_al x ?_;generalize (World.later _ x).heap.size = bx;intro yn hn1 hn2 hn3 hn4 hn5;clear x));have HBbx:=Lib.hid (Blk.new hn5.out);have HEbx:=Lib.hid yn.ext;have hlbx:(World.heap w).size≤bx:=hn1;generalize World.later w yn = W0 at *;clear hn1 hn2 hn3 hn4 hn5 yn
  (skip);(first|(refine X_var (fun yn bf hn1 hn2 hn3 hn4 hn5=>?_))|(refine X_s (fun x K hK=>?_);go_simp;refine hK _ _ (Ext.alloc _ _) ?_;clear hK K;refine X_al x ?_;generalize (World.later _ x).heap.size = bf;intro yn hn1 hn2 hn3 hn4 hn5;clear x));have HBbf:=Lib.hid (Blk.new hn5.out);have HEbf:=Lib.hid yn.ext;have hlbf:(World.heap W0).size≤bf:=hn1;generalize World.later W0 yn = W1 at *;clear hn1 hn2 hn3 hn4 hn5 yn
  (skip);(first|(refine X_var (fun yn bo hn1 hn2 hn3 hn4 hn5=>?_))|(refine X_s (fun x K hK=>?_);go_simp;refine hK _ _ (Ext.alloc _ _) ?_;clear hK K;refine X_al x ?_;generalize (World.later _ x).heap.size = bo;intro yn hn1 hn2 hn3 hn4 hn5;clear x));have HBbo:=Lib.hid (Blk.new hn5.out);have HEbo:=Lib.hid yn.ext;have hlbo:(World.heap W1).size≤bo:=hn1;generalize World.later W1 yn = W2 at *;clear hn1 hn2 hn3 hn4 hn5 yn
  (skip);(first|(refine X_var (fun yn bp hn1 hn2 hn3 hn4 hn5=>?_))|(refine X_s (fun x K hK=>?_);go_simp;refine hK _ _ (Ext.alloc _ _) ?_;clear hK K;refine X_al x ?_;generalize (World.later _ x).heap.size = bp;intro yn hn1 hn2 hn3 hn4 hn5;clear x));have HBbp:=Lib.hid (Blk.new hn5.out);have HEbp:=Lib.hid yn.ext;have hlbp:(World.heap W2).size≤bp:=hn1;generalize World.later W2 yn = W at *;clear hn1 hn2 hn3 hn4 hn5 yn
  have HBX:=Lib.hid ((fbox2 HBbx.out).later (Ext.trans (Ext.trans HEbf.out HEbo.out) HEbp.out))
  have HBF:=Lib.hid (HBbf.out.later (Ext.trans HEbo.out HEbp.out))
  have HBO:=Lib.hid (HBbo.out.later HEbp.out)
  have HE:=Lib.hid (Ext.trans (Ext.trans (Ext.trans HEbx.out HEbf.out) HEbo.out) HEbp.out)
  have HBP:=HBbp
  have hbb:bx < bf:=by have:=HBbx.out.lt;omega
  have hbb2:bf < bo:=by have:=HBbf.out.lt;omega
  have hbb3:bo < bp:=by have:=HBbo.out.lt;omega
  have hE0:=HEbx.out.size
  have hE1:=HEbf.out.size
  have hE2:=HEbo.out.size
  clear HBbx HBbo HBbf HBbp HEbx HEbo HEbf HEbp
  obtain ⟨hlt,d0,d1,d2,d3,d4,d5,d6,d7,d8,d9,d10⟩:=fcells HBX.out
  have hfl:=HBF.out.lt
  have f0:=HBF.out.cell (k:=0) (by simp)
  have f1:=HBF.out.cell (k:=1) (by simp)
  have f2:=HBF.out.cell (k:=2) (by simp)
  have f3:=HBF.out.cell (k:=3) (by simp)
  have f4:=HBF.out.cell (k:=4) (by simp)
  simp at f0 f1 f2 f3 f4
  (repeat' (first|refine X_gt ?_|refine X_q ?_|refine X_nil ?_|refine W_seqk (fun K hK=>?_)|refine W_seqr ?_|refine W_skip ?_|refine W_ff ?_|go_step));(first|(refine X_var (fun yn bq hn1 hn2 hn3 hn4 hn5=>?_))|(refine X_s (fun x K hK=>?_);go_simp;refine hK _ _ (Ext.alloc _ _) ?_;clear hK K;refine X_al x ?_;generalize (World.later _ x).heap.size = bq;intro yn hn1 hn2 hn3 hn4 hn5;clear x));have HBbq:=Lib.hid (Blk.new hn5.out);have HEbq:=Lib.hid yn.ext;have hlbq:(World.heap W).size≤bq:=hn1;generalize World.later W yn = W3 at *;clear hn1 hn2 hn3 hn4 hn5 yn
  clear hlt d0 d1 d2 d3 d4 d5 d6 d7 d8 d9 d10
  clear hfl f0 f1 f2 f3 f4
  replace HE:=Lib.hid (Ext.trans HE.out HEbq.out)
  have hbb4:bp < bq:=by have:=HBP.out.lt;omega
  have hE3:=HE.out.size
  replace HBX:=Lib.hid (HBX.out.later HEbq.out)
  replace HBF:=Lib.hid (HBF.out.later HEbq.out)
  replace HBO:=Lib.hid (HBO.out.later HEbq.out)
  replace HBP:=Lib.hid (HBP.out.later HEbq.out)
  have HBQ:=HBbq
  clear HBbq HEbq
  obtain ⟨hlt,d0,d1,d2,d3,d4,d5,d6,d7,d8,d9,d10⟩:=fcells HBX.out
  have hfl:=HBF.out.lt
  have f0:=HBF.out.cell (k:=0) (by simp)
  have f2:=HBF.out.cell (k:=2) (by simp)
  have f3:=HBF.out.cell (k:=3) (by simp)
  have f4:=HBF.out.cell (k:=4) (by simp)
  simp at f0 f2 f3 f4
  repeat' (first|refine X_pure Tryz.func80 (FITS.out _ HE.out) ?_|refine X_q ?_|refine X_nil ?_|refine W_seqk (fun K hK=>?_)|refine W_seqr ?_|refine W_skip ?_|refine W_ff ?_|go_step)
  have hkn:=fknown HBX.out f.src.toNat (by omega)
  refine W_drawσ [(0,0),(1,0),(2,0),(3,0),(4,0),(5,0),(6,0),(7,0),(8,0),(9,0),(10,0),(11,0),(12,2)] (by kernel_rfl) (by kernel_rfl) ?_
  repeat' (first|refine X_q ?_|fail)
  refine X_store (off:=11+f.src.toNat) HBX.out (fun W1 hM1 hB1=>?_);replace HE:=Lib.hid (Ext.fresh HE.out hM1 (fun k hk=>by subst hk;omega));replace HBQ:=Lib.hid (HBQ.out.mod hM1 (fun h=>by omega));replace HBF:=Lib.hid (HBF.out.mod hM1 (fun h=>by omega));replace HBO:=Lib.hid (HBO.out.mod hM1 (fun h=>by omega));replace HBP:=Lib.hid (HBP.out.mod hM1 (fun h=>by omega));replace HBX:=Lib.hid hB1;clear hM1 hB1
  have hgm:(if s.known f.src.toNat < f.flushed then f.flushed else s.known f.src.toNat) = gmax (s.known f.src.toNat) f.flushed:=rfl
  replace HBX:=Lib.hid (fputK (by omega) (hgm▸HBX.out))
  clear hgm hkn hfl f0 f2 f3 f4
  clear hlt d0 d1 d2 d3 d4 d5 d6 d7 d8 d9 d10
  generalize hq0:({ s with known:=setK s.known f.src.toNat (gmax (s.known f.src.toNat) f.flushed) }:RepS) = q0 at *
  have HQV:Hid (∀ W,Ext w W→VR N W (.slice A1 s.log.length c1) (.slice A2 s.isr.length c2) (.slice A3 s.counts.length c3) q0):=Lib.hid (fun W hE=>by subst hq0;exact ⟨(HVR.out.later hE).rl,(HVR.out.later hE).ri,(HVR.out.later hE).rc⟩)
  have hqc:Bks q0.counts:=by subst hq0;exact hc
  have hql:q0.log = s.log:=by subst hq0;rfl
  have hqe:q0.epoch = s.epoch:=by subst hq0;rfl
  clear hq0
  repeat' (first|refine X_niln ?_|refine W_seqk (fun K hK=>?_)|refine W_seqr ?_|go_step)
  refine X_fload HBX.out ?_ (hu:=Tryz.underlying33)
  skip
  refine X_ret Tryz.func76 (count11_calls (HQV.out _ HE.out) hqc) (fun r w1 hR=>?_)
  obtain ⟨hE9,rfl⟩:=hR
  replace HE:=Lib.hid (Ext.trans HE.out hE9)
  replace HBX:=Lib.hid (HBX.out.later hE9)
  replace HBQ:=Lib.hid (HBQ.out.later hE9)
  replace HBF:=Lib.hid (HBF.out.later hE9)
  replace HBO:=Lib.hid (HBO.out.later hE9)
  replace HBP:=Lib.hid (HBP.out.later hE9)
  clear hE9
  skip
  refine X_store (off:=0) HBX.out (fun W1 hM1 hB1=>?_);replace HE:=Lib.hid (Ext.fresh HE.out hM1 (fun k hk=>by subst hk;omega));replace HBQ:=Lib.hid (HBQ.out.mod hM1 (fun h=>by omega));replace HBF:=Lib.hid (HBF.out.mod hM1 (fun h=>by omega));replace HBO:=Lib.hid (HBO.out.mod hM1 (fun h=>by omega));replace HBP:=Lib.hid (HBP.out.mod hM1 (fun h=>by omega));replace HBX:=Lib.hid hB1;clear hM1 hB1
  replace HBX:=Lib.hid (fput HBX.out)
  have HQV2:Hid (∀ W,Ext w W→VR N W (.slice A1 s.log.length c1) (.slice A2 s.isr.length c2) (.slice A3 s.counts.length c3) q0.count):=Lib.hid (fun W hE=>(HQV.out W hE).count)
  have hqn:q0.count.log = s.log:=(count_log q0).1.trans hql
  generalize q0.count = q at *
  have HQN:=Lib.hid hqn
  have HQE:=Lib.hid hqe
  clear HQV hqc hql hqe hqn
  have hfl:=HBF.out.lt
  have f2:=HBF.out.cell (k:=2) (by simp)
  simp at f2
  rw [HO_.out] at f2
  replace HBQ:=Lib.hid (HBQ.out.congr (g':=fun k=>(Reply.cs ⟨s.epoch,f.offset,f.last,false,0,0,(s.log.drop o).take 0,0⟩ (.slice none 0 0)).getD k undef) (all8 ⟨rfl,rfl,rfl,rfl,rfl,rfl,rfl,rfl⟩))
  repeat' (first|refine X_q ?_|refine X_nil ?_|refine W_seqk (fun K hK=>?_)|refine W_seqr ?_|refine W_block ?_|go_step)
  refine W_loops [2,3,6,7,8,9,10] (fun n vs w'=>∃ (k j:Nat) (u:Value),j = o + k∧Ext w w'∧k + n = s.log.length - o∧(k:Int)≤most∧vs = [.int .i64 most,.pointer (some ⟨bx,0,none⟩),.pointer (some ⟨bo,0,none⟩),.pointer (some ⟨bp,0,none⟩),.int .i64 0,.pointer (some ⟨bq,0,none⟩),.int .i64 (j:Int)]∧Blk w' bx 33 15 (fenc q (.slice A1 s.log.length c1) (.slice A2 s.isr.length c2) (.slice A3 s.counts.length c3))∧Blk w' bq 49 8 (fun j=>(Reply.cs ⟨s.epoch,f.offset,f.last,false,0,0,((s.log.drop o).take k),0⟩ u).getD j undef)∧(∃ g,Blk w' bo 33 15 g)∧(∃ g,Blk w' bp 49 8 g)∧OwnE w' u ((s.log.drop o).take k)∧∀ g,u.ownBlock = some g→bq < g) (s.log.length - o) hd hA (by decide) ?_ ?_
  · exact ⟨0,o,_,rfl,HE.out,by omega,by omega,by simp,HBX.out,HBQ.out,⟨_,HBO.out⟩,⟨_,HBP.out⟩,Own.nil _,by intro g hg;cases hg⟩
  clear hd hA A HBX HBQ HBO HBP HE hfl f2;intro n vs B w' hd hA _ ⟨k,j,u,hj,hE,hk,hkm,hvs,hBX,hBQ,⟨gO,hBO⟩,⟨gP,hBP⟩,hown,hfr⟩;subst hvs
  have HBX:=Lib.hid hBX
  have HBQ:=Lib.hid hBQ
  have HBO:=Lib.hid hBO
  have HBP:=Lib.hid hBP
  have HE:=Lib.hid hE
  have HJ:=Lib.hid hj
  clear hj
  obtain ⟨B9,m9,c9,rfl⟩:=own_slice hown
  obtain rfl:k = m9:=by have:=(hown.rd Ent.len).length;simp at this;omega
  have Ho:=Lib.hid hown
  have HU:=Lib.hid (hown.rdt Ent.len)
  have Hf:=Lib.hid hfr
  clear hE hBX hBQ hBO hBP hown hfr
  simp only [List.zip_cons_cons,List.zip_nil_right,List.zip_nil_left]
  obtain ⟨hlt,d0,d1,d2,d3,d4,d5,d6,d7,d8,d9,d10⟩:=fcells HBX.out
  have hql:=HBQ.out.lt
  have p6:=HBQ.out.cell (k:=6) (by simp)
  simp at p6
  by_cases hA1:k < s.log.length - o
  · have hki:(j:Int) < s.log.length:=by have:=HJ.out;omega
    by_cases hA2:(k:Int) < most
    · obtain ⟨A6,c6,hA6,-,-,HR⟩:=(HVR.out.later HE.out).rl.ent
      cases hA6
      obtain ⟨e3,b3,o3,HE3,rfl,hb3,x0,x1,x2,x3,x4,x5⟩:=HR.out j (by have:=HJ.out;omega)
      have HT:Hid ((s.log.drop o).take (k + 1) = (s.log.drop o).take k ++ [e3]):=Lib.hid (take_snoc (by rw [List.getElem?_drop,← HJ.out];exact HE3.out))
      have hlen:((s.log.drop o).take k).length = k:=by simp;omega
      clear HR
      repeat' (first|refine X_gt ?_|refine X_q ?_|refine X_nil ?_|refine W_seqk (fun K hK=>?_)|refine W_seqr ?_|refine W_skip ?_|refine W_block ?_|refine W_tt ?_|go_step)
      refine W_drawσ [(0,0),(1,0),(2,0),(3,0),(4,0),(5,0),(6,0),(7,1),(8,2),(9,0),(10,2)] (by kernel_rfl) (by kernel_rfl) ?_
      repeat' (first|refine X_q ?_|(refine X_s (fun x K hK=>?_);go_simp;refine hK _ _ (Ext.alloc _ _) ?_;clear hK K;refine X_al x ?_;generalize (World.later _ x).heap.size = bn;intro yn hn1 hn2 hn3 hn4 hn5;clear x)|fail)
      refine X_append elemEnt (Ho.out.later yn.ext) (Rd.one (x:=e3) hn2 hn3 rfl) (by simp;omega) (by unfold maxLen;simp;omega) (fun v' W9 hM hO hF hN=>?_)
      replace HE:=Lib.hid (Ext.fresh (Ext.trans HE.out yn.ext) hM (fun g hg=>by have:=Hf.out g hg;omega))
      have HF9:Hid (∀ g,v'.ownBlock = some g→bq < g):=Lib.hid (fun g hg=>by
        rcases hF with h|⟨g',h,hle⟩
        · exact Hf.out g (h▸hg)
        · rw [h] at hg;cases hg;have:=(HBQ.out.later yn.ext).lt;omega)
      replace HBX:=Lib.hid ((HBX.out.later yn.ext).mod hM (fun hg=>by have:=Hf.out _ hg;omega))
      replace HBQ:=Lib.hid ((HBQ.out.later yn.ext).mod hM (fun hg=>by have:=Hf.out _ hg;omega))
      replace HBO:=Lib.hid ((HBO.out.later yn.ext).mod hM (fun hg=>by have:=Hf.out _ hg;omega))
      replace HBP:=Lib.hid ((HBP.out.later yn.ext).mod hM (fun hg=>by have:=Hf.out _ hg;omega))
      replace Ho:=Lib.hid hO
      replace Hf:=HF9
      clear hM hO hF hN HF9 HU x0 x1 x2 x3 x4 x5 hn1 hn2 hn3 hn4 hn5
      obtain ⟨B8,m8,c8,rfl⟩:=own_slice Ho.out
      clear hlt d0 d1 d2 d3 d4 d5 d6 d7 d8 d9 d10
      clear p6 hql
      repeat' (first|refine X_q ?_|fail)
      refine X_store (off:=6) HBQ.out (fun W1 hM1 hB1=>?_);replace HE:=Lib.hid (Ext.fresh HE.out hM1 (fun k hk=>by subst hk;omega));replace HBX:=Lib.hid (HBX.out.mod hM1 (fun h=>by omega));replace HBO:=Lib.hid (HBO.out.mod hM1 (fun h=>by omega));replace HBP:=Lib.hid (HBP.out.mod hM1 (fun h=>by omega));replace Ho:=Lib.hid (Ho.out.mod hM1 (fun g hg he=>by subst he;have:=Hf.out _ hg;omega));replace HBQ:=Lib.hid hB1;clear hM1 hB1
      replace HBQ:=Lib.hid (HBQ.out.congr (g':=fun j=>(Reply.cs ⟨s.epoch,f.offset,f.last,false,0,0,((s.log.drop o).take (k + 1)),0⟩ (.slice B8 m8 c8)).getD j undef) (all8 ⟨rfl,rfl,rfl,rfl,rfl,rfl,rfl,rfl⟩))
      repeat' (first|refine X_q ?_|refine X_niln ?_|refine X_nil ?_|refine W_seqr ?_|go_step)
      exact ⟨_,_,rfl,hd,hA,n - 1,by omega,k + 1,j + 1,.slice B8 m8 c8,by have:=HJ.out;omega,HE.out,by omega,by omega,by simp;try omega,HBX.out,HBQ.out,⟨_,HBO.out⟩,⟨_,HBP.out⟩,by rw [HT.out];exact Ho.out,Hf.out⟩
    · have HFIN:Hid ((s.log.drop o).take k = (s.log.drop f.offset.toNat).take (gmin most 4096).toNat):=Lib.hid (by rw [HO_.out];exact take_same _ _ _ (by rw [gmin_eq];simp;omega))
      generalize hEK:((s.log.drop o).take k) = ek at *
      repeat' (first|refine X_gt ?_|refine X_q ?_|refine X_nil ?_|refine W_seqk (fun K hK=>?_)|refine W_seqr ?_|refine W_exit ?_|refine W_ff ?_|go_step)
      refine X_store (off:=7) HBQ.out (fun W1 hM1 hB1=>?_);replace HE:=Lib.hid (Ext.fresh HE.out hM1 (fun k hk=>by subst hk;omega));replace HBX:=Lib.hid (HBX.out.mod hM1 (fun h=>by omega));replace HBO:=Lib.hid (HBO.out.mod hM1 (fun h=>by omega));replace HBP:=Lib.hid (HBP.out.mod hM1 (fun h=>by omega));replace HU:=Lib.hid (HU.out.mod hM1 (fun g hg he=>by subst he;have:=Hf.out _ hg;omega));replace HBQ:=Lib.hid hB1;clear hM1 hB1
      clear hlt d0 d1 d2 d3 d4 d5 d6 d7 d8 d9 d10
      replace HBQ:=Lib.hid (HBQ.out.congr (g':=fun j=>(Reply.cs ⟨s.epoch,f.offset,f.last,false,0,0,ek,q.high⟩ (.slice B9 k c9)).getD j undef) (all8 ⟨rfl,rfl,rfl,rfl,rfl,rfl,rfl,rfl⟩))
      clear p6
      have p0:=HBQ.out.cell (k:=0) (by simp)
      have p1:=HBQ.out.cell (k:=1) (by simp)
      have p2:=HBQ.out.cell (k:=2) (by simp)
      have p3:=HBQ.out.cell (k:=3) (by simp)
      have p4:=HBQ.out.cell (k:=4) (by simp)
      have p5:=HBQ.out.cell (k:=5) (by simp)
      have p6:=HBQ.out.cell (k:=6) (by simp)
      have p7:=HBQ.out.cell (k:=7) (by simp)
      have hpl:=HBQ.out.lt
      simp at p0 p1 p2 p3 p4 p5 p6 p7
      obtain ⟨G,hG⟩:∃ G:Nat→Prop,G = (fun k=>k = bo∨k = bp):=⟨_,rfl⟩
      have HGo:Hid (G bo):=Lib.hid (by subst hG;exact .inl rfl)
      have HGp:Hid (G bp):=Lib.hid (by subst hG;exact .inr rfl)
      have hGbx:¬ G bx:=(by subst hG;show ¬ (bx = bo∨bx = bp);omega)
      have hGbq:¬ G bq:=(by subst hG;show ¬ (bq = bo∨bq = bp);omega)
      clear hG
      repeat' (first|refine X_nil ?_|refine W_seqk (fun K hK=>?_)|go_step)
      refine W_drawG G [(0,3),(1,0),(2,2),(3,2),(4,0)] (by kernel_rfl) (by kernel_rfl) ?_
      (first|refine Y_floadr HBX.out ?_ (hu:=Tryz.underlying33)|refine Y_fload HBX.out hGbx ?_ (hu:=Tryz.underlying33))
      repeat' (first|refine Y_q ?_|fail)
      refine Y_store (off:=0) HBO.out HGo.out (fun W1 hM1 hG1 hB1=>?_);replace HE:=Lib.hid (Ext.fresh HE.out hM1 (fun k hk=>by subst hk;omega));replace HBP:=Lib.hid (HBP.out.mod hM1 (fun h=>by omega));replace HU:=Lib.hid (HU.out.mod hM1 (fun g hg he=>by subst he;have:=Hf.out _ hg;omega));replace HBO:=Lib.hid hB1;clear hM1 hB1 hG1
      replace HBO:=Lib.hid (fput HBO.out)
      replace HGo:=HGp
      skip
      refine Y_store (off:=0) HBP.out HGo.out (fun W1 hM1 hG1 hB1=>?_);replace HE:=Lib.hid (Ext.fresh HE.out hM1 (fun k hk=>by subst hk;omega));replace HBO:=Lib.hid (HBO.out.mod hM1 (fun h=>by omega));replace HU:=Lib.hid (HU.out.mod hM1 (fun g hg he=>by subst he;have:=Hf.out _ hg;omega));replace HBP:=Lib.hid hB1;clear hM1 hB1 hG1
      replace HBP:=Lib.hid (HBP.out.congr (g':=fun j=>(Reply.cs ⟨s.epoch,f.offset,f.last,false,0,0,ek,q.high⟩ (.slice B9 k c9)).getD j undef) (all8 ⟨rfl,rfl,rfl,rfl,rfl,rfl,rfl,rfl⟩))
      repeat' (first|refine Y_q ?_|refine Y_nil ?_)
      repeat' (first|refine W_ret ?_|go_step)
      exact Body_retccv (cs:=q.cs _ _ _) (cs2:=Reply.cs ⟨s.epoch,f.offset,f.last,false,0,0,ek,q.high⟩ (.slice B9 k c9)) hd ⟨HE.out,_,_,rfl,⟨_,_,_,rfl,HQV2.out _ HE.out⟩,HFIN.out▸⟨HU.out.rd,fun k hk=>⟨fun hn=>by have:=HN.out k hn;have:=Hf.out k hk;omega,HU.out.lt k hk⟩⟩⟩ HBO.out (fun k hk=>cs_fenc hk) HBP.out (all8 ⟨rfl,rfl,rfl,rfl,rfl,rfl,rfl,rfl⟩) Tryz.underlying33 Tryz.underlying49
  · have hki:¬ (j:Int) < s.log.length:=by have:=HJ.out;omega
    have HFIN:Hid ((s.log.drop o).take k = (s.log.drop f.offset.toNat).take (gmin most 4096).toNat):=Lib.hid (by rw [HO_.out];exact take_same _ _ _ (by rw [gmin_eq];simp;omega))
    generalize hEK:((s.log.drop o).take k) = ek at *
    repeat' (first|refine X_q ?_|refine X_g ?_|refine X_gf ?_|refine X_nil ?_|refine W_seqk (fun K hK=>?_)|refine W_seqr ?_|refine W_exit ?_|refine W_ff ?_|go_step)
    refine X_store (off:=7) HBQ.out (fun W1 hM1 hB1=>?_);replace HE:=Lib.hid (Ext.fresh HE.out hM1 (fun k hk=>by subst hk;omega));replace HBX:=Lib.hid (HBX.out.mod hM1 (fun h=>by omega));replace HBO:=Lib.hid (HBO.out.mod hM1 (fun h=>by omega));replace HBP:=Lib.hid (HBP.out.mod hM1 (fun h=>by omega));replace HU:=Lib.hid (HU.out.mod hM1 (fun g hg he=>by subst he;have:=Hf.out _ hg;omega));replace HBQ:=Lib.hid hB1;clear hM1 hB1
    clear hlt d0 d1 d2 d3 d4 d5 d6 d7 d8 d9 d10
    replace HBQ:=Lib.hid (HBQ.out.congr (g':=fun j=>(Reply.cs ⟨s.epoch,f.offset,f.last,false,0,0,ek,q.high⟩ (.slice B9 k c9)).getD j undef) (all8 ⟨rfl,rfl,rfl,rfl,rfl,rfl,rfl,rfl⟩))
    clear p6
    have p0:=HBQ.out.cell (k:=0) (by simp)
    have p1:=HBQ.out.cell (k:=1) (by simp)
    have p2:=HBQ.out.cell (k:=2) (by simp)
    have p3:=HBQ.out.cell (k:=3) (by simp)
    have p4:=HBQ.out.cell (k:=4) (by simp)
    have p5:=HBQ.out.cell (k:=5) (by simp)
    have p6:=HBQ.out.cell (k:=6) (by simp)
    have p7:=HBQ.out.cell (k:=7) (by simp)
    have hpl:=HBQ.out.lt
    simp at p0 p1 p2 p3 p4 p5 p6 p7
    obtain ⟨G,hG⟩:∃ G:Nat→Prop,G = (fun k=>k = bo∨k = bp):=⟨_,rfl⟩
    have HGo:Hid (G bo):=Lib.hid (by subst hG;exact .inl rfl)
    have HGp:Hid (G bp):=Lib.hid (by subst hG;exact .inr rfl)
    have hGbx:¬ G bx:=(by subst hG;show ¬ (bx = bo∨bx = bp);omega)
    have hGbq:¬ G bq:=(by subst hG;show ¬ (bq = bo∨bq = bp);omega)
    clear hG
    repeat' (first|refine X_nil ?_|refine W_seqk (fun K hK=>?_)|go_step)
    refine W_drawG G [(0,3),(1,0),(2,2),(3,2),(4,0)] (by kernel_rfl) (by kernel_rfl) ?_
    (first|refine Y_floadr HBX.out ?_ (hu:=Tryz.underlying33)|refine Y_fload HBX.out hGbx ?_ (hu:=Tryz.underlying33))
    repeat' (first|refine Y_q ?_|fail)
    refine Y_store (off:=0) HBO.out HGo.out (fun W1 hM1 hG1 hB1=>?_);replace HE:=Lib.hid (Ext.fresh HE.out hM1 (fun k hk=>by subst hk;omega));replace HBP:=Lib.hid (HBP.out.mod hM1 (fun h=>by omega));replace HU:=Lib.hid (HU.out.mod hM1 (fun g hg he=>by subst he;have:=Hf.out _ hg;omega));replace HBO:=Lib.hid hB1;clear hM1 hB1 hG1
    replace HBO:=Lib.hid (fput HBO.out)
    replace HGo:=HGp
    skip
    refine Y_store (off:=0) HBP.out HGo.out (fun W1 hM1 hG1 hB1=>?_);replace HE:=Lib.hid (Ext.fresh HE.out hM1 (fun k hk=>by subst hk;omega));replace HBO:=Lib.hid (HBO.out.mod hM1 (fun h=>by omega));replace HU:=Lib.hid (HU.out.mod hM1 (fun g hg he=>by subst he;have:=Hf.out _ hg;omega));replace HBP:=Lib.hid hB1;clear hM1 hB1 hG1
    replace HBP:=Lib.hid (HBP.out.congr (g':=fun j=>(Reply.cs ⟨s.epoch,f.offset,f.last,false,0,0,ek,q.high⟩ (.slice B9 k c9)).getD j undef) (all8 ⟨rfl,rfl,rfl,rfl,rfl,rfl,rfl,rfl⟩))
    repeat' (first|refine Y_q ?_|refine Y_nil ?_)
    repeat' (first|refine W_ret ?_|go_step)
    exact Body_retccv (cs:=q.cs _ _ _) (cs2:=Reply.cs ⟨s.epoch,f.offset,f.last,false,0,0,ek,q.high⟩ (.slice B9 k c9)) hd ⟨HE.out,_,_,rfl,⟨_,_,_,rfl,HQV2.out _ HE.out⟩,HFIN.out▸⟨HU.out.rd,fun k hk=>⟨fun hn=>by have:=HN.out k hn;have:=Hf.out k hk;omega,HU.out.lt k hk⟩⟩⟩ HBO.out (fun k hk=>cs_fenc hk) HBP.out (all8 ⟨rfl,rfl,rfl,rfl,rfl,rfl,rfl,rfl⟩) Tryz.underlying33 Tryz.underlying49
end Go.Ws
namespace Go.Ws
open Go Go.RowKit Go.Proofs
set_option maxHeartbeats 4000000
set_option maxRecDepth 100000
set_option linter.unusedVariables false
set_option linter.unusedSimpArgs false
theorem serve11_all {N : Nat → Prop} {w : World} {uL uI uC : Value} {s : RepS} (hN : ∀ k, N k → k < w.heap.size) (h : VR N w uL uI uC s) (hg : s.Good) (f : Fetch) (most : Int) :
    Ret Tryz.prog 40 #[s.v uL uI uC,f.v,.int .i64 most] w fun r w'=>Ext w w'∧∃ v' u,r = .tuple #[v',(s.reply f most).v u,.int .i64 (s.serveNo f most)]∧FV N w' v' (s.serve f most)∧RdEN N w' u (s.reply f most).entries:=by
  by_cases hno:s.serveNo f most = 0
  · rw [hno]
    by_cases hf:fitsE s.log f.offset f.last = true
    · exact serve11_fit hN h hg.bks hg.len f most hno hf
    · exact serve11_cut h f most hno hg.may (by simpa using hf)
  · have h1:s.reply f most = Reply.zero:=by unfold RepS.reply;rw [if_pos hno]
    have h2:s.serve f most = s:=by unfold RepS.serve;rw [if_pos hno]
    rw [h1,h2]
    refine Ret.mono (serve11_no h f most hno) fun r w' hR=>?_
    obtain ⟨hE,v',rfl,hv⟩:=hR
    exact ⟨hE,v',_,rfl,hv,RdN.nil _⟩
theorem does5_calls {w0 W : World} {b : Nat} {F X : Nat → Prop} {s : RepS} {uL uI uC vI vE vL : Value} {a : ActD} (h : HR w0 W b F s) (hg : s.Fine) (hX : ∀ k, X k → k < W.heap.size) (hv : VR (fun k => F k ∨ X k) W uL uI uC s) (ha : ActR (fun k => F k ∨ X k) W vI vE vL a) (hk : a.kind = 5) :
    Ret Tryz.prog 16 #[.pointer (some ⟨b,0,none⟩),s.v uL uI uC,a.v vI vE vL] W fun r W'=>DoesR w0 W b F X (s.step (a.atS s)) r W':=by
  have HH:=Lib.hid h
  have HG:=Lib.hid hg
  have HXW:=Lib.hid hX
  clear hX
  have HVR:=Lib.hid hv
  have HAC:=Lib.hid (ha.at s)
  have NEAR:Hid (∀ W',Ext W W'→Ret Tryz.prog 35 #[a.v vI vE vL,s.v uL uI uC] W' fun r w'=>Ext W' w'∧r = (a.atS s).v vI vE vL):=Lib.hid (fun W' hE=>near_calls (hv.later hE) hg.good hg.ver (ha.later hE))
  have hka:(a.atS s).kind = 5:=(atS_kind a s).1.trans hk
  have ht:s.step (a.atS s) = s.serve (a.atS s).fetch (a.atS s).n:=by unfold RepS.step;simp [hka]
  rw [ht]
  clear ht
  obtain ⟨A1,c1,rfl,-⟩:=hv.rl.rd.ent
  obtain ⟨A2,c2,rfl,-⟩:=hv.ri.rd.int
  obtain ⟨A3,c3,rfl,-⟩:=hv.rc.rd.int
  clear h hg hv ha hk
  generalize a.atS s = a' at *
  obtain ⟨A4,c4,rfl,-⟩:=HAC.out.ri.int
  obtain ⟨A5,c5,rfl,-⟩:=HAC.out.re.ent
  obtain ⟨A6,c6,rfl,-⟩:=HAC.out.rl.int
  refine Fn_of Tryz.func16 rfl (Nat.le_of_ble_eq_true rfl) ?_;intro A hd hA;simp only [ix,Nat.reduceAdd];replace hA:A.tmps.size = 268:=hA
  (repeat' (first|refine W_seqk (fun K hK=>?_)|refine W_seqr ?_|fail));(first|(refine X_var (fun yn b4 hn1 hn2 hn3 hn4 hn5=>?_))|(refine X_s (fun x K hK=>?_);go_simp;refine hK _ _ (Ext.alloc _ _) ?_;clear hK K;refine X_al x ?_;generalize (World.later _ x).heap.size = b4;intro yn hn1 hn2 hn3 hn4 hn5;clear x));have HBb4:=Lib.hid (Blk.new hn5.out);have HEb4:=Lib.hid yn.ext;have hlb4:(World.heap W).size≤b4:=hn1;generalize World.later W yn = W0 at *;clear hn1 hn2 hn3 hn4 hn5 yn
  (skip);(first|(refine X_var (fun yn b5 hn1 hn2 hn3 hn4 hn5=>?_))|(refine X_s (fun x K hK=>?_);go_simp;refine hK _ _ (Ext.alloc _ _) ?_;clear hK K;refine X_al x ?_;generalize (World.later _ x).heap.size = b5;intro yn hn1 hn2 hn3 hn4 hn5;clear x));have HBb5:=Lib.hid (Blk.new hn5.out);have HEb5:=Lib.hid yn.ext;have hlb5:(World.heap W0).size≤b5:=hn1;generalize World.later W0 yn = W1 at *;clear hn1 hn2 hn3 hn4 hn5 yn
  (skip);(first|(refine X_var (fun yn b6 hn1 hn2 hn3 hn4 hn5=>?_))|(refine X_s (fun x K hK=>?_);go_simp;refine hK _ _ (Ext.alloc _ _) ?_;clear hK K;refine X_al x ?_;generalize (World.later _ x).heap.size = b6;intro yn hn1 hn2 hn3 hn4 hn5;clear x));have HBb6:=Lib.hid (Blk.new hn5.out);have HEb6:=Lib.hid yn.ext;have hlb6:(World.heap W1).size≤b6:=hn1;generalize World.later W1 yn = W2 at *;clear hn1 hn2 hn3 hn4 hn5 yn
  have HBS:=Lib.hid ((fbox2 HBb4.out).later (Ext.trans HEb5.out HEb6.out))
  have HBA:Hid (Blk W2 b5 51 27 (aenc a (.slice A4 a'.view.isr.length c4) (.slice A5 a'.reply.entries.length c5) (.slice A6 a'.list.length c6))):=Lib.hid ((HBb5.out.later HEb6.out).congr (fun k hk=>rfl))
  have HBO:=HBb6
  have HE:=Lib.hid (Ext.trans (Ext.trans HEb4.out HEb5.out) HEb6.out)
  have hbb:b4 < b5:=by have:=HBb4.out.lt;omega
  have hbb2:b5 < b6:=by have:=HBb5.out.lt;omega
  have hs0:=HEb4.out.size
  have hs1:=HEb5.out.size
  have h6W:W.heap.size≤b6:=by omega
  clear HBb4 HBb5 HBb6 HEb4 HEb5 HEb6
  have HFW:Hid (∀ k,F k→k < W.heap.size):=Lib.hid (fun k hk=>(HH.out.hi k hk).2)
  have HVN:=Lib.hid (HVR.out.wide (N':=fun k=>F k∨X k∨k = b6) (fun k hk=>hk.elim (fun h=>.inl (.inl h)) (fun h=>h.elim (fun h=>.inl (.inr h)) (fun e=>.inr (by subst e;exact h6W)))))
  have HAN:=Lib.hid (HAC.out.wide (N':=fun k=>F k∨X k∨k = b6) (fun k hk=>hk.elim (fun h=>.inl (.inl h)) (fun h=>h.elim (fun h=>.inl (.inr h)) (fun e=>.inr (by subst e;exact h6W)))))
  clear HVR HAC
  have hal:=HBA.out.lt
  have hsl:=HBS.out.lt
  repeat' (first|refine X_q ?_|refine X_nil ?_|refine W_seqk (fun K hK=>?_)|refine W_seqr ?_|go_step)
  refine X_aload HBA.out ?_ (hu:=Tryz.underlying51)
  skip
  refine X_fload HBS.out ?_ (hu:=Tryz.underlying33)
  skip
  refine X_ret Tryz.func35 (NEAR.out _ HE.out) (fun r w1 hR=>?_)
  obtain ⟨hE1,rfl⟩:=hR
  replace HBS:=Lib.hid (HBS.out.later hE1)
  replace HBA:=Lib.hid (HBA.out.later hE1)
  replace HBO:=Lib.hid (HBO.out.later hE1)
  replace HE:=Lib.hid (Ext.trans HE.out hE1)
  clear hE1 NEAR hal hsl
  have hal:=HBA.out.lt
  skip
  refine X_store (off:=0) HBA.out (fun W1 hM1 hB1=>?_);replace HE:=Lib.hid (Ext.fresh HE.out hM1 (fun k hk=>by subst hk;omega));replace HBS:=Lib.hid (HBS.out.mod hM1 (fun h=>by omega));replace HBO:=Lib.hid (HBO.out.mod hM1 (fun h=>by omega));replace HBA:=Lib.hid hB1;clear hM1 hB1
  replace HBA:=Lib.hid (HBA.out.congr (g':=aenc a' (.slice A4 a'.view.isr.length c4) (.slice A5 a'.reply.entries.length c5) (.slice A6 a'.list.length c6)) (all27 ⟨rfl,rfl,rfl,rfl,rfl,rfl,rfl,rfl,rfl,rfl,rfl,rfl,rfl,rfl,rfl,rfl,rfl,rfl,rfl,rfl,rfl,rfl,rfl,rfl,rfl,rfl,rfl⟩))
  clear hal
  obtain ⟨hlt,d0,d1,d2,d3,d4,d5,d6,d7,d8,d9,d10⟩:=fcells HBS.out
  have hal:=HBA.out.lt
  have e0:=HBA.out.cell (k:=0) (by omega)
  change World.cell? _ _ = some (.int .i64 a'.kind) at e0
  have e1:=HBA.out.cell (k:=1) (by omega)
  change World.cell? _ _ = some (.int .i64 a'.n) at e1
  have e13:=HBA.out.cell (k:=13) (by omega)
  change World.cell? _ _ = some (.int .i64 a'.fetch.src) at e13
  have e14:=HBA.out.cell (k:=14) (by omega)
  change World.cell? _ _ = some (.int .i64 a'.fetch.epoch) at e14
  have e15:=HBA.out.cell (k:=15) (by omega)
  change World.cell? _ _ = some (.int .i64 a'.fetch.offset) at e15
  have e16:=HBA.out.cell (k:=16) (by omega)
  change World.cell? _ _ = some (.int .i64 a'.fetch.last) at e16
  have e17:=HBA.out.cell (k:=17) (by omega)
  change World.cell? _ _ = some (.int .i64 a'.fetch.flushed) at e17
  rw [hka] at e0
  have hbol:=HBO.out.lt
  have hEW:=HE.out.size
  have HGG:=Lib.hid HG.out.good
  repeat' (first|refine X_q ?_|refine X_nil ?_|refine W_seqk (fun K hK=>?_)|refine W_seqr ?_|refine W_block ?_|refine W_tt ?_|refine W_ff ?_|go_step)
  refine X_fload HBS.out ?_ (hu:=Tryz.underlying33)
  repeat' (first|refine X_q ?_|fail)
  refine X_ret Tryz.func40 (serve11_all (N:=fun k=>F k∨X k∨k = b6) (fun k hk=>hk.elim (fun h=>by have:=HFW.out k h;omega) (fun h=>h.elim (fun h=>by have:=HXW.out k h;omega) (fun h=>by omega))) (HVN.out.later HE.out) HGG.out a'.fetch a'.n) (fun r w1 hR=>?_)
  obtain ⟨hE1,v1,u1,rfl,⟨oL,oI,oC,rfl,hVO⟩,hU⟩:=hR
  obtain ⟨B1,x1,rfl,-⟩:=hVO.rl.ent
  obtain ⟨B2,x2,rfl,-⟩:=hVO.ri.int
  obtain ⟨B3,x3,rfl,-⟩:=hVO.rc.int
  obtain ⟨B4,x4,rfl,-⟩:=hU.ent
  have HU:=Lib.hid hU
  clear hU
  have HE1:=Lib.hid (Ext.trans HE.out hE1)
  have HVO:=Lib.hid hVO
  replace HBS:=Lib.hid (HBS.out.later hE1)
  replace HBA:=Lib.hid (HBA.out.later hE1)
  replace HBO:=Lib.hid (HBO.out.later hE1)
  clear hE1 hVO HE hbol hEW e0 e1 e13 e14 e15 e16 e17 hal
  clear hlt d0 d1 d2 d3 d4 d5 d6 d7 d8 d9 d10
  have HE:=Lib.hid (Ext.refl w1)
  have hbol:=HBO.out.lt
  have hEW:=HE1.out.size
  have h61:=HBO.out.lt
  have hal:=HBA.out.lt
  have e1:=HBA.out.cell (k:=1) (by omega)
  change World.cell? _ _ = some (.int .i64 a'.n) at e1
  have e13:=HBA.out.cell (k:=13) (by omega)
  change World.cell? _ _ = some (.int .i64 a'.fetch.src) at e13
  have e14:=HBA.out.cell (k:=14) (by omega)
  change World.cell? _ _ = some (.int .i64 a'.fetch.epoch) at e14
  have e15:=HBA.out.cell (k:=15) (by omega)
  change World.cell? _ _ = some (.int .i64 a'.fetch.offset) at e15
  have e16:=HBA.out.cell (k:=16) (by omega)
  change World.cell? _ _ = some (.int .i64 a'.fetch.last) at e16
  have e17:=HBA.out.cell (k:=17) (by omega)
  change World.cell? _ _ = some (.int .i64 a'.fetch.flushed) at e17
  (repeat' (first|refine X_q ?_|fail));(first|(refine X_var (fun yn b8 hn1 hn2 hn3 hn4 hn5=>?_))|(refine X_s (fun x K hK=>?_);go_simp;refine hK _ _ (Ext.alloc _ _) ?_;clear hK K;refine X_al x ?_;generalize (World.later _ x).heap.size = b8;intro yn hn1 hn2 hn3 hn4 hn5;clear x));have HBb8:=Lib.hid (Blk.new hn5.out);have HEb8:=Lib.hid yn.ext;have hlb8:(World.heap w1).size≤b8:=hn1;generalize World.later w1 yn = W8 at *;clear hn1 hn2 hn3 hn4 hn5 yn
  (skip);(first|(refine X_var (fun yn b20 hn1 hn2 hn3 hn4 hn5=>?_))|(refine X_s (fun x K hK=>?_);go_simp;refine hK _ _ (Ext.alloc _ _) ?_;clear hK K;refine X_al x ?_;generalize (World.later _ x).heap.size = b20;intro yn hn1 hn2 hn3 hn4 hn5;clear x));have HBb20:=Lib.hid (Blk.new hn5.out);have HEb20:=Lib.hid yn.ext;have hlb20:(World.heap W8).size≤b20:=hn1;generalize World.later W8 yn = W9 at *;clear hn1 hn2 hn3 hn4 hn5 yn
  have HBT:=Lib.hid (HBb8.out.later HEb20.out)
  have HBP:=HBb20
  replace HE:=Lib.hid (Ext.trans HEb8.out HEb20.out)
  replace HBA:=Lib.hid (HBA.out.later HE.out)
  replace HBO:=Lib.hid (HBO.out.later HE.out)
  have h8b:b8 < b20:=by have:=HBb8.out.lt;omega
  have hs8:=HEb8.out.size
  clear HBb8 HEb8 HBb20 HEb20 hbol HBS
  clear hal e1 e13 e14 e15 e16 e17
  have h8l:=HBT.out.lt
  have h20l:=HBP.out.lt
  skip
  refine X_store (off:=0) HBT.out (fun W1 hM1 hB1=>?_);replace HE:=Lib.hid (Ext.fresh HE.out hM1 (fun k hk=>by subst hk;omega));replace HBP:=Lib.hid (HBP.out.mod hM1 (fun h=>by omega));replace HBA:=Lib.hid (HBA.out.mod hM1 (fun h=>by omega));replace HBO:=Lib.hid (HBO.out.mod hM1 (fun h=>by omega));replace HBT:=Lib.hid hB1;clear hM1 hB1
  replace HBT:=Lib.hid (fput HBT.out)
  clear h8l h20l
  have h8l:=HBT.out.lt
  have h20l:=HBP.out.lt
  skip
  refine X_store (off:=0) HBP.out (fun W1 hM1 hB1=>?_);replace HE:=Lib.hid (Ext.fresh HE.out hM1 (fun k hk=>by subst hk;omega));replace HBT:=Lib.hid (HBT.out.mod hM1 (fun h=>by omega));replace HBA:=Lib.hid (HBA.out.mod hM1 (fun h=>by omega));replace HBO:=Lib.hid (HBO.out.mod hM1 (fun h=>by omega));replace HBP:=Lib.hid hB1;clear hM1 hB1
  replace HBP:=Lib.hid (HBP.out.congr (g':=fun k=>((s.reply a'.fetch a'.n).cs (.slice B4 (s.reply a'.fetch a'.n).entries.length x4)).getD k undef) (alln8 ⟨rfl,rfl,rfl,rfl,rfl,rfl,rfl,rfl⟩))
  clear h8l h20l
  have hal:=HBA.out.lt
  have e1:=HBA.out.cell (k:=1) (by omega)
  change World.cell? _ _ = some (.int .i64 a'.n) at e1
  have e13:=HBA.out.cell (k:=13) (by omega)
  change World.cell? _ _ = some (.int .i64 a'.fetch.src) at e13
  have e14:=HBA.out.cell (k:=14) (by omega)
  change World.cell? _ _ = some (.int .i64 a'.fetch.epoch) at e14
  have e15:=HBA.out.cell (k:=15) (by omega)
  change World.cell? _ _ = some (.int .i64 a'.fetch.offset) at e15
  have e16:=HBA.out.cell (k:=16) (by omega)
  change World.cell? _ _ = some (.int .i64 a'.fetch.last) at e16
  have e17:=HBA.out.cell (k:=17) (by omega)
  change World.cell? _ _ = some (.int .i64 a'.fetch.flushed) at e17
  have hbol:=HBO.out.lt
  have h8l:=HBT.out.lt
  have h20l:=HBP.out.lt
  repeat' (first|refine X_q ?_|refine X_nil ?_|refine W_seqk (fun K hK=>?_)|refine W_seqr ?_|go_step)
  refine X_ret Tryz.func23 (serve_rep (((HH.out.later HE1.out).later HE.out).rep) HGG.out.ne HGG.out.may HGG.out.len HGG.out.bks a'.fetch a'.n) (fun r w4 hR=>?_)
  obtain ⟨⟨u2,rfl,hO2,-⟩,hM,hRp⟩:=hR
  have HR2:=Lib.hid (hO2.rd (enc:=Ent.cs) (k:=6) (fun _=>rfl))
  obtain ⟨B5,x5,rfl,-⟩:=HR2.out.ent
  have HMc:=Lib.hid hM
  have HRc:=Lib.hid hRp
  have HEC:=HE
  have hEs:=HE.out.size
  have HU2:=Lib.hid (((HU.out.later HE.out).mod hM (fun k hk=>.inl hk)).rd)
  replace HBO:=Lib.hid (HBO.out.mod hM (fun h=>by have:=HFW.out _ h;omega))
  replace HBT:=Lib.hid (HBT.out.mod hM (fun h=>by have:=HFW.out _ h;omega))
  replace HBP:=Lib.hid (HBP.out.mod hM (fun h=>by have:=HFW.out _ h;omega))
  have hs4:=hM.size
  clear hM hRp hO2 HU HBA hbol h8l h20l
  clear hal e1 e13 e14 e15 e16 e17
  (repeat' (first|refine X_q ?_|fail));(first|(refine X_var (fun yn b22 hn1 hn2 hn3 hn4 hn5=>?_))|(refine X_s (fun x K hK=>?_);go_simp;refine hK _ _ (Ext.alloc _ _) ?_;clear hK K;refine X_al x ?_;generalize (World.later _ x).heap.size = b22;intro yn hn1 hn2 hn3 hn4 hn5;clear x));have HBb22:=Lib.hid (Blk.new hn5.out);have HEb22:=Lib.hid yn.ext;have hlb22:(World.heap w4).size≤b22:=hn1;generalize World.later w4 yn = W12 at *;clear hn1 hn2 hn3 hn4 hn5 yn
  have HBQ:=HBb22
  have HM4:=HEb22
  replace HBT:=Lib.hid (HBT.out.later HEb22.out)
  replace HBP:=Lib.hid (HBP.out.later HEb22.out)
  have HBO4:=Lib.hid (HBO.out.later HEb22.out)
  clear HBb22 HEb22 HBO
  have hbol:=HBO4.out.lt
  have h8l:=HBT.out.lt
  have h20l:=HBP.out.lt
  have h22l:=HBQ.out.lt
  have p0:=HBP.out.cell (k:=0) (by simp)
  have p1:=HBP.out.cell (k:=1) (by simp)
  have p2:=HBP.out.cell (k:=2) (by simp)
  have p3:=HBP.out.cell (k:=3) (by simp)
  have p4:=HBP.out.cell (k:=4) (by simp)
  have p5:=HBP.out.cell (k:=5) (by simp)
  have p6:=HBP.out.cell (k:=6) (by simp)
  have p7:=HBP.out.cell (k:=7) (by simp)
  simp at p0 p1 p2 p3 p4 p5 p6 p7
  have q0:=HBQ.out.cell (k:=0) (by simp)
  have q1:=HBQ.out.cell (k:=1) (by simp)
  have q2:=HBQ.out.cell (k:=2) (by simp)
  have q3:=HBQ.out.cell (k:=3) (by simp)
  have q4:=HBQ.out.cell (k:=4) (by simp)
  have q5:=HBQ.out.cell (k:=5) (by simp)
  have q6:=HBQ.out.cell (k:=6) (by simp)
  have q7:=HBQ.out.cell (k:=7) (by simp)
  simp at q0 q1 q2 q3 q4 q5 q6 q7
  repeat' (first|refine X_q ?_|refine X_nil ?_|refine W_seqk (fun K hK=>?_)|go_step)
  obtain ⟨G,hG⟩:∃ G:Nat→Prop,G = (fun k=>k = b6):=⟨_,rfl⟩;have HGo:Hid (G b6):=Lib.hid (by subst hG;rfl);have hGb8:¬ G b8:=(by subst hG;show ¬ b8 = b6;omega);have hGb20:¬ G b20:=(by subst hG;show ¬ b20 = b6;omega);have hGb22:¬ G b22:=(by subst hG;show ¬ b22 = b6;omega);clear hG
  refine W_drawG G [(0,0),(1,3),(2,3),(3,1),(4,0),(5,0),(6,0),(7,0),(8,0),(9,2),(10,0)] (by kernel_rfl) (by kernel_rfl) ?_
  (first|refine Y_floadr HBT.out ?_ (hu:=Tryz.underlying33)|refine Y_fload HBT.out hGb8 ?_ (hu:=Tryz.underlying33))
  repeat' (first|refine Y_r ?_|fail)
  refine Y_pure Tryz.func41 (fun x=>samereply_calls ((HR2.out.later HM4.out).later x.2) ((HU2.out.later HM4.out).later x.2)) ?_
  repeat' (first|refine Y_gt ?_|refine Y_q ?_|fail)
  refine Y_store (off:=0) HBO4.out HGo.out (fun W5 hM5 hG5x hB5=>?_)
  have HM5:=Lib.hid hM5
  have HB5:=Lib.hid (fput hB5)
  clear hM5 hG5x hB5
  repeat' (first|refine Y_q ?_|refine Y_nil ?_)
  repeat' (first|refine W_ret ?_|go_step)
  have HM6:=Lib.hid (Mod.trans (H:=(· = b6)) HM4.out HM5.out (fun _ _ h=>h.elim) (fun _ _ h=>h))
  exact Body_retcellv (cs:=RepS.cs (s.serve a'.fetch a'.n) _ _ _) hd (does_end HH.out HE1.out HEC.out HMc.out HRc.out HM6.out h6W h61 HVO.out) HB5.out (fun k hk=>cs_fenc hk) Tryz.underlying33
end Go.Ws
