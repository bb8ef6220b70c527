/- Lemmas for the statements of this layer (joined texts); no condition. -/
import Derived.Test.YtlpjgegbdmkmdaaGreatBb02
import Derived.Test.YtlpjgegbdmkmdaaGreatBb03
import Derived.Test.YtlpjgegbdmkmdaaGreatBb08
import Derived.Test.YtlpjgegbdmkmdaaGreatBb14
import Derived.Test.YtlpjgegbdmkmdaaGreatBb15
import Derived.Test.YtlpjgegbdmkmdaaGreatBb18
import Derived.Test.YtlpjgegbdmkmdaaGreatBb19
namespace Go.Ws
open Go Go.RowKit Go.Proofs
set_option maxHeartbeats 2000000
set_option maxRecDepth 100000
set_option linter.unusedVariables false
set_option linter.unusedSimpArgs false
theorem fknowns {w:World} {b:Nat} {E:TypeId} {uL uI uC:Value} {s:RepS} (h:Blk w b E 15 (fenc s uL uI uC)):RdI w (.slice (some ⟨b,11,none⟩) 4 4) [s.known 0,s.known 1,s.known 2,s.known 3]:=by
  refine ⟨some ⟨b,11,none⟩,4,rfl,Nat.le_refl _,by unfold maxLen;omega,.inr ⟨b,11,rfl,h.lt,fun i x hx j u hu=>?_⟩⟩
  have hj:j = 0:=by
    rcases Nat.lt_or_ge j 1 with h|h
    · omega
    · rw [List.getElem?_eq_none (by simpa using h)] at hu;cases hu
  subst hj
  simp at hu
  subst hu
  have hi:i < 4:=by
    rcases Nat.lt_or_ge i 4 with h|h
    · exact h
    · rw [List.getElem?_eq_none (by simpa using h)] at hx;cases hx
  have h1:=fknown h i hi
  obtain rfl|rfl|rfl|rfl:i = 0∨i = 1∨i = 2∨i = 3:=by omega
  all_goals (simp at hx;subst hx;simpa using h1)
theorem standing11_calls {N:Nat→Prop} {w:World} {uL uI uC:Value} {s:RepS} (h:VR N w uL uI uC s):Ret Tryz.prog 86 #[s.v uL uI uC] w fun v w'=>Ext w w'∧SV w' v s.stand:=by
  have HVR:=Lib.hid h
  obtain ⟨A1,c1,rfl,-⟩:=h.rl.rd.ent
  obtain ⟨A2,c2,rfl,-⟩:=h.ri.rd.int
  obtain ⟨A3,c3,rfl,-⟩:=h.rc.rd.int
  clear h
  by_cases hr:s.role = 3
  · have hrb:(s.role == 3) = true:=by simp [hr]
    have hst:s.stand = ⟨3,s.epoch,s.version,s.flushed,s.high,s.beg,s.isr,s.counts,[s.known 0,s.known 1,s.known 2,s.known 3]⟩:=by unfold RepS.stand;rw [if_pos hr,hr]
    have HR:=Lib.hid hr
    rw [hst]
    clear hst hr
    refine Fn_of Tryz.func86 rfl (Nat.le_of_ble_eq_true rfl) ?_;intro A hd hA;simp only [ix,Nat.reduceAdd];replace hA:A.tmps.size = 32:=hA
    (repeat' (first|refine W_seqk (fun K hK=>?_)|refine W_seqr ?_|fail));(first|(refine X_var (fun yn bx hn1 hn2 hn3 hn4 hn5=>?_))|(refine X_s (fun x K hK=>?_);go_simp;refine hK _ _ (Ext.alloc _ _) ?_;clear hK K;refine X_al x ?_;generalize (World.later _ x).heap.size = bx;intro yn hn1 hn2 hn3 hn4 hn5;clear x));have HBbx:=Lib.hid (Blk.new hn5.out);have HEbx:=Lib.hid yn.ext;have hlbx:(World.heap w).size≤bx:=hn1;generalize World.later w yn = W0 at *;clear hn1 hn2 hn3 hn4 hn5 yn
    (skip);(first|(refine X_var (fun yn bo hn1 hn2 hn3 hn4 hn5=>?_))|(refine X_s (fun x K hK=>?_);go_simp;refine hK _ _ (Ext.alloc _ _) ?_;clear hK K;refine X_al x ?_;generalize (World.later _ x).heap.size = bo;intro yn hn1 hn2 hn3 hn4 hn5;clear x));have HBbo:=Lib.hid (Blk.new hn5.out);have HEbo:=Lib.hid yn.ext;have hlbo:(World.heap W0).size≤bo:=hn1;generalize World.later W0 yn = W at *;clear hn1 hn2 hn3 hn4 hn5 yn
    have HBX:=Lib.hid ((fbox2 HBbx.out).later HEbo.out)
    have HE:=Lib.hid (Ext.trans HEbx.out HEbo.out)
    have hbb:bx < bo:=by have:=HBbx.out.lt;omega
    have hE0:=HEbx.out.size
    have HBO:=HBbo
    have hE1:=HEbo.out.size
    clear HBbx HBbo HEbx HEbo
    have hbol:=HBO.out.lt
    obtain ⟨hlt,d0,d1,d2,d3,d4,d5,d6,d7,d8,d9,d10⟩:=fcells HBX.out
    (repeat' (first|refine X_q ?_|refine X_nil ?_|refine W_seqk (fun K hK=>?_)|refine W_seqr ?_|go_step));(first|(refine X_var (fun yn bs hn1 hn2 hn3 hn4 hn5=>?_))|(refine X_s (fun x K hK=>?_);go_simp;refine hK _ _ (Ext.alloc _ _) ?_;clear hK K;refine X_al x ?_;generalize (World.later _ x).heap.size = bs;intro yn hn1 hn2 hn3 hn4 hn5;clear x));have HBbs:=Lib.hid (Blk.new hn5.out);have HEbs:=Lib.hid yn.ext;have hlbs:(World.heap W).size≤bs:=hn1;generalize World.later W yn = W2 at *;clear hn1 hn2 hn3 hn4 hn5 yn
    clear hlt d0 d1 d2 d3 d4 d5 d6 d7 d8 d9 d10
    have hbs:bo < bs:=by omega
    replace HE:=Lib.hid (Ext.trans HE.out HEbs.out)
    replace HBX:=Lib.hid (HBX.out.later HEbs.out)
    replace HBO:=Lib.hid (HBO.out.later HEbs.out)
    have HBS:=HBbs
    have hE2:=HE.out.size
    clear HBbs HEbs
    obtain ⟨hlt,d0,d1,d2,d3,d4,d5,d6,d7,d8,d9,d10⟩:=fcells HBX.out
    have hsl:=HBS.out.lt
    repeat' (first|refine X_q ?_|refine X_nil ?_|refine W_seqk (fun K hK=>?_)|refine W_seqr ?_|refine W_tt ?_|go_step)
    obtain ⟨G,hG⟩:∃ G:Nat→Prop,G = (fun k=>k = bs):=⟨_,rfl⟩;have HGo:Hid (G bs):=Lib.hid (by subst hG;rfl);have hGbx:¬ G bx:=(by subst hG;show ¬ bx = bs;omega);clear hG
    refine W_drawG G [(0,0),(1,3),(2,0),(3,0),(4,0),(5,0),(6,0),(7,0),(8,0),(9,0),(10,0),(11,2),(12,0),(13,2),(14,0),(15,2),(16,0),(17,2),(18,0),(19,2)] (by kernel_rfl) (by kernel_rfl) ?_
    repeat' (first|refine Y_q ?_|refine Y_r ?_|fail)
    refine Y_store (off:=2) HBS.out HGo.out (fun W1 hM1 hG1 hB1=>?_);replace HE:=Lib.hid (Ext.fresh HE.out hM1 (fun k hk=>by subst hk;omega));replace HBO:=Lib.hid (HBO.out.mod hM1 (fun h=>by omega));replace HBX:=Lib.hid (HBX.out.mod hM1 (fun h=>by omega));replace HBS:=Lib.hid hB1;clear hM1 hB1 hG1
    repeat' (first|refine Y_q ?_|fail)
    refine Y_store (off:=5) HBS.out HGo.out (fun W1 hM1 hG1 hB1=>?_);replace HE:=Lib.hid (Ext.fresh HE.out hM1 (fun k hk=>by subst hk;omega));replace HBO:=Lib.hid (HBO.out.mod hM1 (fun h=>by omega));replace HBX:=Lib.hid (HBX.out.mod hM1 (fun h=>by omega));replace HBS:=Lib.hid hB1;clear hM1 hB1 hG1
    repeat' (first|refine Y_q ?_|fail)
    refine Y_store (off:=6) HBS.out HGo.out (fun W1 hM1 hG1 hB1=>?_);replace HE:=Lib.hid (Ext.fresh HE.out hM1 (fun k hk=>by subst hk;omega));replace HBO:=Lib.hid (HBO.out.mod hM1 (fun h=>by omega));replace HBX:=Lib.hid (HBX.out.mod hM1 (fun h=>by omega));replace HBS:=Lib.hid hB1;clear hM1 hB1 hG1
    repeat' (first|refine Y_q ?_|fail)
    refine Y_store (off:=7) HBS.out HGo.out (fun W1 hM1 hG1 hB1=>?_);replace HE:=Lib.hid (Ext.fresh HE.out hM1 (fun k hk=>by subst hk;omega));replace HBO:=Lib.hid (HBO.out.mod hM1 (fun h=>by omega));replace HBX:=Lib.hid (HBX.out.mod hM1 (fun h=>by omega));replace HBS:=Lib.hid hB1;clear hM1 hB1 hG1
    repeat' (first|refine Y_q ?_|fail)
    refine Y_store (off:=8) HBS.out HGo.out (fun W1 hM1 hG1 hB1=>?_);replace HE:=Lib.hid (Ext.fresh HE.out hM1 (fun k hk=>by subst hk;omega));replace HBO:=Lib.hid (HBO.out.mod hM1 (fun h=>by omega));replace HBX:=Lib.hid (HBX.out.mod hM1 (fun h=>by omega));replace HBS:=Lib.hid hB1;clear hM1 hB1 hG1
    repeat' (first|refine Y_nil ?_)
    clear hlt d0 d1 d2 d3 d4 d5 d6 d7 d8 d9 d10 hsl
    have o0:=HBS.out.cell (k:=0) (by simp)
    have o1:=HBS.out.cell (k:=1) (by simp)
    have o2:=HBS.out.cell (k:=2) (by simp)
    have o3:=HBS.out.cell (k:=3) (by simp)
    have o4:=HBS.out.cell (k:=4) (by simp)
    have o5:=HBS.out.cell (k:=5) (by simp)
    have o6:=HBS.out.cell (k:=6) (by simp)
    have o7:=HBS.out.cell (k:=7) (by simp)
    have o8:=HBS.out.cell (k:=8) (by simp)
    have hsl:=HBS.out.lt
    simp [put,Value.cells] at o0 o1 o2 o3 o4 o5 o6 o7 o8
    repeat' (first|refine X_q ?_|refine W_seqk (fun K hK=>?_)|refine W_seqr ?_|go_step)
    refine X_store (off:=0) HBO.out (fun W1 hM1 hB1=>?_);replace HE:=Lib.hid (Ext.fresh HE.out hM1 (fun k hk=>by subst hk;omega));replace HBX:=Lib.hid (HBX.out.mod hM1 (fun h=>by omega));replace HBO:=Lib.hid hB1;clear hM1 hB1
    repeat' (first|refine X_nil ?_|refine W_ret ?_|go_step)
    refine Body_retcell1 (cs:=Stand.cs ⟨s.role,s.epoch,s.version,s.flushed,s.high,s.beg,s.isr,s.counts,[s.known 0,s.known 1,s.known 2,s.known 3]⟩ (.slice A2 s.isr.length c2) (.slice A3 s.counts.length c3) (.slice (some ⟨bx,11,none⟩) 4 4)) hd ⟨HE.out,_,_,_,by rw [HR.out],(HVR.out.later HE.out).ri.rd,(HVR.out.later HE.out).rc.rd,fknowns HBX.out⟩ HBO.out (fun k hk=>stand_cs ?_ hk) Tryz.underlying37
    refine ⟨?_,?_,?_,?_,?_,?_,?_,?_,?_⟩ <;> rfl
  · have hrb:(s.role == 3) = false:=by simp [hr]
    have hst:s.stand = ⟨s.role,s.epoch,0,s.flushed,s.high,0,[],[],[]⟩:=by unfold RepS.stand;rw [if_neg hr]
    rw [hst]
    clear hst
    refine Fn_of Tryz.func86 rfl (Nat.le_of_ble_eq_true rfl) ?_;intro A hd hA;simp only [ix,Nat.reduceAdd];replace hA:A.tmps.size = 32:=hA
    (repeat' (first|refine W_seqk (fun K hK=>?_)|refine W_seqr ?_|fail));(first|(refine X_var (fun yn bx hn1 hn2 hn3 hn4 hn5=>?_))|(refine X_s (fun x K hK=>?_);go_simp;refine hK _ _ (Ext.alloc _ _) ?_;clear hK K;refine X_al x ?_;generalize (World.later _ x).heap.size = bx;intro yn hn1 hn2 hn3 hn4 hn5;clear x));have HBbx:=Lib.hid (Blk.new hn5.out);have HEbx:=Lib.hid yn.ext;have hlbx:(World.heap w).size≤bx:=hn1;generalize World.later w yn = W0 at *;clear hn1 hn2 hn3 hn4 hn5 yn
    (skip);(first|(refine X_var (fun yn bo hn1 hn2 hn3 hn4 hn5=>?_))|(refine X_s (fun x K hK=>?_);go_simp;refine hK _ _ (Ext.alloc _ _) ?_;clear hK K;refine X_al x ?_;generalize (World.later _ x).heap.size = bo;intro yn hn1 hn2 hn3 hn4 hn5;clear x));have HBbo:=Lib.hid (Blk.new hn5.out);have HEbo:=Lib.hid yn.ext;have hlbo:(World.heap W0).size≤bo:=hn1;generalize World.later W0 yn = W at *;clear hn1 hn2 hn3 hn4 hn5 yn
    have HBX:=Lib.hid ((fbox2 HBbx.out).later HEbo.out)
    have HE:=Lib.hid (Ext.trans HEbx.out HEbo.out)
    have hbb:bx < bo:=by have:=HBbx.out.lt;omega
    have hE0:=HEbx.out.size
    have HBO:=HBbo
    have hE1:=HEbo.out.size
    clear HBbx HBbo HEbx HEbo
    have hbol:=HBO.out.lt
    obtain ⟨hlt,d0,d1,d2,d3,d4,d5,d6,d7,d8,d9,d10⟩:=fcells HBX.out
    (repeat' (first|refine X_q ?_|refine X_nil ?_|refine W_seqk (fun K hK=>?_)|refine W_seqr ?_|go_step));(first|(refine X_var (fun yn bs hn1 hn2 hn3 hn4 hn5=>?_))|(refine X_s (fun x K hK=>?_);go_simp;refine hK _ _ (Ext.alloc _ _) ?_;clear hK K;refine X_al x ?_;generalize (World.later _ x).heap.size = bs;intro yn hn1 hn2 hn3 hn4 hn5;clear x));have HBbs:=Lib.hid (Blk.new hn5.out);have HEbs:=Lib.hid yn.ext;have hlbs:(World.heap W).size≤bs:=hn1;generalize World.later W yn = W2 at *;clear hn1 hn2 hn3 hn4 hn5 yn
    clear hlt d0 d1 d2 d3 d4 d5 d6 d7 d8 d9 d10
    have hbs:bo < bs:=by omega
    replace HE:=Lib.hid (Ext.trans HE.out HEbs.out)
    replace HBX:=Lib.hid (HBX.out.later HEbs.out)
    replace HBO:=Lib.hid (HBO.out.later HEbs.out)
    have HBS:=HBbs
    have hE2:=HE.out.size
    clear HBbs HEbs
    obtain ⟨hlt,d0,d1,d2,d3,d4,d5,d6,d7,d8,d9,d10⟩:=fcells HBX.out
    have hsl:=HBS.out.lt
    repeat' (first|refine X_q ?_|refine X_nil ?_|refine W_seqk (fun K hK=>?_)|refine W_seqr ?_|refine W_skip ?_|refine W_ff ?_|go_step)
    clear hlt d0 d1 d2 d3 d4 d5 d6 d7 d8 d9 d10 hsl
    have o0:=HBS.out.cell (k:=0) (by simp)
    have o1:=HBS.out.cell (k:=1) (by simp)
    have o2:=HBS.out.cell (k:=2) (by simp)
    have o3:=HBS.out.cell (k:=3) (by simp)
    have o4:=HBS.out.cell (k:=4) (by simp)
    have o5:=HBS.out.cell (k:=5) (by simp)
    have o6:=HBS.out.cell (k:=6) (by simp)
    have o7:=HBS.out.cell (k:=7) (by simp)
    have o8:=HBS.out.cell (k:=8) (by simp)
    have hsl:=HBS.out.lt
    simp [put,Value.cells] at o0 o1 o2 o3 o4 o5 o6 o7 o8
    repeat' (first|refine X_q ?_|fail)
    refine X_store (off:=0) HBO.out (fun W1 hM1 hB1=>?_);replace HE:=Lib.hid (Ext.fresh HE.out hM1 (fun k hk=>by subst hk;omega));replace HBX:=Lib.hid (HBX.out.mod hM1 (fun h=>by omega));replace HBO:=Lib.hid hB1;clear hM1 hB1
    repeat' (first|refine X_nil ?_|refine W_ret ?_|go_step)
    refine Body_retcell1 (cs:=Stand.cs ⟨s.role,s.epoch,0,s.flushed,s.high,0,[],[],[]⟩ (.slice none 0 0) (.slice none 0 0) (.slice none 0 0)) hd ⟨HE.out,_,_,_,rfl,Rd.nil _,Rd.nil _,Rd.nil _⟩ HBO.out (fun k hk=>stand_cs ?_ hk) Tryz.underlying37
    refine ⟨?_,?_,?_,?_,?_,?_,?_,?_,?_⟩ <;> rfl
theorem visible11_calls {N:Nat→Prop} {w:World} {uL uI uC:Value} {s:RepS} (h:VR N w uL uI uC s) (hl:s.log.length≤4096) (h0:0≤s.high) (h1:s.high≤s.log.length):Ret Tryz.prog 87 #[s.v uL uI uC] w fun v w'=>Ext w w'∧RdE w' v s.vis:=by
  have HVR:=Lib.hid h
  obtain ⟨A1,c1,rfl,-⟩:=h.rl.rd.ent
  obtain ⟨A2,c2,rfl,-⟩:=h.ri.rd.int
  obtain ⟨A3,c3,rfl,-⟩:=h.rc.rd.int
  clear h
  obtain ⟨hn,hhn⟩:∃ hn:Nat,s.high = hn:=⟨s.high.toNat,by omega⟩
  have HHN:=Lib.hid hhn
  have hnl:hn≤s.log.length:=by omega
  clear hhn h0 h1
  refine Fn_of Tryz.func87 rfl (Nat.le_of_ble_eq_true rfl) ?_;intro A hd hA;simp only [ix,Nat.reduceAdd];replace hA:A.tmps.size = 29:=hA
  (repeat' (first|refine W_seqk (fun K hK=>?_)|refine W_seqr ?_|fail));(first|(refine X_var (fun yn bx hn1 hn2 hn3 hn4 hn5=>?_))|(refine X_s (fun x K hK=>?_);go_simp;refine hK _ _ (Ext.alloc _ _) ?_;clear hK K;refine X_al x ?_;generalize (World.later _ x).heap.size = bx;intro yn hn1 hn2 hn3 hn4 hn5;clear x));have HBbx:=Lib.hid (Blk.new hn5.out);have HEbx:=Lib.hid yn.ext;have hlbx:(World.heap w).size≤bx:=hn1;generalize World.later w yn = W at *;clear hn1 hn2 hn3 hn4 hn5 yn
  have HBX:=Lib.hid (fbox2 HBbx.out)
  have HE:=HEbx
  clear HBbx HEbx
  obtain ⟨hlt,d0,d1,d2,d3,d4,d5,d6,d7,d8,d9,d10⟩:=fcells HBX.out
  rw [HHN.out] at d6
  repeat' (first|refine X_q ?_|refine X_nil ?_|refine W_seqk (fun K hK=>?_)|refine W_seqr ?_|go_step)
  refine X_ret Tryz.func109 (view9_calls s.log _ _ hn _ (HVR.out.later HE.out).rl.rd (by omega) (by omega)) (fun r w1 hR=>?_)
  obtain ⟨hE1,hO⟩:=hR
  have HO:=Lib.hid hO
  clear hO
  replace HE:=Lib.hid (Ext.trans HE.out hE1)
  replace HBX:=Lib.hid (HBX.out.later hE1)
  clear hE1
  clear hlt d0 d1 d2 d3 d4 d5 d6 d7 d8 d9 d10
  have hV0:s.log.take s.high.toNat = s.log.take hn:=by rw [HHN.out];rfl
  generalize hV:viewL (s.log.take hn) = V at *
  have hvl:V.length≤4096:=by
    rw [← hV]
    have:=viewL_len (s.log.take hn)
    have h2:(s.log.take hn).length≤s.log.length:=by simp;omega
    omega
  have HV0:=Lib.hid hV0
  have HV:=Lib.hid hV
  clear hV hV0
  obtain ⟨A5,c5,rfl,hc2,hcm2,HR2⟩:=HO.out.int
  repeat' (first|refine X_q ?_|refine X_nil ?_|refine W_seqk (fun K hK=>?_)|refine W_seqr ?_|refine W_block ?_|go_step)
  refine W_loops [1,3,4,5] (fun n vs w'=>∃ (k:Nat) (y:Later w1) (u:Value),w' = w1.later y∧k + n = V.length∧vs = [.pointer (some ⟨bx,0,none⟩),u,.slice A5 V.length c5,.int .i64 k]∧OwnE (w1.later y) u (pick s.log (V.take k))∧∀ b,u.ownBlock = some b→w1.heap.size≤b) V.length hd hA (by decide) ?_ ?_
  · exact ⟨0,⟨w1,Ext.refl _⟩,_,rfl,by omega,by simp,Own.nil _,by intro b hb;cases hb⟩
  clear hd hA A;intro n vs B w' hd hA _ ⟨k,y,u,hw,hk,hvs,hown,hfr⟩;subst hw hvs
  simp only [List.zip_cons_cons,List.zip_nil_right,List.zip_nil_left]
  have Ho:=Lib.hid hown;clear hown
  have Hf:=Lib.hid hfr;clear hfr
  have HBX1:=Lib.hid (HBX.out.later y.ext)
  obtain ⟨hlt,-,-,-,-,d4,-⟩:=fcells HBX1.out
  by_cases hlt2:k < V.length
  · obtain ⟨e,b2,o2,HE2,rfl,hb2,c20⟩:=HR2.out k hlt2
    have hk2i:(k:Int) < V.length:=by omega
    have c20':=(cell?_mod y.ext hb2 (fun h=>h)).trans c20
    have hb2':b2 < (w1.later y).heap.size:=Nat.lt_of_lt_of_le hb2 y.ext.size
    obtain ⟨m,rfl,hm⟩:=viewL_get (p:=s.log.take hn) (k:=k) (i:=e) (by rw [HV.out];exact HE2.out)
    have hml:m < s.log.length:=by have:=(List.length_take_le hn s.log);omega
    obtain ⟨A6,c6,hA6,-,-,HR3⟩:=((HVR.out.later HE.out).later y.ext).rl.ent
    cases hA6
    obtain ⟨e3,b3,o3,HE3,rfl,hb3,x0,x1,x2,x3,x4,x5⟩:=HR3.out m hml
    have hmi:(m:Int) < s.log.length:=by omega
    have HT:Hid (pick s.log (V.take (k + 1)) = pick s.log (V.take k) ++ [e3]):=Lib.hid (by
      rw [take_snoc HE2.out]
      have:=HE3.out
      simp [pick,this])
    have hpl:(pick s.log (V.take k)).length≤4096:=by simp [pick];omega
    clear HR2 HR3 c20 hb2
    repeat' (first|refine X_q ?_|refine X_nil ?_|refine W_seqk (fun K hK=>?_)|refine W_seqr ?_|refine W_skip ?_|refine W_block ?_|refine W_tt ?_|go_step)
    refine W_drawσ [(0,0),(1,0),(2,0),(3,0),(4,0),(5,0),(6,0),(7,0),(8,0),(9,1),(10,2),(11,0)] (by kernel_rfl) (by kernel_rfl) ?_
    repeat' (first|refine X_q ?_|(refine X_s (fun x K hK=>?_);go_simp;refine hK _ _ (Ext.alloc _ _) ?_;clear hK K;refine X_al x ?_;generalize (World.later _ x).heap.size = bn;intro yn hn1 hn2 hn3 hn4 hn5;clear x)|fail)
    refine X_push (w0:=w1) (xs:=pick s.log (V.take k)) (Ext.trans y.ext yn.ext) elemEnt (Ho.out.later yn.ext) Hf.out (Rd.one (x:=e3) hn2 hn3 rfl) (by simp;omega) (by unfold maxLen;simp;omega) (fun y2 v' hO2 hF2 hN2 hM2=>?_)
    have hE4:Ext w1 (World.later _ y2):=y2.ext
    have HO2:=Lib.hid hO2
    have HF2:=Lib.hid hF2
    clear hO2 hF2 hN2 hM2
    generalize World.later _ y2 = W2 at *
    repeat' (first|refine X_q ?_|refine X_niln ?_|refine X_nil ?_|refine W_seqr ?_|go_step)
    obtain ⟨y3,rfl⟩:=hE4.get
    exact ⟨_,_,rfl,hd,hA,n - 1,by omega,k + 1,y3,_,rfl,by omega,by simp,by rw [HT.out];exact HO2.out,HF2.out⟩
  · obtain rfl:k = V.length:=by omega
    repeat' (first|refine X_q ?_|refine X_nil ?_|refine W_seqk (fun K hK=>?_)|refine W_seqr ?_|refine W_ret ?_|refine W_exit ?_|refine W_ff ?_|go_step)
    refine Body_ret hd ⟨Ext.trans HE.out y.ext,?_⟩
    have:=Ho.out
    rw [List.take_length] at this
    unfold RepS.vis
    rw [HV0.out,HV.out];exact this.rd (fun _=>rfl)
@[simp,go_sem] theorem field_high (a b c d e f g h i:Value) (w:World):(Instr.field 37 (.agg #[a,b,c,d,e,f,g,h,i]) 4).run Tryz.prog w = .ok e w:=by
  unfold Instr.field
  simp [Sem.run_bind,run_underlying Tryz.underlying37,part,Tryz.isAgg3,asAgg]
def kv:View:=⟨0,1,0,[0,1]⟩
def ke:Ent:=⟨0,-1,0,0,1,7⟩
def kf:Fetch:=⟨1,1,1,1,1⟩
def k0:RepS:=RepS.init 0 1
def k1:RepS:=(k0.learn kv).1
def k2:RepS:=k1.app ke
def k3:RepS:=k2.flush
def k4:RepS:=k3.serve kf 4
theorem k0_good:k0.Good:=good_init rfl
theorem k1_good:k1.Good:=good_learn k0_good _
theorem k2_good:k2.Good:=good_app k1_good _
theorem k3_good:k3.Good:=good_flush k2_good
theorem k4_good:k4.Good:=good_serve k3_good _ _
theorem k_learn:(k0.learn kv).2 = 0:=by decide
theorem k_app:k1.appNo ke = 0:=by decide
theorem k_high3:k3.stand.high = 0:=by decide
theorem k_serve:k3.serveNo kf 4 = 0:=by decide
theorem k_high4:k4.stand.high = 1:=by decide
theorem k_vis:k4.vis.length = 1:=by decide
theorem known11_calls {w:World}:Pure Tryz.prog 12 #[] w (.bool true):=by
  refine Fn_of Tryz.func12 rfl (Nat.le_of_ble_eq_true rfl) ?_;intro A hd hA;simp only [ix,Nat.reduceAdd];replace hA:A.tmps.size = 69:=hA
  repeat' (first|refine X_q ?_|refine X_nil ?_|refine W_seqk (fun K hK=>?_)|refine W_seqr ?_|go_step)
  refine X_ret Tryz.func13 (repNew_ok 0 1 rfl) (fun r w1 hR=>?_)
  obtain ⟨b,rfl,hE1,-,hR1⟩:=hR
  have HH1:=Lib.hid (HR.start (Ext.refl w) hE1 hR1)
  clear hE1 hR1
  repeat' (first|refine X_q ?_|refine X_nil ?_|refine W_seqk (fun K hK=>?_)|refine W_seqr ?_|(refine X_s (fun x K hK=>?_);go_simp;refine hK _ _ (Ext.alloc _ _) ?_;clear hK K;refine X_al x ?_;generalize (World.later _ x).heap.size = bn;intro yn hn1 hn2 hn3 hn4 hn5;clear x)|go_step)
  have hr2:RdI (w1.later yn) (.slice (some ⟨bn,0,none⟩) 2 2) [0,1]:=(Own.lit w1 yn (enc:=ics) (k:=1) (fun _=>rfl) _ [0,1] rfl hn5.out (by unfold maxLen;decide)).rd (fun _=>rfl)
  have hne2:¬ (fun k=>w.heap.size≤k∧k < w1.heap.size) bn:=fun h=>by omega
  refine X_ret Tryz.func20 (learn_calls (x:=kv) (HH1.out.later yn.ext).rep k0_good.ne ⟨_,rfl,hr2⟩ (fun a b c u hu k hk=>by cases hu;cases hk;exact hne2)) (fun r w2 hR=>?_)
  obtain ⟨rfl,hM,hR2⟩:=hR
  have HH2:=Lib.hid ((HH1.out.later yn.ext).step hM hR2)
  clear hM hR2 hr2 hne2 hn1 hn2 hn3 hn4 hn5
  rw [show (RepS.learn (RepS.init 0 1) kv).2 = 0 from k_learn]
  rw [show (RepS.learn (RepS.init 0 1) kv).1 = k1 from rfl] at HH2
  obtain ⟨F2,hF2⟩:∃ F,HR w w2 b F k1:=⟨_,HH2.out⟩
  have HF2:=Lib.hid hF2
  clear HH2 hF2 HH1 yn
  repeat' (first|refine X_q ?_|refine X_nil ?_|refine W_seqk (fun K hK=>?_)|refine W_seqr ?_|go_step)
  refine X_ret Tryz.func21 (append_rep HF2.out.rep k1_good.ne k1_good.ok k1_good.len ke) (fun r w3 hR=>?_)
  obtain ⟨rfl,hM,hR3⟩:=hR
  have hF3:=HF2.out.step hM hR3
  rw [k_app]
  obtain ⟨F3,hF3⟩:∃ F,HR w w3 b F k2:=⟨_,hF3⟩
  have HF3:=Lib.hid hF3
  clear hF3 HF2 hM hR3
  repeat' (first|refine X_q ?_|refine X_nil ?_|refine W_seqk (fun K hK=>?_)|refine W_seqr ?_|go_step)
  refine X_ret Tryz.func26 (flush_calls HF3.out.rep k2_good.ne k2_good.bks) (fun r w4 hR=>?_)
  obtain ⟨rfl,hM,hR4⟩:=hR
  have hF4:HR w w4 b F3 k3:=HF3.out.stepF hM hR4
  have HF4:=Lib.hid hF4
  clear hF4 HF3 hM hR4
  repeat' (first|refine X_q ?_|refine X_nil ?_|refine W_seqk (fun K hK=>?_)|refine W_seqr ?_|go_step)
  refine X_ret Tryz.func15 (standing_rep HF4.out.rep k3_good.ne (by have:=k3_good.ilen;omega) (by have:=k3_good.ilen;omega)) (fun r w5 hR=>?_)
  obtain ⟨hE5,u1,u2,u3,hv,-⟩:=hR
  have hv':r = .agg #[.int .i64 k3.stand.role,.int .i64 k3.stand.epoch,.int .i64 k3.stand.version,.int .i64 k3.stand.flushed,.int .i64 k3.stand.high,.int .i64 k3.stand.beg,u1,u2,u3]:=hv
  clear hv
  subst hv'
  have HF5:=Lib.hid (HF4.out.later hE5)
  have h3:=k_high3
  clear HF4 hE5
  repeat' (first|refine X_q ?_|refine X_nil ?_|refine W_seqk (fun K hK=>?_)|refine W_seqr ?_|go_step)
  refine X_ret Tryz.func23 (serve_rep HF5.out.rep k3_good.ne k3_good.may k3_good.len k3_good.bks kf 4) (fun r w6 hR=>?_)
  obtain ⟨⟨u,rfl,hO,-⟩,hM,hR6⟩:=hR
  have hF6:=HF5.out.step hM hR6
  rw [k_serve]
  obtain ⟨F6,hF6⟩:∃ F,HR w w6 b F k4:=⟨_,hF6⟩
  have HF6:=Lib.hid hF6
  obtain ⟨Au,mu,cu,rfl⟩:=own_slice hO
  clear hF6 HF5 hM hR6 hO
  have h4:=k_high4
  have h5:=k_vis
  repeat' (first|refine X_gt ?_|refine X_q ?_|refine X_nil ?_|(refine X_var (fun yn bn hn1 hn2 hn3 hn4 hn5=>?_))|refine W_seqk (fun K hK=>?_)|refine W_seqr ?_|go_step)
  have hE6:=yn.ext
  generalize World.later w6 yn = w7 at *
  clear hn1 hn2 hn3 hn4 hn5 yn
  have HF7:=Lib.hid (HF6.out.later hE6)
  clear HF6 hE6
  refine X_ret Tryz.func15 (standing_rep HF7.out.rep k4_good.ne (by have:=k4_good.ilen;omega) (by have:=k4_good.ilen;omega)) (fun r w8 hR=>?_)
  obtain ⟨hE8,u1,u2,u3,hv,-⟩:=hR
  have hv':r = .agg #[.int .i64 k4.stand.role,.int .i64 k4.stand.epoch,.int .i64 k4.stand.version,.int .i64 k4.stand.flushed,.int .i64 k4.stand.high,.int .i64 k4.stand.beg,u1,u2,u3]:=hv
  clear hv
  subst hv'
  have HF8:=Lib.hid (HF7.out.later hE8)
  clear HF7 hE8
  repeat' (first|refine X_gt ?_|refine X_q ?_|fail)
  refine X_ret Tryz.func28 (visible_rep HF8.out.rep k4_good.ne k4_good.ok k4_good.len k4_good.hi.1 k4_good.hi.2) (fun r w9 hR=>?_)
  obtain ⟨hE9,hO,-⟩:=hR
  have hE:Ext w w9:=Ext.trans HF8.out.ext hE9
  obtain ⟨A9,c9,rfl,-⟩:=(hO.rd (enc:=Ent.cs) (k:=6) (fun _=>rfl)).ent
  have HE:=Lib.hid hE
  clear hO hE9 HF8 hE
  repeat' (first|refine X_gt ?_|refine X_q ?_|refine X_nil ?_|refine W_ret ?_|go_step)
  exact Body_ret hd ⟨rfl,HE.out⟩
theorem samelog_calls (l m : List Ent) (u v : Value) (w : World) (hl : RdE w u l) (hm : RdE w v m) :
    Pure Tryz.prog 82 #[u,v] w (.bool (decide (l = m))):=by
  obtain ⟨A0,c,rfl,hc,hcm,HR⟩:=hl.ent
  obtain ⟨A1,c1,rfl,hc1,hcm1,HR1⟩:=hm.ent
  clear hl hm
  refine Fn_of Tryz.func82 rfl (Nat.le_of_ble_eq_true rfl) ?_;intro A hd hA;simp only [ix,Nat.reduceAdd];replace hA:A.tmps.size = 26:=hA
  repeat' (first|refine X_q ?_|refine X_nil ?_|refine W_seqk (fun K hK=>?_)|refine W_seqr ?_|refine W_ret ?_|refine W_skip ?_|refine W_block ?_|refine W_test (fun hc=>?_) (fun hc=>?_)|go_step)
  · refine Body_ret hd ⟨congrArg Value.bool ?_,by simp⟩
    have:l ≠ m:=fun e=>by subst e;simp at hc
    simp [this]
  have heq:l.length = m.length:=by have:=hc;simp at this;omega
  refine W_loops [0,1,5] (fun n vs w'=>∃ k:Nat,w' = w∧k + n = l.length∧vs = [.slice A0 l.length c,.slice A1 m.length c1,.int .i64 k]∧l.take k = m.take k) l.length hd hA (by decide) ⟨0,rfl,by omega,by simp,by simp⟩ ?_
  clear hd hA A;intro n vs B w' hd hA _ ⟨k,hw,hk,hvs,hm⟩;subst hw hvs
  simp only [List.zip_cons_cons,List.zip_nil_right,List.zip_nil_left]
  have Hm:=Lib.hid hm;clear hm
  have HQ:=Lib.hid heq;clear heq hc
  by_cases hlt:k < l.length
  · obtain ⟨e,b,o,HE,rfl,hb,c0,c1,c2,c3,c4,c5⟩:=HR.out k hlt
    have hlt2:k < m.length:=by rw [← HQ.out];exact hlt
    obtain ⟨x,b1,o1,HX,rfl,hb1,d0,d1,d2,d3,d4,d5⟩:=HR1.out k hlt2
    have g1:=fun ox oy a b w=>eqGuardEnt ox oy a b w
    have g2:=neqEnt e x
    repeat' (first|refine X_q ?_|refine X_niln ?_|refine X_nil ?_|refine W_seqk (fun K hK=>?_)|refine W_seqr ?_|refine W_draw (by kernel_rfl) (by kernel_rfl) ?_|refine W_ret ?_|refine W_skip ?_|refine W_block ?_|refine W_tt ?_|refine W_test (fun hc=>?_) (fun hc=>?_)|go_step)
    · refine Body_ret hd ⟨congrArg Value.bool ?_,by simp⟩
      have:l ≠ m:=fun h=>by subst h;rw [HE.out] at HX;cases HX.out;simp at hc
      simp [this]
    · refine ⟨_,_,rfl,hd,hA,n - 1,by omega,k + 1,trivial,by omega,by simp,?_⟩
      rw [take_snoc HE.out,take_snoc HX.out,Hm.out]
      simp at hc
      rw [hc]
  · repeat' (first|refine X_q ?_|refine X_nil ?_|refine W_seqk (fun K hK=>?_)|refine W_seqr ?_|refine W_ret ?_|refine W_exit ?_|refine W_ff ?_|go_step)
    obtain rfl:k = l.length:=by omega
    refine Body_ret hd ⟨congrArg Value.bool ?_,by simp⟩
    have:=Hm.out
    rw [List.take_length,HQ.out,List.take_length] at this
    simp [this]
theorem has11_calls {N:Nat→Prop} {w:World} {uL uI uC:Value} {s:RepS} (h:VR N w uL uI uC s) (hl:s.log.length≤4096) (h0:0≤s.high) (h1:s.high≤s.log.length) (id num seq:Int):Pure Tryz.prog 45 #[s.v uL uI uC,.int .i64 id,.int .i64 num,.int .i64 seq] w (.bool (s.has id num seq)):=by
  have HVR:=Lib.hid h
  obtain ⟨A1,c1,rfl,-⟩:=h.rl.rd.ent
  obtain ⟨A2,c2,rfl,-⟩:=h.ri.rd.int
  obtain ⟨A3,c3,rfl,-⟩:=h.rc.rd.int
  clear h
  obtain ⟨hn,hhn⟩:∃ hn:Nat,s.high = hn:=⟨s.high.toNat,by omega⟩
  have hnl:hn≤s.log.length:=by omega
  have HHN:Hid (s.has id num seq = hasE (s.log.take hn) id num seq):=Lib.hid (by unfold RepS.has;rw [hhn];rfl)
  have HH:=Lib.hid hhn
  clear hhn h0 h1
  refine Fn_of Tryz.func45 rfl (Nat.le_of_ble_eq_true rfl) ?_;intro A hd hA;simp only [ix,Nat.reduceAdd];replace hA:A.tmps.size = 43:=hA
  (repeat' (first|refine W_seqk (fun K hK=>?_)|refine W_seqr ?_|fail));(first|(refine X_var (fun yn bx hn1 hn2 hn3 hn4 hn5=>?_))|(refine X_s (fun x K hK=>?_);go_simp;refine hK _ _ (Ext.alloc _ _) ?_;clear hK K;refine X_al x ?_;generalize (World.later _ x).heap.size = bx;intro yn hn1 hn2 hn3 hn4 hn5;clear x));have HBbx:=Lib.hid (Blk.new hn5.out);have HEbx:=Lib.hid yn.ext;have hlbx:(World.heap w).size≤bx:=hn1;generalize World.later w yn = W at *;clear hn1 hn2 hn3 hn4 hn5 yn
  have HBX:=Lib.hid (fbox2 HBbx.out)
  have HE:=HEbx
  clear HBbx HEbx
  obtain ⟨hlt,d0,d1,d2,d3,d4,d5,d6,d7,d8,d9,d10⟩:=fcells HBX.out
  rw [HH.out] at d6
  obtain ⟨A6,c6,hA6,-,-,HR3⟩:=(HVR.out.later HE.out).rl.ent
  cases hA6
  repeat' (first|refine X_q ?_|refine X_nil ?_|refine W_seqk (fun K hK=>?_)|refine W_seqr ?_|refine W_block ?_|go_step)
  refine W_loops [1,2,3,4,8,9] (fun n vs w'=>∃ (k:Nat) (y:Later W),w' = W.later y∧k + n = hn∧vs = [.int .i64 id,.int .i64 num,.int .i64 seq,.pointer (some ⟨bx,0,none⟩),.bool false,.int .i64 k]∧hasE (s.log.take k) id num seq = false) hn hd hA (by decide) ?_ ?_
  · exact ⟨0,⟨W,Ext.refl _⟩,rfl,by omega,by simp,rfl⟩
  clear hd hA A;intro n vs B w' hd hA _ ⟨k,y,hw,hk,hvs,hg⟩;subst hw hvs
  have HG:=Lib.hid hg
  clear hg
  simp only [List.zip_cons_cons,List.zip_nil_right,List.zip_nil_left]
  by_cases hlt2:k < hn
  · obtain ⟨e,b3,o3,HE3,rfl,hb3,x0,x1,x2,x3,x4,x5⟩:=HR3.out k (by omega)
    have hki:(k:Int) < hn:=by omega
    have hki2:(k:Int) < s.log.length:=by omega
    have hst:Hid (hasE (s.log.take (k + 1)) id num seq = ((e.kind == 1) && (e.id == id) && (e.num == num) && (e.seq == seq))):=Lib.hid (by
      have:=HG.out
      unfold hasE at *
      rw [take_snoc HE3.out,List.any_append,this];simp)
    have hmem:Hid (((e.kind == 1) && (e.id == id) && (e.num == num) && (e.seq == seq)) = true→hasE (s.log.take hn) id num seq = true):=Lib.hid (fun h=>List.any_eq_true.2 ⟨e,List.mem_of_getElem? (by rw [List.getElem?_take,if_pos hlt2];exact HE3.out),h⟩)
    by_cases g0:e.kind = 1
    · have q0:(e.kind == 1) = true:=by simp [g0]
      clear g0
      by_cases g1:e.id = id
      · have q1:(e.id == id) = true:=by simp [g1]
        clear g1
        by_cases g2:e.num = num
        · have q2:(e.num == num) = true:=by simp [g2]
          clear g2
          by_cases g3:e.seq = seq
          · have q3:(e.seq == seq) = true:=by simp [g3]
            clear g3
            repeat' (first|refine X_gt ?_|refine X_q ?_|refine X_nil ?_|(refine X_var (fun yn bn hn1 hn2 hn3 hn4 hn5=>?_))|refine W_seqk (fun K hK=>?_)|refine W_seqr ?_|refine W_ret ?_|refine W_skip ?_|refine W_block ?_|refine W_tt ?_|go_step)
            exact Body_ret hd ⟨by rw [HHN.out,hmem.out (by simp [q0,q1,q2,q3])],Ext.trans HE.out (Ext.trans y.ext yn.ext)⟩
          · have q3:(e.seq == seq) = false:=beq_false_of_ne g3
            clear g3
            repeat' (first|refine X_gt ?_|refine X_q ?_|refine X_nil ?_|(refine X_var (fun yn bn hn1 hn2 hn3 hn4 hn5=>?_))|refine W_seqk (fun K hK=>?_)|refine W_seqr ?_|refine W_skip ?_|refine W_block ?_|refine W_tt ?_|refine W_ff ?_|go_step)
            exact ⟨_,_,rfl,hd,hA,n - 1,by omega,k + 1,y.trans yn,rfl,by omega,by simp,by rw [hst.out];simp [q0,q1,q2,q3]⟩
        · have q2:(e.num == num) = false:=beq_false_of_ne g2
          clear g2
          repeat' (first|refine X_gt ?_|refine X_q ?_|refine X_g ?_|refine X_gf ?_|refine X_nil ?_|(refine X_var (fun yn bn hn1 hn2 hn3 hn4 hn5=>?_))|refine W_seqk (fun K hK=>?_)|refine W_seqr ?_|refine W_skip ?_|refine W_block ?_|refine W_tt ?_|refine W_ff ?_|go_step)
          exact ⟨_,_,rfl,hd,hA,n - 1,by omega,k + 1,y.trans yn,rfl,by omega,by simp,by rw [hst.out];simp [q0,q1,q2]⟩
      · have q1:(e.id == id) = false:=beq_false_of_ne g1
        clear g1
        repeat' (first|refine X_gt ?_|refine X_q ?_|refine X_g ?_|refine X_gf ?_|refine X_nil ?_|(refine X_var (fun yn bn hn1 hn2 hn3 hn4 hn5=>?_))|refine W_seqk (fun K hK=>?_)|refine W_seqr ?_|refine W_skip ?_|refine W_block ?_|refine W_tt ?_|refine W_ff ?_|go_step)
        exact ⟨_,_,rfl,hd,hA,n - 1,by omega,k + 1,y.trans yn,rfl,by omega,by simp,by rw [hst.out];simp [q0,q1]⟩
    · have q0:(e.kind == 1) = false:=beq_false_of_ne g0
      clear g0
      repeat' (first|refine X_q ?_|refine X_g ?_|refine X_gf ?_|refine X_nil ?_|(refine X_var (fun yn bn hn1 hn2 hn3 hn4 hn5=>?_))|refine W_seqk (fun K hK=>?_)|refine W_seqr ?_|refine W_skip ?_|refine W_block ?_|refine W_tt ?_|refine W_ff ?_|go_step)
      exact ⟨_,_,rfl,hd,hA,n - 1,by omega,k + 1,y.trans yn,rfl,by omega,by simp,by rw [hst.out];simp [q0]⟩
  · obtain rfl:k = hn:=by omega
    repeat' (first|refine X_q ?_|refine X_nil ?_|refine W_seqk (fun K hK=>?_)|refine W_seqr ?_|refine W_ret ?_|refine W_exit ?_|refine W_ff ?_|go_step)
    exact Body_ret hd ⟨by rw [HHN.out,HG.out],Ext.trans HE.out y.ext⟩
theorem samestand_calls {w:World} {v1 v2:Value} {x:Stand} (h1:SV w v1 x) (h2:SV w v2 x):Pure Tryz.prog 29 #[v1,v2] w (.bool true):=by
  obtain ⟨u1,u2,u3,rfl,i1,i2,i3⟩:=h1
  obtain ⟨t1,t2,t3,rfl,j1,j2,j3⟩:=h2
  have HI:=Lib.hid (And.intro i1 (And.intro i2 i3))
  have HJ:=Lib.hid (And.intro j1 (And.intro j2 j3))
  obtain ⟨A1,c1,rfl,-⟩:=i1.int
  obtain ⟨A2,c2,rfl,-⟩:=i2.int
  obtain ⟨A3,c3,rfl,-⟩:=i3.int
  obtain ⟨A4,c4,rfl,-⟩:=j1.int
  obtain ⟨A5,c5,rfl,-⟩:=j2.int
  obtain ⟨A6,c6,rfl,-⟩:=j3.int
  clear i1 i2 i3 j1 j2 j3
  have HQ1:Hid (∀ W,Ext w W→Pure Tryz.prog 70 #[.slice A1 x.isr.length c1,.slice A4 x.isr.length c4] W (.bool true)):=Lib.hid (fun W hE=>by
    have:=rints_calls _ _ _ _ W (HI.out.1.later hE) (HJ.out.1.later hE)
    rwa [decide_eq_true rfl] at this)
  have HQ2:Hid (∀ W,Ext w W→Pure Tryz.prog 70 #[.slice A2 x.counts.length c2,.slice A5 x.counts.length c5] W (.bool true)):=Lib.hid (fun W hE=>by
    have:=rints_calls _ _ _ _ W (HI.out.2.1.later hE) (HJ.out.2.1.later hE)
    rwa [decide_eq_true rfl] at this)
  have HQ3:Hid (∀ W,Ext w W→Pure Tryz.prog 70 #[.slice A3 x.known.length c3,.slice A6 x.known.length c6] W (.bool true)):=Lib.hid (fun W hE=>by
    have:=rints_calls _ _ _ _ W (HI.out.2.2.later hE) (HJ.out.2.2.later hE)
    rwa [decide_eq_true rfl] at this)
  refine Fn_of Tryz.func29 rfl (Nat.le_of_ble_eq_true rfl) ?_;intro A hd hA;simp only [ix,Nat.reduceAdd];replace hA:A.tmps.size = 66:=hA
  (repeat' (first|refine W_seqk (fun K hK=>?_)|refine W_seqr ?_|fail));(first|(refine X_var (fun yn bx hn1 hn2 hn3 hn4 hn5=>?_))|(refine X_s (fun x K hK=>?_);go_simp;refine hK _ _ (Ext.alloc _ _) ?_;clear hK K;refine X_al x ?_;generalize (World.later _ x).heap.size = bx;intro yn hn1 hn2 hn3 hn4 hn5;clear x));have HBbx:=Lib.hid (Blk.new hn5.out);have HEbx:=Lib.hid yn.ext;have hlbx:(World.heap w).size≤bx:=hn1;generalize World.later w yn = W0 at *;clear hn1 hn2 hn3 hn4 hn5 yn
  (skip);(first|(refine X_var (fun yn by_ hn1 hn2 hn3 hn4 hn5=>?_))|(refine X_s (fun x K hK=>?_);go_simp;refine hK _ _ (Ext.alloc _ _) ?_;clear hK K;refine X_al x ?_;generalize (World.later _ x).heap.size = by_;intro yn hn1 hn2 hn3 hn4 hn5;clear x));have HBby_:=Lib.hid (Blk.new hn5.out);have HEby_:=Lib.hid yn.ext;have hlby_:(World.heap W0).size≤by_:=hn1;generalize World.later W0 yn = W at *;clear hn1 hn2 hn3 hn4 hn5 yn
  have HE:=Lib.hid (Ext.trans HEbx.out HEby_.out)
  have HX:=Lib.hid (HBbx.out.later HEby_.out)
  have HY:=HBby_
  have hbx:=HX.out.lt
  have hby:=HY.out.lt
  have x0:=HX.out.cell (k:=0) (by simp)
  have y0:=HY.out.cell (k:=0) (by simp)
  have x1:=HX.out.cell (k:=1) (by simp)
  have y1:=HY.out.cell (k:=1) (by simp)
  have x2:=HX.out.cell (k:=2) (by simp)
  have y2:=HY.out.cell (k:=2) (by simp)
  have x3:=HX.out.cell (k:=3) (by simp)
  have y3:=HY.out.cell (k:=3) (by simp)
  have x4:=HX.out.cell (k:=4) (by simp)
  have y4:=HY.out.cell (k:=4) (by simp)
  have x5:=HX.out.cell (k:=5) (by simp)
  have y5:=HY.out.cell (k:=5) (by simp)
  have x6:=HX.out.cell (k:=6) (by simp)
  have y6:=HY.out.cell (k:=6) (by simp)
  have x7:=HX.out.cell (k:=7) (by simp)
  have y7:=HY.out.cell (k:=7) (by simp)
  have x8:=HX.out.cell (k:=8) (by simp)
  have y8:=HY.out.cell (k:=8) (by simp)
  simp at x0 y0 x1 y1 x2 y2 x3 y3 x4 y4 x5 y5 x6 y6 x7 y7 x8 y8
  clear HBbx HBby_ HEbx HEby_
  repeat' (first|(refine X_pure Tryz.func70 (HQ1.out _ HE.out) ?_)|(refine X_pure Tryz.func70 (HQ2.out _ HE.out) ?_)|(refine X_pure Tryz.func70 (HQ3.out _ HE.out) ?_)|refine X_gt ?_|refine X_q ?_|refine X_nil ?_|refine W_seqk (fun K hK=>?_)|refine W_seqr ?_|refine W_ret ?_|go_step)
  exact Body_ret hd ⟨rfl,HE.out⟩
theorem samereply_calls {w:World} {u1 u2:Value} {p:Reply} (h1:RdE w u1 p.entries) (h2:RdE w u2 p.entries):Pure Tryz.prog 41 #[p.v u1,p.v u2] w (.bool true):=by
  have HI:=Lib.hid (And.intro h1 h2)
  obtain ⟨A1,c1,rfl,-⟩:=h1.ent
  obtain ⟨A2,c2,rfl,-⟩:=h2.ent
  clear h1 h2
  have HQ1:Hid (∀ W,Ext w W→Pure Tryz.prog 82 #[.slice A1 p.entries.length c1,.slice A2 p.entries.length c2] W (.bool true)):=Lib.hid (fun W hE=>by
    have:=samelog_calls _ _ _ _ W (HI.out.1.later hE) (HI.out.2.later hE)
    rwa [decide_eq_true rfl] at this)
  refine Fn_of Tryz.func41 rfl (Nat.le_of_ble_eq_true rfl) ?_;intro A hd hA;simp only [ix,Nat.reduceAdd];replace hA:A.tmps.size = 59:=hA
  (repeat' (first|refine W_seqk (fun K hK=>?_)|refine W_seqr ?_|fail));(first|(refine X_var (fun yn bx hn1 hn2 hn3 hn4 hn5=>?_))|(refine X_s (fun x K hK=>?_);go_simp;refine hK _ _ (Ext.alloc _ _) ?_;clear hK K;refine X_al x ?_;generalize (World.later _ x).heap.size = bx;intro yn hn1 hn2 hn3 hn4 hn5;clear x));have HBbx:=Lib.hid (Blk.new hn5.out);have HEbx:=Lib.hid yn.ext;have hlbx:(World.heap w).size≤bx:=hn1;generalize World.later w yn = W0 at *;clear hn1 hn2 hn3 hn4 hn5 yn
  (skip);(first|(refine X_var (fun yn by_ hn1 hn2 hn3 hn4 hn5=>?_))|(refine X_s (fun x K hK=>?_);go_simp;refine hK _ _ (Ext.alloc _ _) ?_;clear hK K;refine X_al x ?_;generalize (World.later _ x).heap.size = by_;intro yn hn1 hn2 hn3 hn4 hn5;clear x));have HBby_:=Lib.hid (Blk.new hn5.out);have HEby_:=Lib.hid yn.ext;have hlby_:(World.heap W0).size≤by_:=hn1;generalize World.later W0 yn = W at *;clear hn1 hn2 hn3 hn4 hn5 yn
  have HE:=Lib.hid (Ext.trans HEbx.out HEby_.out)
  have HX:=Lib.hid (HBbx.out.later HEby_.out)
  have HY:=HBby_
  have hbx:=HX.out.lt
  have hby:=HY.out.lt
  have x0:=HX.out.cell (k:=0) (by simp)
  have y0:=HY.out.cell (k:=0) (by simp)
  have x1:=HX.out.cell (k:=1) (by simp)
  have y1:=HY.out.cell (k:=1) (by simp)
  have x2:=HX.out.cell (k:=2) (by simp)
  have y2:=HY.out.cell (k:=2) (by simp)
  have x3:=HX.out.cell (k:=3) (by simp)
  have y3:=HY.out.cell (k:=3) (by simp)
  have x4:=HX.out.cell (k:=4) (by simp)
  have y4:=HY.out.cell (k:=4) (by simp)
  have x5:=HX.out.cell (k:=5) (by simp)
  have y5:=HY.out.cell (k:=5) (by simp)
  have x6:=HX.out.cell (k:=6) (by simp)
  have y6:=HY.out.cell (k:=6) (by simp)
  have x7:=HX.out.cell (k:=7) (by simp)
  have y7:=HY.out.cell (k:=7) (by simp)
  simp at x0 y0 x1 y1 x2 y2 x3 y3 x4 y4 x5 y5 x6 y6 x7 y7
  clear HBbx HBby_ HEbx HEby_
  repeat' (first|(refine X_pure Tryz.func82 (HQ1.out _ HE.out) ?_)|refine X_gt ?_|refine X_q ?_|refine X_nil ?_|refine W_seqk (fun K hK=>?_)|refine W_seqr ?_|refine W_ret ?_|go_step)
  exact Body_ret hd ⟨rfl,HE.out⟩
theorem same_calls {N:Nat→Prop} {w:World} {b:Nat} {F:Nat→Prop} {s:RepS} {uL uI uC:Value} (h:Rep w b F s) (hg:s.Good) (hv:VR N w uL uI uC s):Pure Tryz.prog 48 #[.pointer (some ⟨b,0,none⟩),s.v uL uI uC] w (.bool true):=by
  have HP:=Lib.hid h
  have HG:=Lib.hid hg
  have HVR:=Lib.hid hv
  obtain ⟨A1,c1,rfl,-⟩:=hv.rl.rd.ent
  obtain ⟨A2,c2,rfl,-⟩:=hv.ri.rd.int
  obtain ⟨A3,c3,rfl,-⟩:=hv.rc.rd.int
  clear h hg hv
  refine Fn_of Tryz.func48 rfl (Nat.le_of_ble_eq_true rfl) ?_;intro A hd hA;simp only [ix,Nat.reduceAdd];replace hA:A.tmps.size = 24:=hA
  (repeat' (first|refine W_seqk (fun K hK=>?_)|refine W_seqr ?_|fail));(first|(refine X_var (fun yn bx hn1 hn2 hn3 hn4 hn5=>?_))|(refine X_s (fun x K hK=>?_);go_simp;refine hK _ _ (Ext.alloc _ _) ?_;clear hK K;refine X_al x ?_;generalize (World.later _ x).heap.size = bx;intro yn hn1 hn2 hn3 hn4 hn5;clear x));have HBbx:=Lib.hid (Blk.new hn5.out);have HEbx:=Lib.hid yn.ext;have hlbx:(World.heap w).size≤bx:=hn1;generalize World.later w yn = W at *;clear hn1 hn2 hn3 hn4 hn5 yn
  have HBX:=Lib.hid (fbox2 HBbx.out)
  have HE:=HEbx
  clear HBbx HEbx
  obtain ⟨hlt,d0,d1,d2,d3,d4,d5,d6,d7,d8,d9,d10⟩:=fcells HBX.out
  repeat' (first|refine X_q ?_|refine X_nil ?_|refine W_seqk (fun K hK=>?_)|go_step)
  refine W_drawσ [(0,0),(2,0),(3,0),(1,1),(4,1),(5,0),(6,0),(8,0),(7,1),(9,1),(10,1),(11,0),(12,0),(13,0),(15,0),(14,1),(16,1),(17,1),(18,0),(19,0)] (by kernel_rfl) (by kernel_rfl) ?_
  repeat' (first|refine X_q ?_|fail)
  refine X_ret1 Tryz.func17 (R:=fun W v W'=>Ext W W'∧OwnE W' v s.log∧∀ b,v.ownBlock = some b→W.heap.size≤b) (fun x=>log_calls ((HP.out.later HE.out).later x.2) HG.out.ne (by have:=HG.out.len;omega)) (fun x r W1 hR=>⟨hR.1,?_⟩)
  obtain ⟨hE,hO,-⟩:=hR
  have HO:=Lib.hid (hO.rd (enc:=Ent.cs) (k:=6) (fun _=>rfl))
  obtain ⟨B1,m1,e1,rfl⟩:=own_slice hO
  have hE1:=Ext.trans x.2 hE
  replace HBX:=Lib.hid (HBX.out.later hE1)
  replace HE:=Lib.hid (Ext.trans HE.out hE1)
  clear hlt d0 d1 d2 d3 d4 d5 d6 d7 d8 d9 d10 hO hE hE1 x
  obtain ⟨hlt,d0,d1,d2,d3,d4,d5,d6,d7,d8,d9,d10⟩:=fcells HBX.out
  have HSL:Hid (∀ W,Ext W1 W→Pure Tryz.prog 82 #[.slice B1 m1 e1,.slice A1 s.log.length c1] W (.bool true)):=Lib.hid (fun W hE=>by
    have:=samelog_calls _ _ _ _ W (HO.out.later hE) ((HVR.out.later HE.out).later hE).rl.rd
    rwa [decide_eq_true rfl] at this)
  repeat' (first|(refine X_pure1 Tryz.func82 (fun x=>HSL.out _ x.2) ?_)|refine X_gt ?_|refine X_q ?_|fail)
  refine X_fload HBX.out ?_ (hu:=Tryz.underlying33)
  repeat' (first|refine X_gt ?_|fail)
  refine X_ret1 Tryz.func15 (R:=fun W v w'=>Ext W w'∧∃ u1 u2 u3,v = s.stand.v u1 u2 u3∧RdI w' u1 s.stand.isr∧RdI w' u2 s.stand.counts∧RdI w' u3 s.stand.known∧(∀ k,u1.ownBlock = some k∨u2.ownBlock = some k∨u3.ownBlock = some k→W.heap.size≤k)) (fun x=>standing_rep ((HP.out.later HE.out).later x.2) HG.out.ne (by have:=HG.out.ilen;omega) (by have:=HG.out.ilen;omega)) (fun x r W2 hR=>⟨hR.1,?_⟩)
  obtain ⟨hE,u1,u2,u3,rfl,k1,k2,k3,-⟩:=hR
  have HS1:Hid (SV W2 (s.stand.v u1 u2 u3) s.stand):=Lib.hid ⟨u1,u2,u3,rfl,k1,k2,k3⟩
  have hE1:=Ext.trans x.2 hE
  replace HBX:=Lib.hid (HBX.out.later hE1)
  replace HE:=Lib.hid (Ext.trans HE.out hE1)
  clear hlt d0 d1 d2 d3 d4 d5 d6 d7 d8 d9 d10 hE hE1 x HSL HO k1 k2 k3
  have hlt:=HBX.out.lt
  repeat' (first|refine X_gt ?_|fail)
  refine X_ret1 Tryz.func86 (R:=fun W v w'=>Ext W w'∧SV w' v s.stand) (fun x=>standing11_calls ((HVR.out.later HE.out).later x.2)) (fun x r W3 hR=>⟨hR.1,?_⟩)
  obtain ⟨hE,hS⟩:=hR
  have hE1:=Ext.trans x.2 hE
  have HSS:Hid (∀ W,Ext W3 W→Pure Tryz.prog 29 #[s.stand.v u1 u2 u3,r] W (.bool true)):=Lib.hid (fun W hE=>samestand_calls (HS1.out.later (Ext.trans hE1 hE)) (hS.later hE))
  replace HBX:=Lib.hid (HBX.out.later hE1)
  replace HE:=Lib.hid (Ext.trans HE.out hE1)
  clear hE hE1 hS x HS1 hlt
  have hlt:=HBX.out.lt
  repeat' (first|(refine X_pure1 Tryz.func29 (fun x=>HSS.out _ x.2) ?_)|refine X_gt ?_|refine X_q ?_|fail)
  refine X_fload HBX.out ?_ (hu:=Tryz.underlying33)
  repeat' (first|refine X_gt ?_|fail)
  refine X_ret1 Tryz.func28 (R:=fun W v w'=>Ext W w'∧OwnE w' v s.vis∧∀ k,v.ownBlock = some k→W.heap.size≤k) (fun x=>visible_rep ((HP.out.later HE.out).later x.2) HG.out.ne HG.out.ok HG.out.len HG.out.hi.1 HG.out.hi.2) (fun x r4 W4 hR=>⟨hR.1,?_⟩)
  obtain ⟨hE,hO,-⟩:=hR
  have HO:=Lib.hid (hO.rd (enc:=Ent.cs) (k:=6) (fun _=>rfl))
  have hE1:=Ext.trans x.2 hE
  replace HE:=Lib.hid (Ext.trans HE.out hE1)
  clear hO hE hE1 x HBX hlt
  repeat' (first|refine X_gt ?_|fail)
  refine X_ret1 Tryz.func87 (R:=fun W v w'=>Ext W w'∧RdE w' v s.vis) (fun x=>visible11_calls ((HVR.out.later HE.out).later x.2) HG.out.len HG.out.hi.1 HG.out.hi.2) (fun x r W5 hR=>⟨hR.1,?_⟩)
  obtain ⟨hE,hS⟩:=hR
  have hE1:=Ext.trans x.2 hE
  have HSL:Hid (∀ W,Ext W5 W→Pure Tryz.prog 82 #[r4,r] W (.bool true)):=Lib.hid (fun W hE=>by
    have:=samelog_calls _ _ _ _ W (HO.out.later (Ext.trans hE1 hE)) (hS.later hE)
    rwa [decide_eq_true rfl] at this)
  replace HE:=Lib.hid (Ext.trans HE.out hE1)
  clear hE hE1 hS x HO
  repeat' (first|(refine X_pure1 Tryz.func82 (fun x=>HSL.out _ x.2) ?_)|refine X_gt ?_|refine X_q ?_|refine X_niln ?_|refine W_ret ?_|go_step)
  exact Body_ret hd ⟨rfl,HE.out⟩
structure Alter where
  leader:Int
  epoch:Int
  version:Int
  isr:List Int
def RepS.propMay (s:RepS) (l:List Int):Bool:=brokersB l && decide (s.self ∈ l)
def RepS.inStep (s:RepS) (l:List Int):Bool:=l.all fun b=>decide (b ∈ s.isr) || decide (gmax s.high s.beg≤s.known b.toNat)
def RepS.propNo (s:RepS) (l:List Int):Int:=if s.propMay l = false then 2 else if s.role ≠ 3 then 211 else if s.inStep l = false then 213 else 0
def joinB (a b:List Int):List Int:=[0,1,2,3].filter fun x=>decide (x ∈ a) || decide (x ∈ b)
def RepS.prop (s:RepS) (l:List Int):RepS:=if s.propNo l = 0 then { s with counts:=joinB s.counts l } else s
def RepS.alter (s:RepS) (l:List Int):Alter:=if s.propNo l = 0 then ⟨s.self,s.epoch,s.version,l⟩ else ⟨0,0,0,[]⟩
def RepS.step (s:RepS) (a:ActD):RepS :=
  if a.kind = 1 then (s.learn a.view).1 else if a.kind = 2 then s.app a.ent else if a.kind = 3 then s.flush else if a.kind = 5 then s.serve a.fetch a.n
  else if a.kind = 6 then s.take a.reply else if a.kind = 7 then s.prop a.list else if a.kind = 8 then (s.crash a.n).1 else s
structure RepS.Fine (s:RepS):Prop where
  good:s.Good
  ver:0≤s.version∧s.version≤2147483647
section
variable {N N' F G:Nat→Prop} {w0 w w' W:World} {uL uI uC u:Value} {s s':RepS} {b:Nat}
theorem RdN.wide {α:Type} {enc:α→List Value} {k:Nat} {l:List α} (h:RdN N enc k w u l) (hN:∀ k,N' k→N k∨w.heap.size≤k):RdN N' enc k w u l :=
  ⟨h.rd,fun b hb=>⟨fun hn=>(hN b hn).elim (h.nb b hb).1 fun hs=>Nat.not_lt.2 hs (h.nb b hb).2,(h.nb b hb).2⟩⟩
theorem RdN.mod {α:Type} {enc:α→List Value} {k:Nat} {l:List α} (h:RdN N enc k w u l) (hM:Mod G w w') (hG:∀ k,G k→N k):RdN N enc k w' u l :=
  ⟨h.rd.mod hM (fun b hb hg=>(h.nb b hb).1 (hG b hg)),fun b hb=>⟨(h.nb b hb).1,Nat.lt_of_lt_of_le (h.nb b hb).2 hM.size⟩⟩
theorem RdN.less {α:Type} {enc:α→List Value} {k:Nat} {l:List α} (h:RdN N enc k w u l) (hN:∀ k,N' k→N k):RdN N' enc k w u l:=⟨h.rd,fun b hb=>⟨fun hn=>(h.nb b hb).1 (hN b hn),(h.nb b hb).2⟩⟩
theorem VR.wide (h:VR N w uL uI uC s) (hN:∀ k,N' k→N k∨w.heap.size≤k):VR N' w uL uI uC s:=⟨h.rl.wide hN,h.ri.wide hN,h.rc.wide hN⟩
theorem VR.mod (h:VR N w uL uI uC s) (hM:Mod G w w') (hG:∀ k,G k→N k):VR N w' uL uI uC s:=⟨h.rl.mod hM hG,h.ri.mod hM hG,h.rc.mod hM hG⟩
theorem VR.less (h:VR N w uL uI uC s) (hN:∀ k,N' k→N k):VR N' w uL uI uC s:=⟨h.rl.less hN,h.ri.less hN,h.rc.less hN⟩
theorem ActR.wide {a:ActD} (h:ActR N w uL uI uC a) (hN:∀ k,N' k→N k∨w.heap.size≤k):ActR N' w uL uI uC a:=⟨h.ri.wide hN,h.re.wide hN,h.rl.wide hN⟩
theorem ActR.mod {a:ActD} (h:ActR N w uL uI uC a) (hM:Mod G w w') (hG:∀ k,G k→N k):ActR N w' uL uI uC a:=⟨h.ri.mod hM hG,h.re.mod hM hG,h.rl.mod hM hG⟩
theorem ActR.at {a:ActD} (h:ActR N w uL uI uC a) (s:RepS):ActR N w uL uI uC (a.atS s):=by
  obtain ⟨-,-,-,h1,h2,h3⟩:=atS_kind a s
  exact ⟨by rw [h2];exact h.ri,by rw [h3];exact h.re,by rw [h1];exact h.rl⟩
def DoesR (w0 w:World) (b:Nat) (F X:Nat→Prop) (s':RepS) (r:Value) (w':World):Prop :=
  ∃ v',r = .tuple #[v',.bool true]∧Mod F w w'∧∃ F',HR w0 w' b F' s'∧FV (fun k=>F' k∨X k) w' v' s'∧∀ k,F' k→F k∨w.heap.size≤k
theorem does_end {W1 W3 W4 W5 : World} {b6 : Nat} {X : Nat → Prop} (h : HR w0 W b F s) (hE1 : Ext W W1) (hE : Ext W1 W3) (hM : Mod F W3 W4) (hR : Rep W4 b (fun k => F k ∨ W3.heap.size ≤ k) s')
    (hS:Mod (· = b6) W4 W5) (h6:W.heap.size≤b6) (h61:b6 < W1.heap.size) (hv:VR (fun k=>F k∨X k∨k = b6) W1 uL uI uC s'):DoesR w0 W b F X s' (.tuple #[s'.v uL uI uC,.bool true]) W5:=by
  have hs1:=hE1.size
  have hs3:=hE.size
  have hs4:=hM.size
  have hs0:=h.ext.size
  have h3:=(h.later hE1).later hE
  have h4:=h3.step hM hR
  have hn6:∀ k,((F k∨W3.heap.size≤k)∧k < W4.heap.size)→¬ k = b6:=by
    rintro k ⟨hk|hk,-⟩ rfl
    · have:=(h.hi k hk).2;omega
    · omega
  have h5:=h4.beside hS (fun k hk=>by subst hk;omega) hn6
  refine ⟨_,rfl,?_,_,h5,⟨_,_,_,rfl,?_⟩,?_⟩
  · refine Mod.trans (Mod.trans (Ext.trans hE1 hE) hM (H:=F) (fun _ _ h=>h.elim) (fun _ _ h=>h)) hS (fun _ _ h=>h) (fun k hk e=>by subst e;omega)
  · have v3 : VR (fun k => F k ∨ X k ∨ k = b6 ∨ W3.heap.size ≤ k) W3 uL uI uC s' := (hv.later hE).wide (fun k hk => by
      rcases hk with h|h|h|h
      · exact .inl (.inl h)
      · exact .inl (.inr (.inl h))
      · exact .inl (.inr (.inr h))
      · exact .inr h)
    refine ((v3.mod hM (fun k hk=>.inl hk)).mod hS (fun k hk=>.inr (.inr (.inl hk)))).less (fun k hk=>?_)
    rcases hk with ⟨h|h,-⟩|h
    · exact .inl h
    · exact .inr (.inr (.inr h))
    · exact .inr (.inl h)
  · rintro k ⟨hk|hk,-⟩
    · exact .inl hk
    · exact .inr (by omega)
end
def ProgR (F:Nat→Prop) (b:Nat) (s':RepS) (R0:Value→Prop) (w:World) (r:Value) (w':World):Prop:=R0 r∧Mod F w w'∧Rep w' b (fun k=>F k∨w.heap.size≤k) s'
theorem prog_ret {P : Program} {f : FuncId} {args : Array Value} {w : World} {F G : Nat → Prop} {b : Nat} {s' : RepS} {R0 : Value → Prop} (x : Later w)
    (h:Ret P f args (w.later x) (fun r w'=>R0 r∧Mod F (w.later x) w'∧Rep w' b (fun k=>F k∨(w.later x).heap.size≤k) s')) (hFG:∀ k,F k→G k) :
    Ret P f args (w.later x) (fun r w'=>ProgR F b s' R0 w r w'∧Mod G (w.later x) w') :=
  Ret.mono h fun v w' hR=>⟨⟨hR.1,Mod.trans x.2 hR.2.1 (fun _ _ h=>h.elim) (fun _ _ h=>h),hR.2.2.mono (fun k hk=>hk.imp id (fun h=>Nat.le_trans x.2.size h))⟩,hR.2.1.mono (fun k _ h=>hFG k h)⟩
theorem good_prop {s:RepS} (h:s.Good) (l:List Int):(s.prop l).Good:=by
  unfold RepS.prop
  split
  · refine ⟨h.ok,h.self,h.least,h.role,h.epoch,h.fl,h.hi,h.isr,?_⟩
    show brokersB (joinB s.counts l) = true
    unfold joinB
    simp only [List.filter]
    split <;> split <;> split <;> split <;> rfl
  · exact h
end Go.Ws
