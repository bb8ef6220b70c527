/- Lemmas for the statements of this layer (joined texts); no condition. -/
import Derived.Test.YtlpjgegbdmkmdaaGreatBb09
import Derived.Test.YtlpjgegbdmkmdaaGreatBb12
import Derived.Test.YtlpjgegbdmkmdaaGreatBb14
import Derived.Test.YtlpjgegbdmkmdaaGreatBb15
import Derived.Test.YtlpjgegbdmkmdaaGreatBb16
import Derived.Test.YtlpjgegbdmkmdaaGreatBb17
import Derived.Test.YtlpjgegbdmkmdaaGreatBb20
namespace Go.Ws
open Go Go.RowKit Go.Proofs
set_option maxHeartbeats 4000000
set_option maxRecDepth 100000
set_option linter.unusedVariables false
set_option linter.unusedSimpArgs false
theorem does1_calls {w0 W : World} {b : Nat} {F X : Nat → Prop} {s : RepS} {uL uI uC vI vE vL : Value} {a : ActD} (h : HR w0 W b F s) (hg : s.Fine) (hX : ∀ k, X k → k < W.heap.size) (hv : VR (fun k => F k ∨ X k) W uL uI uC s) (ha : ActR (fun k => F k ∨ X k) W vI vE vL a) (hk : a.kind = 1) :
    Ret Tryz.prog 16 #[.pointer (some ⟨b,0,none⟩),s.v uL uI uC,a.v vI vE vL] W fun r W'=>DoesR w0 W b F X (s.step (a.atS s)) r W':=by
  have HH:=Lib.hid h
  have HG:=Lib.hid hg
  have HXW:=Lib.hid hX
  clear hX
  have HVR:=Lib.hid hv
  have HAC:=Lib.hid (ha.at s)
  have NEAR:Hid (∀ W',Ext W W'→Ret Tryz.prog 35 #[a.v vI vE vL,s.v uL uI uC] W' fun r w'=>Ext W' w'∧r = (a.atS s).v vI vE vL):=Lib.hid (fun W' hE=>near_calls (hv.later hE) hg.good hg.ver (ha.later hE))
  have hka:(a.atS s).kind = 1:=(atS_kind a s).1.trans hk
  have ht:s.step (a.atS s) = (s.learn (a.atS s).view).1:=by unfold RepS.step;simp [hka]
  rw [ht]
  clear ht
  obtain ⟨A1,c1,rfl,-⟩:=hv.rl.rd.ent
  obtain ⟨A2,c2,rfl,-⟩:=hv.ri.rd.int
  obtain ⟨A3,c3,rfl,-⟩:=hv.rc.rd.int
  clear h hg hv ha hk
  generalize a.atS s = a' at *
  obtain ⟨A4,c4,rfl,-⟩:=HAC.out.ri.int
  obtain ⟨A5,c5,rfl,-⟩:=HAC.out.re.ent
  obtain ⟨A6,c6,rfl,-⟩:=HAC.out.rl.int
  refine Fn_of Tryz.func16 rfl (Nat.le_of_ble_eq_true rfl) ?_;intro A hd hA;simp only [ix,Nat.reduceAdd];replace hA:A.tmps.size = 268:=hA
  (repeat' (first|refine W_seqk (fun K hK=>?_)|refine W_seqr ?_|fail));(first|(refine X_var (fun yn b4 hn1 hn2 hn3 hn4 hn5=>?_))|(refine X_s (fun x K hK=>?_);go_simp;refine hK _ _ (Ext.alloc _ _) ?_;clear hK K;refine X_al x ?_;generalize (World.later _ x).heap.size = b4;intro yn hn1 hn2 hn3 hn4 hn5;clear x));have HBb4:=Lib.hid (Blk.new hn5.out);have HEb4:=Lib.hid yn.ext;have hlb4:(World.heap W).size≤b4:=hn1;generalize World.later W yn = W0 at *;clear hn1 hn2 hn3 hn4 hn5 yn
  (skip);(first|(refine X_var (fun yn b5 hn1 hn2 hn3 hn4 hn5=>?_))|(refine X_s (fun x K hK=>?_);go_simp;refine hK _ _ (Ext.alloc _ _) ?_;clear hK K;refine X_al x ?_;generalize (World.later _ x).heap.size = b5;intro yn hn1 hn2 hn3 hn4 hn5;clear x));have HBb5:=Lib.hid (Blk.new hn5.out);have HEb5:=Lib.hid yn.ext;have hlb5:(World.heap W0).size≤b5:=hn1;generalize World.later W0 yn = W1 at *;clear hn1 hn2 hn3 hn4 hn5 yn
  (skip);(first|(refine X_var (fun yn b6 hn1 hn2 hn3 hn4 hn5=>?_))|(refine X_s (fun x K hK=>?_);go_simp;refine hK _ _ (Ext.alloc _ _) ?_;clear hK K;refine X_al x ?_;generalize (World.later _ x).heap.size = b6;intro yn hn1 hn2 hn3 hn4 hn5;clear x));have HBb6:=Lib.hid (Blk.new hn5.out);have HEb6:=Lib.hid yn.ext;have hlb6:(World.heap W1).size≤b6:=hn1;generalize World.later W1 yn = W2 at *;clear hn1 hn2 hn3 hn4 hn5 yn
  have HBS:=Lib.hid ((fbox2 HBb4.out).later (Ext.trans HEb5.out HEb6.out))
  have HBA:Hid (Blk W2 b5 51 27 (aenc a (.slice A4 a'.view.isr.length c4) (.slice A5 a'.reply.entries.length c5) (.slice A6 a'.list.length c6))):=Lib.hid ((HBb5.out.later HEb6.out).congr (fun k hk=>rfl))
  have HBO:=HBb6
  have HE:=Lib.hid (Ext.trans (Ext.trans HEb4.out HEb5.out) HEb6.out)
  have hbb:b4 < b5:=by have:=HBb4.out.lt;omega
  have hbb2:b5 < b6:=by have:=HBb5.out.lt;omega
  have hs0:=HEb4.out.size
  have hs1:=HEb5.out.size
  have h6W:W.heap.size≤b6:=by omega
  clear HBb4 HBb5 HBb6 HEb4 HEb5 HEb6
  have HFW:Hid (∀ k,F k→k < W.heap.size):=Lib.hid (fun k hk=>(HH.out.hi k hk).2)
  have HVN:=Lib.hid (HVR.out.wide (N':=fun k=>F k∨X k∨k = b6) (fun k hk=>hk.elim (fun h=>.inl (.inl h)) (fun h=>h.elim (fun h=>.inl (.inr h)) (fun e=>.inr (by subst e;exact h6W)))))
  have HAN:=Lib.hid (HAC.out.wide (N':=fun k=>F k∨X k∨k = b6) (fun k hk=>hk.elim (fun h=>.inl (.inl h)) (fun h=>h.elim (fun h=>.inl (.inr h)) (fun e=>.inr (by subst e;exact h6W)))))
  clear HVR HAC
  have hal:=HBA.out.lt
  have hsl:=HBS.out.lt
  repeat' (first|refine X_q ?_|refine X_nil ?_|refine W_seqk (fun K hK=>?_)|refine W_seqr ?_|go_step)
  refine X_aload HBA.out ?_ (hu:=Tryz.underlying51)
  skip
  refine X_fload HBS.out ?_ (hu:=Tryz.underlying33)
  skip
  refine X_ret Tryz.func35 (NEAR.out _ HE.out) (fun r w1 hR=>?_)
  obtain ⟨hE1,rfl⟩:=hR
  replace HBS:=Lib.hid (HBS.out.later hE1)
  replace HBA:=Lib.hid (HBA.out.later hE1)
  replace HBO:=Lib.hid (HBO.out.later hE1)
  replace HE:=Lib.hid (Ext.trans HE.out hE1)
  clear hE1 NEAR hal hsl
  have hal:=HBA.out.lt
  skip
  refine X_store (off:=0) HBA.out (fun W1 hM1 hB1=>?_);replace HE:=Lib.hid (Ext.fresh HE.out hM1 (fun k hk=>by subst hk;omega));replace HBS:=Lib.hid (HBS.out.mod hM1 (fun h=>by omega));replace HBO:=Lib.hid (HBO.out.mod hM1 (fun h=>by omega));replace HBA:=Lib.hid hB1;clear hM1 hB1
  replace HBA:=Lib.hid (HBA.out.congr (g':=aenc a' (.slice A4 a'.view.isr.length c4) (.slice A5 a'.reply.entries.length c5) (.slice A6 a'.list.length c6)) (all27 ⟨rfl,rfl,rfl,rfl,rfl,rfl,rfl,rfl,rfl,rfl,rfl,rfl,rfl,rfl,rfl,rfl,rfl,rfl,rfl,rfl,rfl,rfl,rfl,rfl,rfl,rfl,rfl⟩))
  clear hal
  obtain ⟨hlt,d0,d1,d2,d3,d4,d5,d6,d7,d8,d9,d10⟩:=fcells HBS.out
  have hal:=HBA.out.lt
  have e0:=HBA.out.cell (k:=0) (by omega)
  change World.cell? _ _ = some (.int .i64 a'.kind) at e0
  have e3:=HBA.out.cell (k:=3) (by omega)
  change World.cell? _ _ = some (.int .i64 a'.view.leader) at e3
  have e4:=HBA.out.cell (k:=4) (by omega)
  change World.cell? _ _ = some (.int .i64 a'.view.epoch) at e4
  have e5:=HBA.out.cell (k:=5) (by omega)
  change World.cell? _ _ = some (.int .i64 a'.view.version) at e5
  have e6:=HBA.out.cell (k:=6) (by omega)
  change World.cell? _ _ = some (.slice A4 a'.view.isr.length c4) at e6
  rw [hka] at e0
  have hbol:=HBO.out.lt
  have hEW:=HE.out.size
  have HGG:=Lib.hid HG.out.good
  repeat' (first|refine X_q ?_|refine X_nil ?_|refine W_seqk (fun K hK=>?_)|refine W_seqr ?_|refine W_block ?_|refine W_tt ?_|go_step)
  refine X_fload HBS.out ?_ (hu:=Tryz.underlying33)
  repeat' (first|refine X_q ?_|fail)
  refine X_ret Tryz.func36 (learn11_calls (N:=fun k=>F k∨X k∨k = b6) (x:=a'.view) (HVN.out.later HE.out) HGG.out.bks HGG.out.role ⟨_,rfl,(HAN.out.later HE.out).ri.rd⟩ (fun p q r u hu k hk=>by cases hu;exact (HAN.out.later HE.out).ri.nb k hk)) (fun r w1 hR=>?_)
  obtain ⟨hE1,v1,rfl,oL,oI,oC,rfl,hVO⟩:=hR
  obtain ⟨B1,x1,rfl,-⟩:=hVO.rl.ent
  obtain ⟨B2,x2,rfl,-⟩:=hVO.ri.int
  obtain ⟨B3,x3,rfl,-⟩:=hVO.rc.int
  have HE1:=Lib.hid (Ext.trans HE.out hE1)
  have HVO:=Lib.hid hVO
  replace HBS:=Lib.hid (HBS.out.later hE1)
  replace HBA:=Lib.hid (HBA.out.later hE1)
  replace HBO:=Lib.hid (HBO.out.later hE1)
  clear hE1 hVO HE hbol hEW e0 e3 e4 e5 e6 hal
  clear hlt d0 d1 d2 d3 d4 d5 d6 d7 d8 d9 d10
  have HE:=Lib.hid (Ext.refl w1)
  have hbol:=HBO.out.lt
  have hEW:=HE1.out.size
  have h61:=HBO.out.lt
  have hal:=HBA.out.lt
  have e3:=HBA.out.cell (k:=3) (by omega)
  change World.cell? _ _ = some (.int .i64 a'.view.leader) at e3
  have e4:=HBA.out.cell (k:=4) (by omega)
  change World.cell? _ _ = some (.int .i64 a'.view.epoch) at e4
  have e5:=HBA.out.cell (k:=5) (by omega)
  change World.cell? _ _ = some (.int .i64 a'.view.version) at e5
  have e6:=HBA.out.cell (k:=6) (by omega)
  change World.cell? _ _ = some (.slice A4 a'.view.isr.length c4) at e6
  (repeat' (first|refine X_q ?_|fail));(first|(refine X_var (fun yn b8 hn1 hn2 hn3 hn4 hn5=>?_))|(refine X_s (fun x K hK=>?_);go_simp;refine hK _ _ (Ext.alloc _ _) ?_;clear hK K;refine X_al x ?_;generalize (World.later _ x).heap.size = b8;intro yn hn1 hn2 hn3 hn4 hn5;clear x));have HBb8:=Lib.hid (Blk.new hn5.out);have HEb8:=Lib.hid yn.ext;have hlb8:(World.heap w1).size≤b8:=hn1;generalize World.later w1 yn = W8 at *;clear hn1 hn2 hn3 hn4 hn5 yn
  have HBT:=Lib.hid (fbox2 HBb8.out)
  replace HE:=Lib.hid (HEb8.out)
  replace HBS:=Lib.hid (HBS.out.later HEb8.out)
  replace HBA:=Lib.hid (HBA.out.later HEb8.out)
  replace HBO:=Lib.hid (HBO.out.later HEb8.out)
  clear HBb8 HEb8
  clear hbol
  clear hal e3 e4 e5 e6
  have hal:=HBA.out.lt
  have e3:=HBA.out.cell (k:=3) (by omega)
  change World.cell? _ _ = some (.int .i64 a'.view.leader) at e3
  have e4:=HBA.out.cell (k:=4) (by omega)
  change World.cell? _ _ = some (.int .i64 a'.view.epoch) at e4
  have e5:=HBA.out.cell (k:=5) (by omega)
  change World.cell? _ _ = some (.int .i64 a'.view.version) at e5
  have e6:=HBA.out.cell (k:=6) (by omega)
  change World.cell? _ _ = some (.slice A4 a'.view.isr.length c4) at e6
  have hbol:=HBO.out.lt
  have h8l:=HBT.out.lt
  repeat' (first|refine X_q ?_|refine X_nil ?_|refine W_seqk (fun K hK=>?_)|go_step)
  obtain ⟨G,hG⟩:∃ G:Nat→Prop,G = (fun k=>F k∨k = b6):=⟨_,rfl⟩
  have HGo:Hid (G b6):=Lib.hid (by subst hG;exact .inr rfl)
  have HFG:Hid (∀ k,F k→G k):=Lib.hid (fun k hk=>by subst hG;exact .inl hk)
  have hG4:¬ G b4:=(by subst hG;rintro (h|h);(have:=HFW.out _ h;omega);omega)
  have hG5:¬ G b5:=(by subst hG;rintro (h|h);(have:=HFW.out _ h;omega);omega)
  have hG8:¬ G b8:=(by subst hG;rintro (h|h);(have:=HFW.out _ h;omega);omega)
  clear hG
  refine W_drawG G [(0,0),(1,0),(2,0),(3,3),(5,0),(4,1),(6,0),(7,2),(8,0)] (by kernel_rfl) (by kernel_rfl) ?_
  refine Y_fload HBT.out hG8 ?_ (hu:=Tryz.underlying33)
  repeat' (first|refine Y_q ?_|refine Y_r ?_|fail)
  refine Y_ret Tryz.func20 (R:=ProgR F b ((s.learn a'.view).1) (· = .int .i64 ((s.learn a'.view).2)) _) (fun x=>prog_ret x (learn_callsW (x:=a'.view) ((((HH.out.later HE1.out).later HE.out).later x.2).rep) HGG.out.ne ⟨_,rfl,(((HAN.out.later HE1.out).later HE.out).later x.2).ri.rd⟩ (fun p q r u hu k hk=>by cases hu;exact (HAN.out.ri.nb k hk).imp id (fun h1 h=>h1 (.inl h)))) HFG.out) (fun r w4 hR=>?_)
  obtain ⟨rfl,hM,hRp⟩:=hR
  have HMc:=Lib.hid hM
  have HRc:=Lib.hid hRp
  have HEC:=HE
  have HBO4:=Lib.hid (HBO.out.mod hM (fun h=>by have:=HFW.out _ h;omega))
  clear hM hRp HBT HBA HBS
  repeat' (first|refine Y_q ?_|fail)
  refine Y_store (off:=0) HBO4.out HGo.out (fun W5 hM5 hG5x hB5=>?_)
  have HM5:=Lib.hid hM5
  have HB5:=Lib.hid (fput hB5)
  clear hM5 hG5x hB5
  repeat' (first|refine Y_q ?_|refine Y_nil ?_)
  repeat' (first|refine W_ret ?_|go_step)
  exact Body_retcellv (cs:=RepS.cs ((s.learn a'.view).1) _ _ _) hd (does_end HH.out HE1.out HEC.out HMc.out HRc.out HM5.out h6W h61 HVO.out) HB5.out (fun k hk=>cs_fenc hk) Tryz.underlying33
theorem does2_calls {w0 W : World} {b : Nat} {F X : Nat → Prop} {s : RepS} {uL uI uC vI vE vL : Value} {a : ActD} (h : HR w0 W b F s) (hg : s.Fine) (hX : ∀ k, X k → k < W.heap.size) (hv : VR (fun k => F k ∨ X k) W uL uI uC s) (ha : ActR (fun k => F k ∨ X k) W vI vE vL a) (hk : a.kind = 2) :
    Ret Tryz.prog 16 #[.pointer (some ⟨b,0,none⟩),s.v uL uI uC,a.v vI vE vL] W fun r W'=>DoesR w0 W b F X (s.step (a.atS s)) r W':=by
  have HH:=Lib.hid h
  have HG:=Lib.hid hg
  have HXW:=Lib.hid hX
  clear hX
  have HVR:=Lib.hid hv
  have HAC:=Lib.hid (ha.at s)
  have NEAR:Hid (∀ W',Ext W W'→Ret Tryz.prog 35 #[a.v vI vE vL,s.v uL uI uC] W' fun r w'=>Ext W' w'∧r = (a.atS s).v vI vE vL):=Lib.hid (fun W' hE=>near_calls (hv.later hE) hg.good hg.ver (ha.later hE))
  have hka:(a.atS s).kind = 2:=(atS_kind a s).1.trans hk
  have ht:s.step (a.atS s) = s.app (a.atS s).ent:=by unfold RepS.step;simp [hka]
  rw [ht]
  clear ht
  obtain ⟨A1,c1,rfl,-⟩:=hv.rl.rd.ent
  obtain ⟨A2,c2,rfl,-⟩:=hv.ri.rd.int
  obtain ⟨A3,c3,rfl,-⟩:=hv.rc.rd.int
  clear h hg hv ha hk
  generalize a.atS s = a' at *
  obtain ⟨A4,c4,rfl,-⟩:=HAC.out.ri.int
  obtain ⟨A5,c5,rfl,-⟩:=HAC.out.re.ent
  obtain ⟨A6,c6,rfl,-⟩:=HAC.out.rl.int
  refine Fn_of Tryz.func16 rfl (Nat.le_of_ble_eq_true rfl) ?_;intro A hd hA;simp only [ix,Nat.reduceAdd];replace hA:A.tmps.size = 268:=hA
  (repeat' (first|refine W_seqk (fun K hK=>?_)|refine W_seqr ?_|fail));(first|(refine X_var (fun yn b4 hn1 hn2 hn3 hn4 hn5=>?_))|(refine X_s (fun x K hK=>?_);go_simp;refine hK _ _ (Ext.alloc _ _) ?_;clear hK K;refine X_al x ?_;generalize (World.later _ x).heap.size = b4;intro yn hn1 hn2 hn3 hn4 hn5;clear x));have HBb4:=Lib.hid (Blk.new hn5.out);have HEb4:=Lib.hid yn.ext;have hlb4:(World.heap W).size≤b4:=hn1;generalize World.later W yn = W0 at *;clear hn1 hn2 hn3 hn4 hn5 yn
  (skip);(first|(refine X_var (fun yn b5 hn1 hn2 hn3 hn4 hn5=>?_))|(refine X_s (fun x K hK=>?_);go_simp;refine hK _ _ (Ext.alloc _ _) ?_;clear hK K;refine X_al x ?_;generalize (World.later _ x).heap.size = b5;intro yn hn1 hn2 hn3 hn4 hn5;clear x));have HBb5:=Lib.hid (Blk.new hn5.out);have HEb5:=Lib.hid yn.ext;have hlb5:(World.heap W0).size≤b5:=hn1;generalize World.later W0 yn = W1 at *;clear hn1 hn2 hn3 hn4 hn5 yn
  (skip);(first|(refine X_var (fun yn b6 hn1 hn2 hn3 hn4 hn5=>?_))|(refine X_s (fun x K hK=>?_);go_simp;refine hK _ _ (Ext.alloc _ _) ?_;clear hK K;refine X_al x ?_;generalize (World.later _ x).heap.size = b6;intro yn hn1 hn2 hn3 hn4 hn5;clear x));have HBb6:=Lib.hid (Blk.new hn5.out);have HEb6:=Lib.hid yn.ext;have hlb6:(World.heap W1).size≤b6:=hn1;generalize World.later W1 yn = W2 at *;clear hn1 hn2 hn3 hn4 hn5 yn
  have HBS:=Lib.hid ((fbox2 HBb4.out).later (Ext.trans HEb5.out HEb6.out))
  have HBA:Hid (Blk W2 b5 51 27 (aenc a (.slice A4 a'.view.isr.length c4) (.slice A5 a'.reply.entries.length c5) (.slice A6 a'.list.length c6))):=Lib.hid ((HBb5.out.later HEb6.out).congr (fun k hk=>rfl))
  have HBO:=HBb6
  have HE:=Lib.hid (Ext.trans (Ext.trans HEb4.out HEb5.out) HEb6.out)
  have hbb:b4 < b5:=by have:=HBb4.out.lt;omega
  have hbb2:b5 < b6:=by have:=HBb5.out.lt;omega
  have hs0:=HEb4.out.size
  have hs1:=HEb5.out.size
  have h6W:W.heap.size≤b6:=by omega
  clear HBb4 HBb5 HBb6 HEb4 HEb5 HEb6
  have HFW:Hid (∀ k,F k→k < W.heap.size):=Lib.hid (fun k hk=>(HH.out.hi k hk).2)
  have HVN:=Lib.hid (HVR.out.wide (N':=fun k=>F k∨X k∨k = b6) (fun k hk=>hk.elim (fun h=>.inl (.inl h)) (fun h=>h.elim (fun h=>.inl (.inr h)) (fun e=>.inr (by subst e;exact h6W)))))
  have HAN:=Lib.hid (HAC.out.wide (N':=fun k=>F k∨X k∨k = b6) (fun k hk=>hk.elim (fun h=>.inl (.inl h)) (fun h=>h.elim (fun h=>.inl (.inr h)) (fun e=>.inr (by subst e;exact h6W)))))
  clear HVR HAC
  have hal:=HBA.out.lt
  have hsl:=HBS.out.lt
  repeat' (first|refine X_q ?_|refine X_nil ?_|refine W_seqk (fun K hK=>?_)|refine W_seqr ?_|go_step)
  refine X_aload HBA.out ?_ (hu:=Tryz.underlying51)
  skip
  refine X_fload HBS.out ?_ (hu:=Tryz.underlying33)
  skip
  refine X_ret Tryz.func35 (NEAR.out _ HE.out) (fun r w1 hR=>?_)
  obtain ⟨hE1,rfl⟩:=hR
  replace HBS:=Lib.hid (HBS.out.later hE1)
  replace HBA:=Lib.hid (HBA.out.later hE1)
  replace HBO:=Lib.hid (HBO.out.later hE1)
  replace HE:=Lib.hid (Ext.trans HE.out hE1)
  clear hE1 NEAR hal hsl
  have hal:=HBA.out.lt
  skip
  refine X_store (off:=0) HBA.out (fun W1 hM1 hB1=>?_);replace HE:=Lib.hid (Ext.fresh HE.out hM1 (fun k hk=>by subst hk;omega));replace HBS:=Lib.hid (HBS.out.mod hM1 (fun h=>by omega));replace HBO:=Lib.hid (HBO.out.mod hM1 (fun h=>by omega));replace HBA:=Lib.hid hB1;clear hM1 hB1
  replace HBA:=Lib.hid (HBA.out.congr (g':=aenc a' (.slice A4 a'.view.isr.length c4) (.slice A5 a'.reply.entries.length c5) (.slice A6 a'.list.length c6)) (all27 ⟨rfl,rfl,rfl,rfl,rfl,rfl,rfl,rfl,rfl,rfl,rfl,rfl,rfl,rfl,rfl,rfl,rfl,rfl,rfl,rfl,rfl,rfl,rfl,rfl,rfl,rfl,rfl⟩))
  clear hal
  obtain ⟨hlt,d0,d1,d2,d3,d4,d5,d6,d7,d8,d9,d10⟩:=fcells HBS.out
  have hal:=HBA.out.lt
  have e0:=HBA.out.cell (k:=0) (by omega)
  change World.cell? _ _ = some (.int .i64 a'.kind) at e0
  have e7:=HBA.out.cell (k:=7) (by omega)
  change World.cell? _ _ = some (.int .i64 a'.ent.ep) at e7
  have e8:=HBA.out.cell (k:=8) (by omega)
  change World.cell? _ _ = some (.int .i64 a'.ent.id) at e8
  have e9:=HBA.out.cell (k:=9) (by omega)
  change World.cell? _ _ = some (.int .i64 a'.ent.num) at e9
  have e10:=HBA.out.cell (k:=10) (by omega)
  change World.cell? _ _ = some (.int .i64 a'.ent.seq) at e10
  have e11:=HBA.out.cell (k:=11) (by omega)
  change World.cell? _ _ = some (.int .i64 a'.ent.kind) at e11
  have e12:=HBA.out.cell (k:=12) (by omega)
  change World.cell? _ _ = some (.int .i64 a'.ent.val) at e12
  rw [hka] at e0
  have hbol:=HBO.out.lt
  have hEW:=HE.out.size
  have HGG:=Lib.hid HG.out.good
  repeat' (first|refine X_q ?_|refine X_nil ?_|refine W_seqk (fun K hK=>?_)|refine W_seqr ?_|refine W_block ?_|refine W_tt ?_|refine W_ff ?_|go_step)
  refine X_fload HBS.out ?_ (hu:=Tryz.underlying33)
  repeat' (first|refine X_q ?_|fail)
  refine X_ret Tryz.func37 (append11_calls (N:=fun k=>F k∨X k∨k = b6) (e:=a'.ent) (fun k hk=>hk.elim (fun h=>by have:=HFW.out k h;omega) (fun h=>h.elim (fun h=>by have:=HXW.out k h;omega) (fun h=>by omega))) (HVN.out.later HE.out) HGG.out.len (ofNo_all _ HGG.out.ok).1) (fun r w1 hR=>?_)
  obtain ⟨hE1,v1,rfl,oL,oI,oC,rfl,hVO⟩:=hR
  obtain ⟨B1,x1,rfl,-⟩:=hVO.rl.ent
  obtain ⟨B2,x2,rfl,-⟩:=hVO.ri.int
  obtain ⟨B3,x3,rfl,-⟩:=hVO.rc.int
  have HE1:=Lib.hid (Ext.trans HE.out hE1)
  have HVO:=Lib.hid hVO
  replace HBS:=Lib.hid (HBS.out.later hE1)
  replace HBA:=Lib.hid (HBA.out.later hE1)
  replace HBO:=Lib.hid (HBO.out.later hE1)
  clear hE1 hVO HE hbol hEW e0 e7 e8 e9 e10 e11 e12 hal
  clear hlt d0 d1 d2 d3 d4 d5 d6 d7 d8 d9 d10
  have HE:=Lib.hid (Ext.refl w1)
  have hbol:=HBO.out.lt
  have hEW:=HE1.out.size
  have h61:=HBO.out.lt
  have hal:=HBA.out.lt
  have e7:=HBA.out.cell (k:=7) (by omega)
  change World.cell? _ _ = some (.int .i64 a'.ent.ep) at e7
  have e8:=HBA.out.cell (k:=8) (by omega)
  change World.cell? _ _ = some (.int .i64 a'.ent.id) at e8
  have e9:=HBA.out.cell (k:=9) (by omega)
  change World.cell? _ _ = some (.int .i64 a'.ent.num) at e9
  have e10:=HBA.out.cell (k:=10) (by omega)
  change World.cell? _ _ = some (.int .i64 a'.ent.seq) at e10
  have e11:=HBA.out.cell (k:=11) (by omega)
  change World.cell? _ _ = some (.int .i64 a'.ent.kind) at e11
  have e12:=HBA.out.cell (k:=12) (by omega)
  change World.cell? _ _ = some (.int .i64 a'.ent.val) at e12
  (repeat' (first|refine X_q ?_|fail));(first|(refine X_var (fun yn b8 hn1 hn2 hn3 hn4 hn5=>?_))|(refine X_s (fun x K hK=>?_);go_simp;refine hK _ _ (Ext.alloc _ _) ?_;clear hK K;refine X_al x ?_;generalize (World.later _ x).heap.size = b8;intro yn hn1 hn2 hn3 hn4 hn5;clear x));have HBb8:=Lib.hid (Blk.new hn5.out);have HEb8:=Lib.hid yn.ext;have hlb8:(World.heap w1).size≤b8:=hn1;generalize World.later w1 yn = W8 at *;clear hn1 hn2 hn3 hn4 hn5 yn
  have HBT:=Lib.hid (fbox2 HBb8.out)
  replace HE:=Lib.hid (HEb8.out)
  replace HBA:=Lib.hid (HBA.out.later HEb8.out)
  replace HBO:=Lib.hid (HBO.out.later HEb8.out)
  clear HBb8 HEb8 HBS hbol
  clear hal e7 e8 e9 e10 e11 e12
  have hal:=HBA.out.lt
  have e7:=HBA.out.cell (k:=7) (by omega)
  change World.cell? _ _ = some (.int .i64 a'.ent.ep) at e7
  have e8:=HBA.out.cell (k:=8) (by omega)
  change World.cell? _ _ = some (.int .i64 a'.ent.id) at e8
  have e9:=HBA.out.cell (k:=9) (by omega)
  change World.cell? _ _ = some (.int .i64 a'.ent.num) at e9
  have e10:=HBA.out.cell (k:=10) (by omega)
  change World.cell? _ _ = some (.int .i64 a'.ent.seq) at e10
  have e11:=HBA.out.cell (k:=11) (by omega)
  change World.cell? _ _ = some (.int .i64 a'.ent.kind) at e11
  have e12:=HBA.out.cell (k:=12) (by omega)
  change World.cell? _ _ = some (.int .i64 a'.ent.val) at e12
  have hbol:=HBO.out.lt
  have h8l:=HBT.out.lt
  repeat' (first|refine X_q ?_|refine X_nil ?_|refine W_seqk (fun K hK=>?_)|refine W_seqr ?_|go_step)
  refine X_ret Tryz.func21 (append_rep (e:=a'.ent) (((HH.out.later HE1.out).later HE.out).rep) HGG.out.ne HGG.out.ok HGG.out.len) (fun r w4 hR=>?_)
  obtain ⟨rfl,hM,hRp⟩:=hR
  have HMc:=Lib.hid hM
  have HRc:=Lib.hid hRp
  have HBO4:=Lib.hid (HBO.out.mod hM (fun h=>by have:=HFW.out _ h;omega))
  have hbol4:=HBO4.out.lt
  have hs4:=hM.size
  replace HBT:=Lib.hid (HBT.out.mod hM (fun h=>by have:=HFW.out _ h;omega))
  clear hM hRp h8l
  have h8l:=HBT.out.lt
  repeat' (first|refine X_q ?_|refine X_nil ?_|refine W_seqk (fun K hK=>?_)|refine W_seqr ?_|go_step)
  refine X_fload HBT.out ?_ (hu:=Tryz.underlying33)
  repeat' (first|refine X_gt ?_|refine X_q ?_|fail)
  refine X_store (off:=0) HBO4.out (fun W5 hM5 hB5=>?_)
  have HM5:=Lib.hid hM5
  have HB5:=Lib.hid (fput hB5)
  clear hM5 hB5
  repeat' (first|refine X_q ?_|refine X_nil ?_|refine W_ret ?_|go_step)
  exact Body_retcellv (cs:=RepS.cs (s.app a'.ent) _ _ _) hd (does_end HH.out HE1.out HE.out HMc.out HRc.out HM5.out h6W h61 HVO.out) HB5.out (fun k hk=>cs_fenc hk) Tryz.underlying33
theorem does3_calls {w0 W : World} {b : Nat} {F X : Nat → Prop} {s : RepS} {uL uI uC vI vE vL : Value} {a : ActD} (h : HR w0 W b F s) (hg : s.Fine) (hX : ∀ k, X k → k < W.heap.size) (hv : VR (fun k => F k ∨ X k) W uL uI uC s) (ha : ActR (fun k => F k ∨ X k) W vI vE vL a) (hk : a.kind = 3) :
    Ret Tryz.prog 16 #[.pointer (some ⟨b,0,none⟩),s.v uL uI uC,a.v vI vE vL] W fun r W'=>DoesR w0 W b F X (s.step (a.atS s)) r W':=by
  have HH:=Lib.hid h
  have HG:=Lib.hid hg
  have HXW:=Lib.hid hX
  clear hX
  have HVR:=Lib.hid hv
  have HAC:=Lib.hid (ha.at s)
  have NEAR:Hid (∀ W',Ext W W'→Ret Tryz.prog 35 #[a.v vI vE vL,s.v uL uI uC] W' fun r w'=>Ext W' w'∧r = (a.atS s).v vI vE vL):=Lib.hid (fun W' hE=>near_calls (hv.later hE) hg.good hg.ver (ha.later hE))
  have hka:(a.atS s).kind = 3:=(atS_kind a s).1.trans hk
  have ht:s.step (a.atS s) = s.flush:=by unfold RepS.step;simp [hka]
  rw [ht]
  clear ht
  obtain ⟨A1,c1,rfl,-⟩:=hv.rl.rd.ent
  obtain ⟨A2,c2,rfl,-⟩:=hv.ri.rd.int
  obtain ⟨A3,c3,rfl,-⟩:=hv.rc.rd.int
  clear h hg hv ha hk
  generalize a.atS s = a' at *
  obtain ⟨A4,c4,rfl,-⟩:=HAC.out.ri.int
  obtain ⟨A5,c5,rfl,-⟩:=HAC.out.re.ent
  obtain ⟨A6,c6,rfl,-⟩:=HAC.out.rl.int
  refine Fn_of Tryz.func16 rfl (Nat.le_of_ble_eq_true rfl) ?_;intro A hd hA;simp only [ix,Nat.reduceAdd];replace hA:A.tmps.size = 268:=hA
  (repeat' (first|refine W_seqk (fun K hK=>?_)|refine W_seqr ?_|fail));(first|(refine X_var (fun yn b4 hn1 hn2 hn3 hn4 hn5=>?_))|(refine X_s (fun x K hK=>?_);go_simp;refine hK _ _ (Ext.alloc _ _) ?_;clear hK K;refine X_al x ?_;generalize (World.later _ x).heap.size = b4;intro yn hn1 hn2 hn3 hn4 hn5;clear x));have HBb4:=Lib.hid (Blk.new hn5.out);have HEb4:=Lib.hid yn.ext;have hlb4:(World.heap W).size≤b4:=hn1;generalize World.later W yn = W0 at *;clear hn1 hn2 hn3 hn4 hn5 yn
  (skip);(first|(refine X_var (fun yn b5 hn1 hn2 hn3 hn4 hn5=>?_))|(refine X_s (fun x K hK=>?_);go_simp;refine hK _ _ (Ext.alloc _ _) ?_;clear hK K;refine X_al x ?_;generalize (World.later _ x).heap.size = b5;intro yn hn1 hn2 hn3 hn4 hn5;clear x));have HBb5:=Lib.hid (Blk.new hn5.out);have HEb5:=Lib.hid yn.ext;have hlb5:(World.heap W0).size≤b5:=hn1;generalize World.later W0 yn = W1 at *;clear hn1 hn2 hn3 hn4 hn5 yn
  (skip);(first|(refine X_var (fun yn b6 hn1 hn2 hn3 hn4 hn5=>?_))|(refine X_s (fun x K hK=>?_);go_simp;refine hK _ _ (Ext.alloc _ _) ?_;clear hK K;refine X_al x ?_;generalize (World.later _ x).heap.size = b6;intro yn hn1 hn2 hn3 hn4 hn5;clear x));have HBb6:=Lib.hid (Blk.new hn5.out);have HEb6:=Lib.hid yn.ext;have hlb6:(World.heap W1).size≤b6:=hn1;generalize World.later W1 yn = W2 at *;clear hn1 hn2 hn3 hn4 hn5 yn
  have HBS:=Lib.hid ((fbox2 HBb4.out).later (Ext.trans HEb5.out HEb6.out))
  have HBA:Hid (Blk W2 b5 51 27 (aenc a (.slice A4 a'.view.isr.length c4) (.slice A5 a'.reply.entries.length c5) (.slice A6 a'.list.length c6))):=Lib.hid ((HBb5.out.later HEb6.out).congr (fun k hk=>rfl))
  have HBO:=HBb6
  have HE:=Lib.hid (Ext.trans (Ext.trans HEb4.out HEb5.out) HEb6.out)
  have hbb:b4 < b5:=by have:=HBb4.out.lt;omega
  have hbb2:b5 < b6:=by have:=HBb5.out.lt;omega
  have hs0:=HEb4.out.size
  have hs1:=HEb5.out.size
  have h6W:W.heap.size≤b6:=by omega
  clear HBb4 HBb5 HBb6 HEb4 HEb5 HEb6
  have HFW:Hid (∀ k,F k→k < W.heap.size):=Lib.hid (fun k hk=>(HH.out.hi k hk).2)
  have HVN:=Lib.hid (HVR.out.wide (N':=fun k=>F k∨X k∨k = b6) (fun k hk=>hk.elim (fun h=>.inl (.inl h)) (fun h=>h.elim (fun h=>.inl (.inr h)) (fun e=>.inr (by subst e;exact h6W)))))
  have HAN:=Lib.hid (HAC.out.wide (N':=fun k=>F k∨X k∨k = b6) (fun k hk=>hk.elim (fun h=>.inl (.inl h)) (fun h=>h.elim (fun h=>.inl (.inr h)) (fun e=>.inr (by subst e;exact h6W)))))
  clear HVR HAC
  have hal:=HBA.out.lt
  have hsl:=HBS.out.lt
  repeat' (first|refine X_q ?_|refine X_nil ?_|refine W_seqk (fun K hK=>?_)|refine W_seqr ?_|go_step)
  refine X_aload HBA.out ?_ (hu:=Tryz.underlying51)
  skip
  refine X_fload HBS.out ?_ (hu:=Tryz.underlying33)
  skip
  refine X_ret Tryz.func35 (NEAR.out _ HE.out) (fun r w1 hR=>?_)
  obtain ⟨hE1,rfl⟩:=hR
  replace HBS:=Lib.hid (HBS.out.later hE1)
  replace HBA:=Lib.hid (HBA.out.later hE1)
  replace HBO:=Lib.hid (HBO.out.later hE1)
  replace HE:=Lib.hid (Ext.trans HE.out hE1)
  clear hE1 NEAR hal hsl
  have hal:=HBA.out.lt
  skip
  refine X_store (off:=0) HBA.out (fun W1 hM1 hB1=>?_);replace HE:=Lib.hid (Ext.fresh HE.out hM1 (fun k hk=>by subst hk;omega));replace HBS:=Lib.hid (HBS.out.mod hM1 (fun h=>by omega));replace HBO:=Lib.hid (HBO.out.mod hM1 (fun h=>by omega));replace HBA:=Lib.hid hB1;clear hM1 hB1
  replace HBA:=Lib.hid (HBA.out.congr (g':=aenc a' (.slice A4 a'.view.isr.length c4) (.slice A5 a'.reply.entries.length c5) (.slice A6 a'.list.length c6)) (all27 ⟨rfl,rfl,rfl,rfl,rfl,rfl,rfl,rfl,rfl,rfl,rfl,rfl,rfl,rfl,rfl,rfl,rfl,rfl,rfl,rfl,rfl,rfl,rfl,rfl,rfl,rfl,rfl⟩))
  clear hal
  obtain ⟨hlt,d0,d1,d2,d3,d4,d5,d6,d7,d8,d9,d10⟩:=fcells HBS.out
  have hal:=HBA.out.lt
  have e0:=HBA.out.cell (k:=0) (by omega)
  change World.cell? _ _ = some (.int .i64 a'.kind) at e0
  rw [hka] at e0
  have hbol:=HBO.out.lt
  have hEW:=HE.out.size
  have HGG:=Lib.hid HG.out.good
  repeat' (first|refine X_q ?_|refine X_nil ?_|refine W_seqk (fun K hK=>?_)|refine W_seqr ?_|refine W_block ?_|refine W_tt ?_|refine W_ff ?_|go_step)
  refine X_fload HBS.out ?_ (hu:=Tryz.underlying33)
  skip
  refine X_ret Tryz.func38 (flush11_calls (N:=fun k=>F k∨X k∨k = b6) (HVN.out.later HE.out) HGG.out.bks) (fun r w1 hR=>?_)
  obtain ⟨hE1,oL,oI,oC,rfl,hVO⟩:=hR
  obtain ⟨B1,x1,rfl,-⟩:=hVO.rl.ent
  obtain ⟨B2,x2,rfl,-⟩:=hVO.ri.int
  obtain ⟨B3,x3,rfl,-⟩:=hVO.rc.int
  have HE1:=Lib.hid (Ext.trans HE.out hE1)
  have HVO:=Lib.hid hVO
  replace HBS:=Lib.hid (HBS.out.later hE1)
  replace HBA:=Lib.hid (HBA.out.later hE1)
  replace HBO:=Lib.hid (HBO.out.later hE1)
  clear hE1 hVO HE hbol hEW e0 hal
  clear hlt d0 d1 d2 d3 d4 d5 d6 d7 d8 d9 d10
  have HE:=Lib.hid (Ext.refl w1)
  have hbol:=HBO.out.lt
  have hEW:=HE1.out.size
  have h61:=HBO.out.lt
  repeat' (first|refine X_q ?_|fail)
  refine X_ret Tryz.func26 (flush_calls ((HH.out.later HE1.out).rep) HGG.out.ne HGG.out.bks) (fun r w4 hR=>?_)
  replace hR:=And.intro hR.1 (And.intro hR.2.1 (hR.2.2.mono (G:=fun k=>F k∨w1.heap.size≤k) (fun k hk=>.inl hk)))
  obtain ⟨rfl,hM,hRp⟩:=hR
  have HMc:=Lib.hid hM
  have HRc:=Lib.hid hRp
  have HBO4:=Lib.hid (HBO.out.mod hM (fun h=>by have:=HFW.out _ h;omega))
  have hbol4:=HBO4.out.lt
  have hs4:=hM.size
  clear hM hRp
  repeat' (first|refine X_q ?_|fail)
  refine X_store (off:=0) HBO4.out (fun W5 hM5 hB5=>?_)
  have HM5:=Lib.hid hM5
  have HB5:=Lib.hid (fput hB5)
  clear hM5 hB5
  repeat' (first|refine X_q ?_|refine X_nil ?_|refine W_ret ?_|go_step)
  exact Body_retcellv (cs:=RepS.cs (s.flush) _ _ _) hd (does_end HH.out HE1.out HE.out HMc.out HRc.out HM5.out h6W h61 HVO.out) HB5.out (fun k hk=>cs_fenc hk) Tryz.underlying33
end Go.Ws
namespace Go.Ws
open Go Go.RowKit Go.Proofs
set_option maxHeartbeats 2000000
set_option maxRecDepth 100000
set_option linter.unusedVariables false
set_option linter.unusedSimpArgs false
theorem all5 {P:Nat→Prop} (h:P 0∧P 1∧P 2∧P 3∧P 4):∀ k,k < 5→P k:=by
  obtain ⟨h0,h1,h2,h3,h4⟩:=h
  intro k hk
  obtain rfl|rfl|rfl|rfl|rfl:k = 0∨k = 1∨k = 2∨k = 3∨k = 4:=by omega
  all_goals assumption
def Fetch.zero:Fetch:=⟨0,0,0,0,0⟩
theorem ask11_calls {N:Nat→Prop} {w:World} {uL uI uC:Value} {s:RepS} (h:VR N w uL uI uC s):Pure Tryz.prog 39 #[s.v uL uI uC] w (.tuple #[if s.role = 2 then s.asks.v else Fetch.zero.v,.int .i64 (if s.role = 2 then 0 else 211)]):=by
  have HVR:=Lib.hid h
  obtain ⟨A1,c1,rfl,-⟩:=h.rl.rd.ent
  obtain ⟨A2,c2,rfl,-⟩:=h.ri.rd.int
  obtain ⟨A3,c3,rfl,-⟩:=h.rc.rd.int
  clear h
  by_cases hr:s.role = 2
  · have hrb:(s.role != 2) = false:=by simp [hr]
    rw [if_pos hr,if_pos hr]
    clear hr
    refine Fn_of Tryz.func39 rfl (Nat.le_of_ble_eq_true rfl) ?_;intro A hd hA;simp only [ix,Nat.reduceAdd];replace hA:A.tmps.size = 21:=hA
    (repeat' (first|refine W_seqk (fun K hK=>?_)|refine W_seqr ?_|fail));(first|(refine X_var (fun yn bx hn1 hn2 hn3 hn4 hn5=>?_))|(refine X_s (fun x K hK=>?_);go_simp;refine hK _ _ (Ext.alloc _ _) ?_;clear hK K;refine X_al x ?_;generalize (World.later _ x).heap.size = bx;intro yn hn1 hn2 hn3 hn4 hn5;clear x));have HBbx:=Lib.hid (Blk.new hn5.out);have HEbx:=Lib.hid yn.ext;have hlbx:(World.heap w).size≤bx:=hn1;generalize World.later w yn = W0 at *;clear hn1 hn2 hn3 hn4 hn5 yn
    (skip);(first|(refine X_var (fun yn bo hn1 hn2 hn3 hn4 hn5=>?_))|(refine X_s (fun x K hK=>?_);go_simp;refine hK _ _ (Ext.alloc _ _) ?_;clear hK K;refine X_al x ?_;generalize (World.later _ x).heap.size = bo;intro yn hn1 hn2 hn3 hn4 hn5;clear x));have HBbo:=Lib.hid (Blk.new hn5.out);have HEbo:=Lib.hid yn.ext;have hlbo:(World.heap W0).size≤bo:=hn1;generalize World.later W0 yn = W at *;clear hn1 hn2 hn3 hn4 hn5 yn
    have HBX:=Lib.hid ((fbox2 HBbx.out).later HEbo.out)
    have HE:=Lib.hid (Ext.trans HEbx.out HEbo.out)
    have hbb:bx < bo:=by have:=HBbx.out.lt;omega
    have hE0:=HEbx.out.size
    have HBO:=HBbo
    clear HBbx HBbo HEbx HEbo
    have hbol:=HBO.out.lt
    obtain ⟨hlt,d0,d1,d2,d3,d4,d5,d6,d7,d8,d9,d10⟩:=fcells HBX.out
    repeat' (first|refine X_q ?_|refine X_nil ?_|refine W_seqk (fun K hK=>?_)|refine W_seqr ?_|refine W_skip ?_|refine W_ff ?_|go_step)
    refine W_drawσ [(0,0),(1,0),(2,0),(3,0),(4,0),(5,0),(6,0),(7,0),(8,0),(10,0),(11,0),(9,1),(12,0),(13,2),(14,0)] (by kernel_rfl) (by kernel_rfl) ?_
    repeat' (first|(refine X_pure1 Tryz.func74 (fun x=>last7_calls _ _ _ ((HVR.out.later HE.out).rl.rd.later x.ext)) ?_)|refine X_q ?_|fail)
    refine X_store (off:=0) HBO.out (fun W1 hM1 hB1=>?_);replace HE:=Lib.hid (Ext.fresh HE.out hM1 (fun k hk=>by subst hk;omega));replace HBO:=Lib.hid hB1;clear hM1 hB1
    repeat' (first|refine X_q ?_|refine X_niln ?_|refine W_ret ?_|go_step)
    exact Body_retcellv (cs:=s.asks.cs) hd ⟨rfl,HE.out⟩ (HBO.out.congr (g':=fun k=>s.asks.cs.getD k undef) (all5 ⟨rfl,rfl,rfl,rfl,rfl⟩)) (all5 ⟨rfl,rfl,rfl,rfl,rfl⟩) Tryz.underlying47
  · have hrb:(s.role != 2) = true:=by simp [hr]
    rw [if_neg hr,if_neg hr]
    refine Fn_of Tryz.func39 rfl (Nat.le_of_ble_eq_true rfl) ?_;intro A hd hA;simp only [ix,Nat.reduceAdd];replace hA:A.tmps.size = 21:=hA
    (repeat' (first|refine W_seqk (fun K hK=>?_)|refine W_seqr ?_|fail));(first|(refine X_var (fun yn bx hn1 hn2 hn3 hn4 hn5=>?_))|(refine X_s (fun x K hK=>?_);go_simp;refine hK _ _ (Ext.alloc _ _) ?_;clear hK K;refine X_al x ?_;generalize (World.later _ x).heap.size = bx;intro yn hn1 hn2 hn3 hn4 hn5;clear x));have HBbx:=Lib.hid (Blk.new hn5.out);have HEbx:=Lib.hid yn.ext;have hlbx:(World.heap w).size≤bx:=hn1;generalize World.later w yn = W0 at *;clear hn1 hn2 hn3 hn4 hn5 yn
    (skip);(first|(refine X_var (fun yn bo hn1 hn2 hn3 hn4 hn5=>?_))|(refine X_s (fun x K hK=>?_);go_simp;refine hK _ _ (Ext.alloc _ _) ?_;clear hK K;refine X_al x ?_;generalize (World.later _ x).heap.size = bo;intro yn hn1 hn2 hn3 hn4 hn5;clear x));have HBbo:=Lib.hid (Blk.new hn5.out);have HEbo:=Lib.hid yn.ext;have hlbo:(World.heap W0).size≤bo:=hn1;generalize World.later W0 yn = W at *;clear hn1 hn2 hn3 hn4 hn5 yn
    have HBX:=Lib.hid ((fbox2 HBbx.out).later HEbo.out)
    have HE:=Lib.hid (Ext.trans HEbx.out HEbo.out)
    have hbb:bx < bo:=by have:=HBbx.out.lt;omega
    have hE0:=HEbx.out.size
    have HBO:=HBbo
    clear HBbx HBbo HEbx HEbo
    have hbol:=HBO.out.lt
    obtain ⟨hlt,d0,d1,d2,d3,d4,d5,d6,d7,d8,d9,d10⟩:=fcells HBX.out
    repeat' (first|refine X_q ?_|refine X_nil ?_|refine W_seqk (fun K hK=>?_)|refine W_seqr ?_|refine W_tt ?_|go_step)
    refine X_store (off:=0) HBO.out (fun W1 hM1 hB1=>?_);replace HE:=Lib.hid (Ext.fresh HE.out hM1 (fun k hk=>by subst hk;omega));replace HBO:=Lib.hid hB1;clear hM1 hB1
    repeat' (first|refine X_q ?_|refine X_nil ?_|refine W_ret ?_|go_step)
    exact Body_retcellv (cs:=Fetch.zero.cs) hd ⟨rfl,HE.out⟩ (HBO.out.congr (g':=fun k=>Fetch.zero.cs.getD k undef) (all5 ⟨rfl,rfl,rfl,rfl,rfl⟩)) (all5 ⟨rfl,rfl,rfl,rfl,rfl⟩) Tryz.underlying47
theorem Rd.takeN {α:Type} {enc:α→List Value} {k:Nat} {w:World} {xs:List α} {A:Option Addr} {N c:Nat} (h:Rd enc k w (.slice A N c) xs) (n:Nat) (hn:n≤xs.length):Rd enc k w (.slice A n n) (xs.take n):=by
  obtain ⟨A',c',h1,h2,h3,h4⟩:=h.take n hn
  obtain ⟨rfl,-,rfl⟩:=Value.slice.inj h1
  have hl:(xs.take n).length = n:=by simp;omega
  exact ⟨A,n,by rw [hl],by rw [hl];exact Nat.le_refl _,by rw [hl] at h2;omega,h4.imp (fun h=>⟨.inr (by have h5:=hl;rw [h.2] at h5;simpa using h5.symm),h.2⟩) id⟩
theorem RdN.takeN {α:Type} {N:Nat→Prop} {enc:α→List Value} {k:Nat} {w:World} {xs:List α} {A:Option Addr} {m c:Nat} (h:RdN N enc k w (.slice A m c) xs) (n:Nat) (hn:n≤xs.length):RdN N enc k w (.slice A n n) (xs.take n) :=
  ⟨h.rd.takeN n hn,fun b hb=>h.nb b (by cases A <;> exact hb)⟩
theorem crash11_calls {N:Nat→Prop} {w:World} {uL uI uC:Value} {s:RepS} (h:VR N w uL uI uC s) (hl:s.log.length≤4096) (hf0:0≤s.flushed) (hf1:s.flushed≤s.log.length) (keep:Int):Ret Tryz.prog 44 #[s.v uL uI uC,.int .i64 keep] w fun r w'=>Ext w w'∧∃ v',r = .tuple #[v',.int .i64 (s.crash keep).2]∧FV N w' v' (s.crash keep).1:=by
  have HVR:=Lib.hid h
  obtain ⟨A1,c1,rfl,hc1,hcm1,-⟩:=h.rl.rd.ent
  obtain ⟨A2,c2,rfl,-⟩:=h.ri.rd.int
  obtain ⟨A3,c3,rfl,-⟩:=h.rc.rd.int
  clear h
  by_cases hk0:keep < 0
  · have hcr:s.crash keep = (s,2):=by unfold RepS.crash;rw [if_pos hk0]
    rw [hcr]
    clear hcr
    refine Fn_of Tryz.func44 rfl (Nat.le_of_ble_eq_true rfl) ?_;intro A hd hA;simp only [ix,Nat.reduceAdd];replace hA:A.tmps.size = 40:=hA
    (repeat' (first|refine W_seqk (fun K hK=>?_)|refine W_seqr ?_|fail));(first|(refine X_var (fun yn bx hn1 hn2 hn3 hn4 hn5=>?_))|(refine X_s (fun x K hK=>?_);go_simp;refine hK _ _ (Ext.alloc _ _) ?_;clear hK K;refine X_al x ?_;generalize (World.later _ x).heap.size = bx;intro yn hn1 hn2 hn3 hn4 hn5;clear x));have HBbx:=Lib.hid (Blk.new hn5.out);have HEbx:=Lib.hid yn.ext;have hlbx:(World.heap w).size≤bx:=hn1;generalize World.later w yn = W0 at *;clear hn1 hn2 hn3 hn4 hn5 yn
    (skip);(first|(refine X_var (fun yn bo hn1 hn2 hn3 hn4 hn5=>?_))|(refine X_s (fun x K hK=>?_);go_simp;refine hK _ _ (Ext.alloc _ _) ?_;clear hK K;refine X_al x ?_;generalize (World.later _ x).heap.size = bo;intro yn hn1 hn2 hn3 hn4 hn5;clear x));have HBbo:=Lib.hid (Blk.new hn5.out);have HEbo:=Lib.hid yn.ext;have hlbo:(World.heap W0).size≤bo:=hn1;generalize World.later W0 yn = W at *;clear hn1 hn2 hn3 hn4 hn5 yn
    have HBX:=Lib.hid ((fbox2 HBbx.out).later HEbo.out)
    have HE:=Lib.hid (Ext.trans HEbx.out HEbo.out)
    have hbb:bx < bo:=by have:=HBbx.out.lt;omega
    have hE0:=HEbx.out.size
    have HBO:=HBbo
    clear HBbx HBbo HEbx HEbo
    have hbol:=HBO.out.lt
    obtain ⟨hlt,d0,d1,d2,d3,d4,d5,d6,d7,d8,d9,d10⟩:=fcells HBX.out
    repeat' (first|refine X_q ?_|refine X_nil ?_|refine W_seqk (fun K hK=>?_)|refine W_seqr ?_|refine W_tt ?_|go_step)
    refine X_fload HBX.out ?_ (hu:=Tryz.underlying33)
    skip
    refine X_store (off:=0) HBO.out (fun W1 hM1 hB1=>?_);replace HE:=Lib.hid (Ext.fresh HE.out hM1 (fun k hk=>by subst hk;omega));replace HBO:=Lib.hid hB1;clear hM1 hB1
    replace HBO:=Lib.hid (fput HBO.out)
    repeat' (first|refine X_q ?_|refine X_nil ?_|refine W_ret ?_|go_step)
    exact Body_retcellv (cs:=RepS.cs (s) _ _ _) hd ⟨HE.out,_,rfl,_,_,_,rfl,HVR.out.later HE.out⟩ HBO.out (fun k hk=>cs_fenc hk) Tryz.underlying33
  · obtain ⟨n, hn⟩ : ∃ n : Nat, (n : Int) = gmin (s.log.length : Int) (s.flushed + gmin keep 4096) := by
      refine ⟨(gmin (s.log.length:Int) (s.flushed + gmin keep 4096)).toNat,?_⟩
      rw [gmin_eq,gmin_eq];omega
    have hnl:n≤s.log.length:=by rw [gmin_eq,gmin_eq] at hn;omega
    have hcr:s.crash keep = ({ s with version:=0,beg:=0,isr:=[],counts:=[],known:=fun _=>0,log:=s.log.take n,flushed:=n,high:=gmin s.high n,role:=1 },0):=by
      unfold RepS.crash
      rw [if_neg hk0]
      simp only [← hn]
      rfl
    rw [hcr]
    clear hcr
    have hnc:n≤c1:=by omega
    by_cases hkn:keep < (s.log.length:Int) - s.flushed
    · have hnn:s.flushed + keep = (n:Int):=by rw [hn,gmin_eq,gmin_eq];omega
      clear hn
      refine Fn_of Tryz.func44 rfl (Nat.le_of_ble_eq_true rfl) ?_;intro A hd hA;simp only [ix,Nat.reduceAdd];replace hA:A.tmps.size = 40:=hA
      (repeat' (first|refine W_seqk (fun K hK=>?_)|refine W_seqr ?_|fail));(first|(refine X_var (fun yn bx hn1 hn2 hn3 hn4 hn5=>?_))|(refine X_s (fun x K hK=>?_);go_simp;refine hK _ _ (Ext.alloc _ _) ?_;clear hK K;refine X_al x ?_;generalize (World.later _ x).heap.size = bx;intro yn hn1 hn2 hn3 hn4 hn5;clear x));have HBbx:=Lib.hid (Blk.new hn5.out);have HEbx:=Lib.hid yn.ext;have hlbx:(World.heap w).size≤bx:=hn1;generalize World.later w yn = W0 at *;clear hn1 hn2 hn3 hn4 hn5 yn
      (skip);(first|(refine X_var (fun yn bo hn1 hn2 hn3 hn4 hn5=>?_))|(refine X_s (fun x K hK=>?_);go_simp;refine hK _ _ (Ext.alloc _ _) ?_;clear hK K;refine X_al x ?_;generalize (World.later _ x).heap.size = bo;intro yn hn1 hn2 hn3 hn4 hn5;clear x));have HBbo:=Lib.hid (Blk.new hn5.out);have HEbo:=Lib.hid yn.ext;have hlbo:(World.heap W0).size≤bo:=hn1;generalize World.later W0 yn = W at *;clear hn1 hn2 hn3 hn4 hn5 yn
      have HBX:=Lib.hid ((fbox2 HBbx.out).later HEbo.out)
      have HE:=Lib.hid (Ext.trans HEbx.out HEbo.out)
      have hbb:bx < bo:=by have:=HBbx.out.lt;omega
      have hE0:=HEbx.out.size
      have HBO:=HBbo
      clear HBbx HBbo HEbx HEbo
      have hbol:=HBO.out.lt
      obtain ⟨hlt,d0,d1,d2,d3,d4,d5,d6,d7,d8,d9,d10⟩:=fcells HBX.out
      repeat' (first|refine X_q ?_|refine X_nil ?_|refine W_seqk (fun K hK=>?_)|refine W_seqr ?_|refine W_skip ?_|refine W_tt ?_|refine W_ff ?_|go_step)
      refine X_fload HBX.out ?_ (hu:=Tryz.underlying33)
      clear hlt d0 d1 d2 d3 d4 d5 d6 d7 d8 d9 d10
      skip
      refine X_ret Tryz.func77 (bare11_calls (HVR.out.later HE.out)) (fun r w1 hR=>?_)
      obtain ⟨hE2,rfl⟩:=hR
      replace HE:=Lib.hid (Ext.trans HE.out hE2)
      replace HBO:=Lib.hid (HBO.out.later hE2)
      replace HBX:=Lib.hid (HBX.out.later hE2)
      clear hE2
      skip
      refine X_store (off:=0) HBX.out (fun W1 hM1 hB1=>?_);replace HE:=Lib.hid (Ext.fresh HE.out hM1 (fun k hk=>by subst hk;omega));replace HBO:=Lib.hid (HBO.out.mod hM1 (fun h=>by omega));replace HBX:=Lib.hid hB1;clear hM1 hB1
      replace HBX:=Lib.hid (fput HBX.out)
      obtain ⟨hlt,d0,d1,d2,d3,d4,d5,d6,d7,d8,d9,d10⟩:=fcells HBX.out
      (try dsimp only [RepS.bare] at d0 d1 d2 d3 d5 d6 d7 d8)
      repeat' (first|refine X_q ?_|refine X_nil ?_|refine W_seqk (fun K hK=>?_)|refine W_seqr ?_|go_step)
      refine X_store (off:=4) HBX.out (fun W1 hM1 hB1=>?_);replace HE:=Lib.hid (Ext.fresh HE.out hM1 (fun k hk=>by subst hk;omega));replace HBO:=Lib.hid (HBO.out.mod hM1 (fun h=>by omega));replace HBX:=Lib.hid hB1;clear hM1 hB1
      clear hlt d0 d1 d2 d3 d4 d5 d6 d7 d8 d9 d10
      replace HBX:=Lib.hid (HBX.out.congr (g':=fenc { s.bare with log:=s.log.take n } (.slice A1 n n) (.slice none 0 0) (.slice none 0 0)) (all15 ⟨rfl,rfl,rfl,rfl,rfl,rfl,rfl,rfl,rfl,rfl,rfl,rfl,rfl,rfl,rfl⟩))
      obtain ⟨hlt,d0,d1,d2,d3,d4,d5,d6,d7,d8,d9,d10⟩:=fcells HBX.out
      (try dsimp only [RepS.bare] at d0 d1 d2 d3 d5 d6 d7 d8)
      repeat' (first|refine X_q ?_|refine X_nil ?_|refine W_seqk (fun K hK=>?_)|refine W_seqr ?_|go_step)
      refine X_store (off:=5) HBX.out (fun W1 hM1 hB1=>?_);replace HE:=Lib.hid (Ext.fresh HE.out hM1 (fun k hk=>by subst hk;omega));replace HBO:=Lib.hid (HBO.out.mod hM1 (fun h=>by omega));replace HBX:=Lib.hid hB1;clear hM1 hB1
      repeat' (first|refine X_q ?_|fail)
      refine X_store (off:=6) HBX.out (fun W1 hM1 hB1=>?_);replace HE:=Lib.hid (Ext.fresh HE.out hM1 (fun k hk=>by subst hk;omega));replace HBO:=Lib.hid (HBO.out.mod hM1 (fun h=>by omega));replace HBX:=Lib.hid hB1;clear hM1 hB1
      repeat' (first|refine X_q ?_|fail)
      refine X_store (off:=2) HBX.out (fun W1 hM1 hB1=>?_);replace HE:=Lib.hid (Ext.fresh HE.out hM1 (fun k hk=>by subst hk;omega));replace HBO:=Lib.hid (HBO.out.mod hM1 (fun h=>by omega));replace HBX:=Lib.hid hB1;clear hM1 hB1
      replace HBX:=Lib.hid (HBX.out.congr (g':=fenc { s with version:=0,beg:=0,isr:=[],counts:=[],known:=fun _=>0,log:=s.log.take n,flushed:=n,high:=gmin s.high n,role:=1 } (.slice A1 n n) (.slice none 0 0) (.slice none 0 0)) (all15 ⟨rfl,rfl,rfl,rfl,rfl,rfl,rfl,rfl,rfl,rfl,rfl,rfl,rfl,rfl,rfl⟩))
      clear hlt d0 d1 d2 d3 d4 d5 d6 d7 d8 d9 d10
      repeat' (first|refine X_nil ?_|refine W_seqk (fun K hK=>?_)|refine W_seqr ?_|go_step)
      refine X_fload HBX.out ?_ (hu:=Tryz.underlying33)
      skip
      refine X_store (off:=0) HBO.out (fun W1 hM1 hB1=>?_);replace HE:=Lib.hid (Ext.fresh HE.out hM1 (fun k hk=>by subst hk;omega));replace HBO:=Lib.hid hB1;clear hM1 hB1
      replace HBO:=Lib.hid (fput HBO.out)
      repeat' (first|refine X_q ?_|refine X_nil ?_|refine W_ret ?_|go_step)
      exact Body_retcellv (cs:=RepS.cs ({ s with version:=0,beg:=0,isr:=[],counts:=[],known:=fun _=>0,log:=s.log.take n,flushed:=n,high:=gmin s.high n,role:=1 }) _ _ _) hd ⟨HE.out,_,rfl,_,_,_,rfl,⟨(HVR.out.later HE.out).rl.takeN n hnl,RdN.nil _,RdN.nil _⟩⟩ HBO.out (fun k hk=>cs_fenc hk) Tryz.underlying33
    · have hnn:n = s.log.length:=by rw [gmin_eq,gmin_eq] at hn;omega
      clear hn
      subst hnn
      refine Fn_of Tryz.func44 rfl (Nat.le_of_ble_eq_true rfl) ?_;intro A hd hA;simp only [ix,Nat.reduceAdd];replace hA:A.tmps.size = 40:=hA
      (repeat' (first|refine W_seqk (fun K hK=>?_)|refine W_seqr ?_|fail));(first|(refine X_var (fun yn bx hn1 hn2 hn3 hn4 hn5=>?_))|(refine X_s (fun x K hK=>?_);go_simp;refine hK _ _ (Ext.alloc _ _) ?_;clear hK K;refine X_al x ?_;generalize (World.later _ x).heap.size = bx;intro yn hn1 hn2 hn3 hn4 hn5;clear x));have HBbx:=Lib.hid (Blk.new hn5.out);have HEbx:=Lib.hid yn.ext;have hlbx:(World.heap w).size≤bx:=hn1;generalize World.later w yn = W0 at *;clear hn1 hn2 hn3 hn4 hn5 yn
      (skip);(first|(refine X_var (fun yn bo hn1 hn2 hn3 hn4 hn5=>?_))|(refine X_s (fun x K hK=>?_);go_simp;refine hK _ _ (Ext.alloc _ _) ?_;clear hK K;refine X_al x ?_;generalize (World.later _ x).heap.size = bo;intro yn hn1 hn2 hn3 hn4 hn5;clear x));have HBbo:=Lib.hid (Blk.new hn5.out);have HEbo:=Lib.hid yn.ext;have hlbo:(World.heap W0).size≤bo:=hn1;generalize World.later W0 yn = W at *;clear hn1 hn2 hn3 hn4 hn5 yn
      have HBX:=Lib.hid ((fbox2 HBbx.out).later HEbo.out)
      have HE:=Lib.hid (Ext.trans HEbx.out HEbo.out)
      have hbb:bx < bo:=by have:=HBbx.out.lt;omega
      have hE0:=HEbx.out.size
      have HBO:=HBbo
      clear HBbx HBbo HEbx HEbo
      have hbol:=HBO.out.lt
      obtain ⟨hlt,d0,d1,d2,d3,d4,d5,d6,d7,d8,d9,d10⟩:=fcells HBX.out
      repeat' (first|refine X_q ?_|refine X_nil ?_|refine W_seqk (fun K hK=>?_)|refine W_seqr ?_|refine W_skip ?_|refine W_ff ?_|go_step)
      refine X_fload HBX.out ?_ (hu:=Tryz.underlying33)
      clear hlt d0 d1 d2 d3 d4 d5 d6 d7 d8 d9 d10
      skip
      refine X_ret Tryz.func77 (bare11_calls (HVR.out.later HE.out)) (fun r w1 hR=>?_)
      obtain ⟨hE2,rfl⟩:=hR
      replace HE:=Lib.hid (Ext.trans HE.out hE2)
      replace HBO:=Lib.hid (HBO.out.later hE2)
      replace HBX:=Lib.hid (HBX.out.later hE2)
      clear hE2
      skip
      refine X_store (off:=0) HBX.out (fun W1 hM1 hB1=>?_);replace HE:=Lib.hid (Ext.fresh HE.out hM1 (fun k hk=>by subst hk;omega));replace HBO:=Lib.hid (HBO.out.mod hM1 (fun h=>by omega));replace HBX:=Lib.hid hB1;clear hM1 hB1
      replace HBX:=Lib.hid (fput HBX.out)
      obtain ⟨hlt,d0,d1,d2,d3,d4,d5,d6,d7,d8,d9,d10⟩:=fcells HBX.out
      (try dsimp only [RepS.bare] at d0 d1 d2 d3 d5 d6 d7 d8)
      repeat' (first|refine X_q ?_|refine X_nil ?_|refine W_seqk (fun K hK=>?_)|refine W_seqr ?_|go_step)
      refine X_store (off:=4) HBX.out (fun W1 hM1 hB1=>?_);replace HE:=Lib.hid (Ext.fresh HE.out hM1 (fun k hk=>by subst hk;omega));replace HBO:=Lib.hid (HBO.out.mod hM1 (fun h=>by omega));replace HBX:=Lib.hid hB1;clear hM1 hB1
      clear hlt d0 d1 d2 d3 d4 d5 d6 d7 d8 d9 d10
      replace HBX:=Lib.hid (HBX.out.congr (g':=fenc { s.bare with log:=s.log.take s.log.length } (.slice A1 s.log.length s.log.length) (.slice none 0 0) (.slice none 0 0)) (all15 ⟨rfl,rfl,rfl,rfl,rfl,rfl,rfl,rfl,rfl,rfl,rfl,rfl,rfl,rfl,rfl⟩))
      obtain ⟨hlt,d0,d1,d2,d3,d4,d5,d6,d7,d8,d9,d10⟩:=fcells HBX.out
      (try dsimp only [RepS.bare] at d0 d1 d2 d3 d5 d6 d7 d8)
      repeat' (first|refine X_q ?_|refine X_nil ?_|refine W_seqk (fun K hK=>?_)|refine W_seqr ?_|go_step)
      refine X_store (off:=5) HBX.out (fun W1 hM1 hB1=>?_);replace HE:=Lib.hid (Ext.fresh HE.out hM1 (fun k hk=>by subst hk;omega));replace HBO:=Lib.hid (HBO.out.mod hM1 (fun h=>by omega));replace HBX:=Lib.hid hB1;clear hM1 hB1
      repeat' (first|refine X_q ?_|fail)
      refine X_store (off:=6) HBX.out (fun W1 hM1 hB1=>?_);replace HE:=Lib.hid (Ext.fresh HE.out hM1 (fun k hk=>by subst hk;omega));replace HBO:=Lib.hid (HBO.out.mod hM1 (fun h=>by omega));replace HBX:=Lib.hid hB1;clear hM1 hB1
      repeat' (first|refine X_q ?_|fail)
      refine X_store (off:=2) HBX.out (fun W1 hM1 hB1=>?_);replace HE:=Lib.hid (Ext.fresh HE.out hM1 (fun k hk=>by subst hk;omega));replace HBO:=Lib.hid (HBO.out.mod hM1 (fun h=>by omega));replace HBX:=Lib.hid hB1;clear hM1 hB1
      replace HBX:=Lib.hid (HBX.out.congr (g':=fenc { s with version:=0,beg:=0,isr:=[],counts:=[],known:=fun _=>0,log:=s.log.take s.log.length,flushed:=s.log.length,high:=gmin s.high s.log.length,role:=1 } (.slice A1 s.log.length s.log.length) (.slice none 0 0) (.slice none 0 0)) (all15 ⟨rfl,rfl,rfl,rfl,rfl,rfl,rfl,rfl,rfl,rfl,rfl,rfl,rfl,rfl,rfl⟩))
      clear hlt d0 d1 d2 d3 d4 d5 d6 d7 d8 d9 d10
      repeat' (first|refine X_nil ?_|refine W_seqk (fun K hK=>?_)|refine W_seqr ?_|go_step)
      refine X_fload HBX.out ?_ (hu:=Tryz.underlying33)
      skip
      refine X_store (off:=0) HBO.out (fun W1 hM1 hB1=>?_);replace HE:=Lib.hid (Ext.fresh HE.out hM1 (fun k hk=>by subst hk;omega));replace HBO:=Lib.hid hB1;clear hM1 hB1
      replace HBO:=Lib.hid (fput HBO.out)
      repeat' (first|refine X_q ?_|refine X_nil ?_|refine W_ret ?_|go_step)
      exact Body_retcellv (cs:=RepS.cs ({ s with version:=0,beg:=0,isr:=[],counts:=[],known:=fun _=>0,log:=s.log.take s.log.length,flushed:=s.log.length,high:=gmin s.high s.log.length,role:=1 }) _ _ _) hd ⟨HE.out,_,rfl,_,_,_,rfl,⟨(HVR.out.later HE.out).rl.takeN s.log.length hnl,RdN.nil _,RdN.nil _⟩⟩ HBO.out (fun k hk=>cs_fenc hk) Tryz.underlying33
end Go.Ws
