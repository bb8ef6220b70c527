/- Lemmas for the statements of this layer (joined texts); no condition. -/
import Derived.Test.YtlpjgegbdmkmdaaGreatBb10
import Derived.Test.YtlpjgegbdmkmdaaGreatBb16
import Derived.Test.YtlpjgegbdmkmdaaGreatBb20
import Derived.Test.YtlpjgegbdmkmdaaGreatBb21
namespace Go.Ws
open Go Go.RowKit Go.Proofs
set_option maxHeartbeats 4000000
set_option maxRecDepth 100000
set_option linter.unusedVariables false
set_option linter.unusedSimpArgs false
theorem does4_calls {w0 W : World} {b : Nat} {F X : Nat → Prop} {s : RepS} {uL uI uC vI vE vL : Value} {a : ActD} (h : HR w0 W b F s) (hg : s.Fine) (hX : ∀ k, X k → k < W.heap.size) (hv : VR (fun k => F k ∨ X k) W uL uI uC s) (ha : ActR (fun k => F k ∨ X k) W vI vE vL a) (hk : a.kind = 4) :
    Ret Tryz.prog 16 #[.pointer (some ⟨b,0,none⟩),s.v uL uI uC,a.v vI vE vL] W fun r W'=>DoesR w0 W b F X (s.step (a.atS s)) r W':=by
  have HH:=Lib.hid h
  have HG:=Lib.hid hg
  have HXW:=Lib.hid hX
  clear hX
  have HVR:=Lib.hid hv
  have HAC:=Lib.hid (ha.at s)
  have NEAR:Hid (∀ W',Ext W W'→Ret Tryz.prog 35 #[a.v vI vE vL,s.v uL uI uC] W' fun r w'=>Ext W' w'∧r = (a.atS s).v vI vE vL):=Lib.hid (fun W' hE=>near_calls (hv.later hE) hg.good hg.ver (ha.later hE))
  have hka:(a.atS s).kind = 4:=(atS_kind a s).1.trans hk
  have ht:s.step (a.atS s) = s:=by unfold RepS.step;simp [hka]
  rw [ht]
  clear ht
  obtain ⟨A1,c1,rfl,-⟩:=hv.rl.rd.ent
  obtain ⟨A2,c2,rfl,-⟩:=hv.ri.rd.int
  obtain ⟨A3,c3,rfl,-⟩:=hv.rc.rd.int
  clear h hg hv ha hk
  generalize a.atS s = a' at *
  obtain ⟨A4,c4,rfl,-⟩:=HAC.out.ri.int
  obtain ⟨A5,c5,rfl,-⟩:=HAC.out.re.ent
  obtain ⟨A6,c6,rfl,-⟩:=HAC.out.rl.int
  refine Fn_of Tryz.func16 rfl (Nat.le_of_ble_eq_true rfl) ?_;intro A hd hA;simp only [ix,Nat.reduceAdd];replace hA:A.tmps.size = 268:=hA
  (repeat' (first|refine W_seqk (fun K hK=>?_)|refine W_seqr ?_|fail));(first|(refine X_var (fun yn b4 hn1 hn2 hn3 hn4 hn5=>?_))|(refine X_s (fun x K hK=>?_);go_simp;refine hK _ _ (Ext.alloc _ _) ?_;clear hK K;refine X_al x ?_;generalize (World.later _ x).heap.size = b4;intro yn hn1 hn2 hn3 hn4 hn5;clear x));have HBb4:=Lib.hid (Blk.new hn5.out);have HEb4:=Lib.hid yn.ext;have hlb4:(World.heap W).size≤b4:=hn1;generalize World.later W yn = W0 at *;clear hn1 hn2 hn3 hn4 hn5 yn
  (skip);(first|(refine X_var (fun yn b5 hn1 hn2 hn3 hn4 hn5=>?_))|(refine X_s (fun x K hK=>?_);go_simp;refine hK _ _ (Ext.alloc _ _) ?_;clear hK K;refine X_al x ?_;generalize (World.later _ x).heap.size = b5;intro yn hn1 hn2 hn3 hn4 hn5;clear x));have HBb5:=Lib.hid (Blk.new hn5.out);have HEb5:=Lib.hid yn.ext;have hlb5:(World.heap W0).size≤b5:=hn1;generalize World.later W0 yn = W1 at *;clear hn1 hn2 hn3 hn4 hn5 yn
  (skip);(first|(refine X_var (fun yn b6 hn1 hn2 hn3 hn4 hn5=>?_))|(refine X_s (fun x K hK=>?_);go_simp;refine hK _ _ (Ext.alloc _ _) ?_;clear hK K;refine X_al x ?_;generalize (World.later _ x).heap.size = b6;intro yn hn1 hn2 hn3 hn4 hn5;clear x));have HBb6:=Lib.hid (Blk.new hn5.out);have HEb6:=Lib.hid yn.ext;have hlb6:(World.heap W1).size≤b6:=hn1;generalize World.later W1 yn = W2 at *;clear hn1 hn2 hn3 hn4 hn5 yn
  have HBS:=Lib.hid ((fbox2 HBb4.out).later (Ext.trans HEb5.out HEb6.out))
  have HBA:Hid (Blk W2 b5 51 27 (aenc a (.slice A4 a'.view.isr.length c4) (.slice A5 a'.reply.entries.length c5) (.slice A6 a'.list.length c6))):=Lib.hid ((HBb5.out.later HEb6.out).congr (fun k hk=>rfl))
  have HBO:=HBb6
  have HE:=Lib.hid (Ext.trans (Ext.trans HEb4.out HEb5.out) HEb6.out)
  have hbb:b4 < b5:=by have:=HBb4.out.lt;omega
  have hbb2:b5 < b6:=by have:=HBb5.out.lt;omega
  have hs0:=HEb4.out.size
  have hs1:=HEb5.out.size
  have h6W:W.heap.size≤b6:=by omega
  clear HBb4 HBb5 HBb6 HEb4 HEb5 HEb6
  have HFW:Hid (∀ k,F k→k < W.heap.size):=Lib.hid (fun k hk=>(HH.out.hi k hk).2)
  have HVN:=Lib.hid (HVR.out.wide (N':=fun k=>F k∨X k∨k = b6) (fun k hk=>hk.elim (fun h=>.inl (.inl h)) (fun h=>h.elim (fun h=>.inl (.inr h)) (fun e=>.inr (by subst e;exact h6W)))))
  have HAN:=Lib.hid (HAC.out.wide (N':=fun k=>F k∨X k∨k = b6) (fun k hk=>hk.elim (fun h=>.inl (.inl h)) (fun h=>h.elim (fun h=>.inl (.inr h)) (fun e=>.inr (by subst e;exact h6W)))))
  clear HVR HAC
  have hal:=HBA.out.lt
  have hsl:=HBS.out.lt
  repeat' (first|refine X_q ?_|refine X_nil ?_|refine W_seqk (fun K hK=>?_)|refine W_seqr ?_|go_step)
  refine X_aload HBA.out ?_ (hu:=Tryz.underlying51)
  skip
  refine X_fload HBS.out ?_ (hu:=Tryz.underlying33)
  skip
  refine X_ret Tryz.func35 (NEAR.out _ HE.out) (fun r w1 hR=>?_)
  obtain ⟨hE1,rfl⟩:=hR
  replace HBS:=Lib.hid (HBS.out.later hE1)
  replace HBA:=Lib.hid (HBA.out.later hE1)
  replace HBO:=Lib.hid (HBO.out.later hE1)
  replace HE:=Lib.hid (Ext.trans HE.out hE1)
  clear hE1 NEAR hal hsl
  have hal:=HBA.out.lt
  skip
  refine X_store (off:=0) HBA.out (fun W1 hM1 hB1=>?_);replace HE:=Lib.hid (Ext.fresh HE.out hM1 (fun k hk=>by subst hk;omega));replace HBS:=Lib.hid (HBS.out.mod hM1 (fun h=>by omega));replace HBO:=Lib.hid (HBO.out.mod hM1 (fun h=>by omega));replace HBA:=Lib.hid hB1;clear hM1 hB1
  replace HBA:=Lib.hid (HBA.out.congr (g':=aenc a' (.slice A4 a'.view.isr.length c4) (.slice A5 a'.reply.entries.length c5) (.slice A6 a'.list.length c6)) (all27 ⟨rfl,rfl,rfl,rfl,rfl,rfl,rfl,rfl,rfl,rfl,rfl,rfl,rfl,rfl,rfl,rfl,rfl,rfl,rfl,rfl,rfl,rfl,rfl,rfl,rfl,rfl,rfl⟩))
  clear hal
  obtain ⟨hlt,d0,d1,d2,d3,d4,d5,d6,d7,d8,d9,d10⟩:=fcells HBS.out
  have hal:=HBA.out.lt
  have e0:=HBA.out.cell (k:=0) (by omega)
  change World.cell? _ _ = some (.int .i64 a'.kind) at e0
  rw [hka] at e0
  have hbol:=HBO.out.lt
  have hEW:=HE.out.size
  have HGG:=Lib.hid HG.out.good
  repeat' (first|refine X_q ?_|refine X_nil ?_|refine W_seqk (fun K hK=>?_)|refine W_seqr ?_|refine W_block ?_|refine W_tt ?_|refine W_ff ?_|go_step)
  by_cases hr:s.role = 2
  · have HR2:=Lib.hid hr
    have HASK:Hid (∀ W',Ext W W'→Pure Tryz.prog 39 #[s.v (.slice A1 s.log.length c1) (.slice A2 s.isr.length c2) (.slice A3 s.counts.length c3)] W' (.tuple #[s.asks.v,.int .i64 0])):=Lib.hid (fun W' hE=>by
      have:=ask11_calls (HVN.out.later hE)
      rw [if_pos hr,if_pos hr] at this
      exact this)
    clear hr
    refine X_fload HBS.out ?_ (hu:=Tryz.underlying33)
    skip
    refine X_pure Tryz.func39 (HASK.out _ HE.out) ?_
    have HE1:=HE
    have HVO:=Lib.hid (HVN.out.later HE.out)
    replace HE:=Lib.hid (Ext.refl W1)
    have h61:=HBO.out.lt
    clear HASK
    (repeat' (first|refine X_q ?_|fail));(first|(refine X_var (fun yn b15 hn1 hn2 hn3 hn4 hn5=>?_))|(refine X_s (fun x K hK=>?_);go_simp;refine hK _ _ (Ext.alloc _ _) ?_;clear hK K;refine X_al x ?_;generalize (World.later _ x).heap.size = b15;intro yn hn1 hn2 hn3 hn4 hn5;clear x));have HBb15:=Lib.hid (Blk.new hn5.out);have HEb15:=Lib.hid yn.ext;have hlb15:(World.heap W1).size≤b15:=hn1;generalize World.later W1 yn = W8 at *;clear hn1 hn2 hn3 hn4 hn5 yn
    have HBF:=HBb15
    replace HE:=HEb15
    replace HBS:=Lib.hid (HBS.out.later HEb15.out)
    replace HBA:=Lib.hid (HBA.out.later HEb15.out)
    replace HBO:=Lib.hid (HBO.out.later HEb15.out)
    clear HBb15 HEb15 hbol e0 hal
    clear hlt d0 d1 d2 d3 d4 d5 d6 d7 d8 d9 d10
    have hbol:=HBO.out.lt
    repeat' (first|refine X_q ?_|refine X_nil ?_|refine W_seqk (fun K hK=>?_)|refine W_seqr ?_|go_step)
    refine X_ret Tryz.func22 (ask_ok (((HH.out.later HE1.out).later HE.out).rep) HGG.out.ne HGG.out.may HR2.out) (fun r w4 hR=>?_)
    obtain ⟨rfl,hE9⟩:=hR
    obtain ⟨hM,hRp⟩:Mod F _ _∧Rep _ b (fun k=>F k∨W8.heap.size≤k) s:=⟨hE9.mono (fun _ _ h=>h.elim),((((HH.out.later HE1.out).later HE.out).later hE9).rep).mono (fun k hk=>.inl hk)⟩
    have HMc:=Lib.hid hM
    have HRc:=Lib.hid hRp
    have HEC:=HE
    clear hM hRp
    replace HBS:=Lib.hid (HBS.out.later hE9)
    replace HBF:=Lib.hid (HBF.out.later hE9)
    replace HBO:=Lib.hid (HBO.out.later hE9)
    clear hE9 hbol
    (repeat' (first|refine X_q ?_|fail));(first|(refine X_var (fun yn b17 hn1 hn2 hn3 hn4 hn5=>?_))|(refine X_s (fun x K hK=>?_);go_simp;refine hK _ _ (Ext.alloc _ _) ?_;clear hK K;refine X_al x ?_;generalize (World.later _ x).heap.size = b17;intro yn hn1 hn2 hn3 hn4 hn5;clear x));have HBb17:=Lib.hid (Blk.new hn5.out);have HEb17:=Lib.hid yn.ext;have hlb17:(World.heap w4).size≤b17:=hn1;generalize World.later w4 yn = W9 at *;clear hn1 hn2 hn3 hn4 hn5 yn
    have HBF2:=HBb17
    have HM4:=HEb17
    replace HBS:=Lib.hid (HBS.out.later HEb17.out)
    replace HBF:=Lib.hid (HBF.out.later HEb17.out)
    replace HBO4:=Lib.hid (HBO.out.later HEb17.out)
    clear HBb17 HEb17
    have hbol:=HBO4.out.lt
    have hfl:=HBF.out.lt
    have hfl2:=HBF2.out.lt
    have hsl:=HBS.out.lt
    have f0:=HBF.out.cell (k:=0) (by simp)
    have f1:=HBF.out.cell (k:=1) (by simp)
    have f2:=HBF.out.cell (k:=2) (by simp)
    have f3:=HBF.out.cell (k:=3) (by simp)
    have f4:=HBF.out.cell (k:=4) (by simp)
    simp at f0 f1 f2 f3 f4
    have g0:=HBF2.out.cell (k:=0) (by simp)
    have g1:=HBF2.out.cell (k:=1) (by simp)
    have g2:=HBF2.out.cell (k:=2) (by simp)
    have g3:=HBF2.out.cell (k:=3) (by simp)
    have g4:=HBF2.out.cell (k:=4) (by simp)
    simp at g0 g1 g2 g3 g4
    repeat' (first|refine X_q ?_|refine X_nil ?_|refine W_seqk (fun K hK=>?_)|go_step)
    obtain ⟨G,hG⟩:∃ G:Nat→Prop,G = (fun k=>k = b6):=⟨_,rfl⟩;have HGo:Hid (G b6):=Lib.hid (by subst hG;rfl);have hGb4:¬ G b4:=(by subst hG;show ¬ b4 = b6;omega);clear hG
    refine W_drawG G [(0,3),(1,3),(2,3),(3,0),(4,0),(5,0),(6,0),(7,0),(8,0),(9,2),(10,0)] (by kernel_rfl) (by kernel_rfl) ?_
    (first|refine Y_floadr HBS.out ?_ (hu:=Tryz.underlying33)|refine Y_fload HBS.out hGb4 ?_ (hu:=Tryz.underlying33))
    repeat' (first|refine Y_gt ?_|refine Y_q ?_|refine Y_r ?_|fail)
    refine Y_store (off:=0) HBO4.out HGo.out (fun W5 hM5 hG5x hB5=>?_)
    have HM5:=Lib.hid hM5
    have HB5:=Lib.hid (fput hB5)
    clear hM5 hG5x hB5
    repeat' (first|refine Y_q ?_|refine Y_nil ?_)
    repeat' (first|refine W_ret ?_|go_step)
    have HM6:=Lib.hid (Mod.trans (H:=(· = b6)) HM4.out HM5.out (fun _ _ h=>h.elim) (fun _ _ h=>h))
    exact Body_retcellv (cs:=RepS.cs (s) _ _ _) hd (does_end HH.out HE1.out HEC.out HMc.out HRc.out HM6.out h6W h61 HVO.out) HB5.out (fun k hk=>cs_fenc hk) Tryz.underlying33
  · have HR2:=Lib.hid hr
    have HASK:Hid (∀ W',Ext W W'→Pure Tryz.prog 39 #[s.v (.slice A1 s.log.length c1) (.slice A2 s.isr.length c2) (.slice A3 s.counts.length c3)] W' (.tuple #[(Fetch.mk 0 0 0 0 0).v,.int .i64 211])):=Lib.hid (fun W' hE=>by
      have:=ask11_calls (HVN.out.later hE)
      rw [if_neg hr,if_neg hr] at this
      exact this)
    clear hr
    refine X_fload HBS.out ?_ (hu:=Tryz.underlying33)
    skip
    refine X_pure Tryz.func39 (HASK.out _ HE.out) ?_
    have HE1:=HE
    have HVO:=Lib.hid (HVN.out.later HE.out)
    replace HE:=Lib.hid (Ext.refl W1)
    have h61:=HBO.out.lt
    clear HASK
    (repeat' (first|refine X_q ?_|fail));(first|(refine X_var (fun yn b15 hn1 hn2 hn3 hn4 hn5=>?_))|(refine X_s (fun x K hK=>?_);go_simp;refine hK _ _ (Ext.alloc _ _) ?_;clear hK K;refine X_al x ?_;generalize (World.later _ x).heap.size = b15;intro yn hn1 hn2 hn3 hn4 hn5;clear x));have HBb15:=Lib.hid (Blk.new hn5.out);have HEb15:=Lib.hid yn.ext;have hlb15:(World.heap W1).size≤b15:=hn1;generalize World.later W1 yn = W8 at *;clear hn1 hn2 hn3 hn4 hn5 yn
    have HBF:=HBb15
    replace HE:=HEb15
    replace HBS:=Lib.hid (HBS.out.later HEb15.out)
    replace HBA:=Lib.hid (HBA.out.later HEb15.out)
    replace HBO:=Lib.hid (HBO.out.later HEb15.out)
    clear HBb15 HEb15 hbol e0 hal
    clear hlt d0 d1 d2 d3 d4 d5 d6 d7 d8 d9 d10
    have hbol:=HBO.out.lt
    repeat' (first|refine X_q ?_|refine X_nil ?_|refine W_seqk (fun K hK=>?_)|refine W_seqr ?_|go_step)
    refine X_ret Tryz.func22 (ask_no (((HH.out.later HE1.out).later HE.out).rep) HGG.out.ne HR2.out) (fun r w4 hR=>?_)
    obtain ⟨rfl,hE9⟩:=hR
    obtain ⟨hM,hRp⟩:Mod F _ _∧Rep _ b (fun k=>F k∨W8.heap.size≤k) s:=⟨hE9.mono (fun _ _ h=>h.elim),((((HH.out.later HE1.out).later HE.out).later hE9).rep).mono (fun k hk=>.inl hk)⟩
    have HMc:=Lib.hid hM
    have HRc:=Lib.hid hRp
    have HEC:=HE
    clear hM hRp
    replace HBS:=Lib.hid (HBS.out.later hE9)
    replace HBF:=Lib.hid (HBF.out.later hE9)
    replace HBO:=Lib.hid (HBO.out.later hE9)
    clear hE9 hbol
    (repeat' (first|refine X_q ?_|fail));(first|(refine X_var (fun yn b17 hn1 hn2 hn3 hn4 hn5=>?_))|(refine X_s (fun x K hK=>?_);go_simp;refine hK _ _ (Ext.alloc _ _) ?_;clear hK K;refine X_al x ?_;generalize (World.later _ x).heap.size = b17;intro yn hn1 hn2 hn3 hn4 hn5;clear x));have HBb17:=Lib.hid (Blk.new hn5.out);have HEb17:=Lib.hid yn.ext;have hlb17:(World.heap w4).size≤b17:=hn1;generalize World.later w4 yn = W9 at *;clear hn1 hn2 hn3 hn4 hn5 yn
    have HBF2:=HBb17
    have HM4:=HEb17
    replace HBS:=Lib.hid (HBS.out.later HEb17.out)
    replace HBF:=Lib.hid (HBF.out.later HEb17.out)
    replace HBO4:=Lib.hid (HBO.out.later HEb17.out)
    clear HBb17 HEb17
    have hbol:=HBO4.out.lt
    have hfl:=HBF.out.lt
    have hfl2:=HBF2.out.lt
    have hsl:=HBS.out.lt
    have f0:=HBF.out.cell (k:=0) (by simp)
    have f1:=HBF.out.cell (k:=1) (by simp)
    have f2:=HBF.out.cell (k:=2) (by simp)
    have f3:=HBF.out.cell (k:=3) (by simp)
    have f4:=HBF.out.cell (k:=4) (by simp)
    simp at f0 f1 f2 f3 f4
    have g0:=HBF2.out.cell (k:=0) (by simp)
    have g1:=HBF2.out.cell (k:=1) (by simp)
    have g2:=HBF2.out.cell (k:=2) (by simp)
    have g3:=HBF2.out.cell (k:=3) (by simp)
    have g4:=HBF2.out.cell (k:=4) (by simp)
    simp at g0 g1 g2 g3 g4
    repeat' (first|refine X_q ?_|refine X_nil ?_|refine W_seqk (fun K hK=>?_)|go_step)
    obtain ⟨G,hG⟩:∃ G:Nat→Prop,G = (fun k=>k = b6):=⟨_,rfl⟩;have HGo:Hid (G b6):=Lib.hid (by subst hG;rfl);have hGb4:¬ G b4:=(by subst hG;show ¬ b4 = b6;omega);clear hG
    refine W_drawG G [(0,3),(1,3),(2,3),(3,0),(4,0),(5,0),(6,0),(7,0),(8,0),(9,2),(10,0)] (by kernel_rfl) (by kernel_rfl) ?_
    (first|refine Y_floadr HBS.out ?_ (hu:=Tryz.underlying33)|refine Y_fload HBS.out hGb4 ?_ (hu:=Tryz.underlying33))
    repeat' (first|refine Y_gt ?_|refine Y_q ?_|refine Y_r ?_|fail)
    refine Y_store (off:=0) HBO4.out HGo.out (fun W5 hM5 hG5x hB5=>?_)
    have HM5:=Lib.hid hM5
    have HB5:=Lib.hid (fput hB5)
    clear hM5 hG5x hB5
    repeat' (first|refine Y_q ?_|refine Y_nil ?_)
    repeat' (first|refine W_ret ?_|go_step)
    have HM6:=Lib.hid (Mod.trans (H:=(· = b6)) HM4.out HM5.out (fun _ _ h=>h.elim) (fun _ _ h=>h))
    exact Body_retcellv (cs:=RepS.cs (s) _ _ _) hd (does_end HH.out HE1.out HEC.out HMc.out HRc.out HM6.out h6W h61 HVO.out) HB5.out (fun k hk=>cs_fenc hk) Tryz.underlying33
end Go.Ws
