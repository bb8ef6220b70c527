/- Lemmas for the statements of this layer (joined texts); no condition. -/
import Derived.Test.YtdabdbmehmccnaaGreatCa02
import Derived.Test.YtdabdbmehmccnaaGreatCa03
import Derived.Test.YtdabdbmehmccnaaGreatCa04
namespace Go.Ws
open Go Go.RowKit Go.Proofs
set_option maxHeartbeats 4000000
set_option maxRecDepth 100000
set_option linter.unusedVariables false
set_option linter.unusedSimpArgs false
structure iM where
 epoch:Int
 base:Int
 last:Int
 cut:Bool
 jv:Int
 qI:Int
 entries:List cZ
 high:Int
abbrev iM.cs (p:iM) (u:Value):List Value:=[.int .i64 p.epoch,.int .i64 p.base,.int .i64 p.last,.bool p.cut,.int .i64 p.jv,.int .i64 p.qI,u,.int .i64 p.high]
abbrev iM.v (p:iM) (u:Value):Value:=.agg #[.int .i64 p.epoch,.int .i64 p.base,.int .i64 p.last,.bool p.cut,.int .i64 p.jv,.int .i64 p.qI,u,.int .i64 p.high]
def iM.zero:iM:=⟨0,0,0,false,0,0,[],0⟩
def aI.yT (s:aI) (f:pW) (most:Int):Bool:=
 rZ f.mD 0 3&&(f.mD != s.self)&&decide (0≤f.epoch)&&decide (0≤f.offset)&&decide (0≤f.last)&&decide (0≤f.flushed)&&decide (f.flushed≤f.offset)&&decide (0≤most)
def aI.ji (s:aI) (f:pW) (most:Int):Int:=if s.yT f most=false then 2 else if s.role≠3 then 211 else if f.epoch≠s.epoch then 210 else 0
def aI.serve (s:aI) (f:pW) (most:Int):aI:=
 if s.ji f most≠0 then s else if vP s.log f.offset f.last=true then({s with known:=EM s.known f.mD.toNat (ku (s.known f.mD.toNat) f.flushed)}:aI).iT else s
def aI.reply (s:aI) (f:pW) (most:Int):iM:=
 if s.ji f most≠0 then iM.zero else
 if vP s.log f.offset f.last=true then⟨s.epoch,f.offset,f.last,false,0,0,(s.log.drop f.offset.toNat).take (iD most 4096).toNat,(s.serve f most).high⟩
 else⟨s.epoch,f.offset,f.last,true,gZ (s.log.take (dO s.log f.last)),dO s.log f.last,[],s.high⟩
theorem yF {k:Nat} (hk:k<(iM.zero.cs (.slice none 0 0)).length) {E:TypeId} {g:Nat→Value} (hg:g=λk=> #[Value.int .i64 0,.int .i64 0,.int .i64 0,.bool false,.int .i64 0,.int .i64 0,.slice none 0 0,.int .i64 0].getD k undef):(iM.zero.cs (.slice none 0 0))[k]? =some (g k):=by
 subst hg
 simp only[List.length_cons,List.length_nil]at hk
 obtain rfl|rfl|rfl|rfl|rfl|rfl|rfl|rfl:k=0∨k=1∨k=2∨k=3∨k=4∨k=5∨k=6∨k=7:=by omega
 all_goals rfl
theorem Hy (s:aI):s.iT.log=s.log∧s.iT.epoch=s.epoch∧s.iT.self=s.self∧s.iT.least=s.least∧s.iT.flushed=s.flushed∧s.iT.role=s.role:=by unfold aI.iT;split<;>exact⟨rfl,rfl,rfl,rfl,rfl,rfl⟩
theorem Rd.ahp {w:World} {xs:List cZ} {A:Option Addr} {n c i j:Nat} (h:yQ w (.slice A n c) xs) (hij:i≤j) (hj:j≤xs.length):yQ w (.slice (if c=i then A else A.map (λx=>x.add (i *6))) (j-i) (c-i)) ((xs.drop i).take (j-i)):=by
 have hn:=h.length
 obtain⟨A',c',h1,h2,h3,h4⟩:=h
 cases h1
 have hl:((xs.drop i).take (j-i)).length=j-i:=by simp;omega
 refine⟨_,_,by rw[hl],by rw[hl];omega,by omega,?_⟩
 rcases h4 with⟨h4,rfl⟩|⟨b,o,rfl,hb,hr⟩
 ·left;exact⟨by rcases h4 with rfl|rfl;(left;split<;>rfl);(right;omega),by simp⟩
 ·right
  by_cases hc:c=i
  ·refine⟨b,o,by rw[if_pos hc],hb,?_⟩
   intro k x hx j' u hu
   have:(xs.drop i).take (j-i)=[]:=by rw[List.drop_eq_nil_of_le (by omega)];simp
   rw[this]at hx;cases hx
  ·refine⟨b,o+i *6,?_,hb,(hr.drop i).take _⟩
   rw[if_neg hc]
   simp[Addr.add]
theorem RY {p:iM} {u:Value} {g:Nat→Value} (h:g 0=.int .i64 p.epoch∧g 1=.int .i64 p.base∧g 2=.int .i64 p.last∧g 3=.bool p.cut∧g 4=.int .i64 p.jv∧g 5=.int .i64 p.qI∧g 6=u∧g 7=.int .i64 p.high) {k:Nat} (hk:k<(p.cs u).length):(p.cs u)[k]? =some (g k):=by
 obtain⟨h0,h1,h2,h3,h4,h5,h6,h7⟩:=h
 simp only[List.length_cons,List.length_nil]at hk
 obtain rfl|rfl|rfl|rfl|rfl|rfl|rfl|rfl:k=0∨k=1∨k=2∨k=3∨k=4∨k=5∨k=6∨k=7:=by omega
 ·rw[h0];rfl
 ·rw[h1];rfl
 ·rw[h2];rfl
 ·rw[h3];rfl
 ·rw[h4];rfl
 ·rw[h5];rfl
 ·rw[h6];rfl
 ·rw[h7];rfl
theorem Y1 {w:World} {b:Nat} {F:Nat→Prop} {s:aI} (h:oD w b F s) (hs:s.least≠0) (hm:vZ s.log=true) (hl:s.log.length≤4096) (hc:Bks s.counts) (f:pW) (most:Int):
  gK Tryz.prog 171 #[.pointer (some ⟨b,0,none⟩),f.v,.int .i64 most] w λr w'=>(∃u,r=.tuple #[(s.reply f most).v u,.int .i64 (s.ji f most)]∧BX w' u (s.reply f most).entries∧∀ k,u.ownBlock=some k→w.heap.size≤k)∧bF F w w'∧oD w' b (λk=>F k∨w.heap.size≤k) (s.serve f most):=by
 refine h.Yk (R:=λr w'=>∃ u,r=.tuple #[(s.reply f most).v u,.int .i64 (s.ji f most)]∧BX w' u (s.reply f most).entries∧∀ k,u.ownBlock=some k→w.heap.size≤k) ?_
 intro F h RV
 have FC:=Zh h.yK
 have UG:=Zh RV
 clear RV
 have HP0:=h
 obtain⟨uL,uI,uC,h,hf⟩:=h.ex
 have H0:=h
 have BA:=Zh hf
 obtain⟨A1,c1,rfl,Na,Jr,-⟩:=h.IU.ent
 have zM:=Zh h.lt
 have qK:=h.gy.lt
 have HP:=Zh HP0
 have H:=Zh H0
 clear h hf H0 HP0
 refine uh Tryz.func171 rfl (Nat.le_of_ble_eq_true rfl) ?_;intro A hd hA;simp only[ix,Nat.reduceAdd];replace hA:A.tmps.size=156:=hA
 repeat'(first|refine au ?_|refine ak (λK hK=>?_)|refine aj ?_|(refine dI (λx K hK=>?_);go_simp;refine hK _ _ (aB.alloc _ _) ?_;clear hK K;refine aZ x ?_;generalize (World.ah _ x).heap.size=bn;intro yn aU bD bC bG aS;clear x)|go_step)
 rename_i bf yf f1 f2 f3 f4 f5 bp yp p1 p2 p3 p4 p5
 refine um (be:=bn) hd hA (λW hE=>by unfold execOp gI;go_simp) ?_;have wL:=Zh (cO.one aS.out);clear hd hA A;intro A hd hA;obtain⟨be,PY⟩:∃ be:Nat,be=bn:=⟨_,rfl⟩;subst PY
 have hE:aB w (((w.ah yf).ah yp).ah yn):=by simp
 have HX:=Zh ((cO.new f5.out).ah (Et yp.ext yn.ext))
 have HY:=Zh ((cO.new p5.out).ah yn.ext)
 have h1:=yf.2.size
 have h2:=yp.2.size
 have atL:b<bf:=by omega
 have atM:bf<bp:=by omega
 have aof:bp<be:=by omega
 have hwf:w.heap.size≤bf:=f1
 have oV:=Zh wL.out
 clear wL
 generalize World.ah _ yn=W at *
 clear f1 f2 f3 f4 f5 p1 p2 p3 p4 p5 aU bD bC bG aS h1 h2 yn yp yf
 have Vs:=Zh (HP.out.ah hE)
 have H1:=Zh (H.out.ah hE)
 have HE:=Zh hE
 obtain⟨hlt,-,-,d2,-,d8,d9,d10,d11,d12,d13,DR⟩:=H1.out.cells
 have hx:=HX.out.lt
 have x0:=HX.out.cell (k:=0) (by simp)
 have x1:=HX.out.cell (k:=1) (by simp)
 have x2:=HX.out.cell (k:=2) (by simp)
 have x3:=HX.out.cell (k:=3) (by simp)
 have x4:=HX.out.cell (k:=4) (by simp)
 simp at x0 x1 x2 x3 x4
 clear hE
 repeat'(first|refine aN Tryz.func69 (jK Vs.out hs) ?_|refine aN Tryz.func161 (dZ _) ?_|refine aF ?_|refine au ?_|refine ak (λK hK=>?_)|refine aj ?_|go_step)
 by_cases g1:s.yT f most=true
 ·have g1':=g1
  simp only[aI.yT,Bool.and_eq_true]at g1'
  obtain⟨⟨⟨⟨⟨⟨⟨g11,g12⟩,g13⟩,g14⟩,g15⟩,g16⟩,g17⟩,g18⟩:=g1'
  refine dn [(0,0),(1,0),(2,1),(3,0),(4,0),(5,0),(6,0),(7,0),(8,0),(9,0),(10,0),(11,0),(12,0),(13,0),(14,0),(15,0),(16,0),(17,0),(18,0),(19,0),(20,0),(21,0),(22,0),(23,0),(24,0),(25,0),(26,0),(27,0),(28,0),(29,0),(30,0),(31,0),(32,0),(33,0),(34,0),(35,0),(36,0),(37,0),(38,0),(39,0),(40,0),(41,0),(42,0),(43,1)] (by kernel_rfl) (by kernel_rfl) ?_
  repeat'(first|(refine dN Tryz.func161 (λ_=>dZ 2) ?_)|(refine dN Tryz.func107 (λ_=>g11▸jJ f.mD _) ?_)|refine dw ?_|refine aF ?_|refine aQ ?_|refine ak (λK hK=>?_)|refine aj ?_|go_step)
  by_cases g2:s.role=3
  ·have g2b:(s.role==3)=true:=by simp[g2]
   repeat'(first|refine aN Tryz.func161 (dZ _) ?_|refine au ?_|refine ak (λK hK=>?_)|go_step)
   by_cases g3:f.epoch=s.epoch
   ·have g3b:(f.epoch==s.epoch)=true:=by simp[g3]
    refine dn [(0,0),(1,0),(2,0),(3,0),(4,0),(5,0),(6,0),(7,1)] (by kernel_rfl) (by kernel_rfl) ?_
    repeat'(first|(refine dN Tryz.func161 (λ_=>dZ 210) ?_)|refine aF ?_|refine aQ ?_|refine ak (λK hK=>?_)|go_step)
    refine dA (by kernel_rfl) (by kernel_rfl) ?_
    repeat'(first|refine aF ?_|refine aQ ?_|(refine jr (λyn bn aU bD bC bG aS=>?_))|refine ak (λK hK=>?_)|go_step)
    obtain⟨bo,ahq⟩:∃ bo:Nat,bo=bn:=⟨_,rfl⟩
    subst ahq
    have iU:aB W (W.ah yn):=yn.ext
    have HO:=Zh (cO.new aS.out)
    have aoh:W.heap.size≤bo:=aU
    generalize World.ah W yn=W2 at *
    clear aU bD bC bG aS yn
    have H2:=Zh (H1.out.ah iU)
    have Np:=Zh (oV.out.ah iU)
    have HY2:=Zh (HY.out.ah iU)
    have rO:=Zh (Et HE.out iU)
    have akg:=oV.out.lt
    clear hlt d2 d8 d9 d10 d11 d12 d13 DR
    obtain⟨hlt,-,-,d2,-,d8,d9,d10,d11,d12,d13,DR⟩:=H2.out.cells
    have z0:=(bI iU hx (λh=>h)).trans x0
    have z1:=(bI iU hx (λh=>h)).trans x1
    have z2:=(bI iU hx (λh=>h)).trans x2
    have z3:=(bI iU hx (λh=>h)).trans x3
    have z4:=(bI iU hx (λh=>h)).trans x4
    clear x0 x1 x2 x3 x4
    have hx2:bf<W2.heap.size:=Nat.lt_of_lt_of_le hx iU.size
    clear hx iU
    have uO:s.ji f most=0:=by unfold aI.ji;rw[if_neg (by simp[g1]),if_neg (by simp[g2]),if_neg (by simp[g3])]
    have MR:=Zh uO
    have MN:0≤f.last:=by simpa using g15
    have Ph:0≤f.offset:=by simpa using g14
    have tH:=λ(W:World) (h:yQ W (.slice A1 s.log.length c1) s.log)=>RJ s.log _ f.offset f.last W h Ph MN hm
    have hfd:=λ(W:World) (h:yQ W (.slice A1 s.log.length c1) s.log)=>YN s.log _ f.last W h MN hm
    clear uO
    by_cases g4:vP s.log f.offset f.last=true
    ·rw[g4]at tH
     have oW:=Zh tH
     clear tH hfd
     refine dA (by kernel_rfl) (by kernel_rfl) ?_
     repeat'(first|refine aN Tryz.func219 (oW.out _ (H2.out.IU.ah (by simp))) ?_|refine aF ?_|refine aQ ?_|refine au ?_|refine ak (λK hK=>?_)|refine aj ?_|refine bJ ?_|go_step)
     obtain⟨hs0,Ut⟩:0≤f.mD∧f.mD<4:=by simp[rZ]at g11;omega
     have BO:=H2.out.JR f.mD.toNat (by omega)
     refine dA (by kernel_rfl) (by kernel_rfl) ?_
     repeat'(first|refine aF ?_|fail)
     refine aY (off:=4+f.mD.toNat) H2.out.gy (λW3 jd ru=>?_)
     have hgm:(if s.known f.mD.toNat<f.flushed then f.flushed else s.known f.mD.toNat)=ku (s.known f.mD.toNat) f.flushed:=rfl
     have h3:=H2.out.RG (i:=f.mD.toNat) (by omega) jd ru
     rw[hgm]at h3
     have H3:=Zh h3
     have Ir:Hid (oD W3 b F ({s with known:=EM s.known f.mD.toNat (ku (s.known f.mD.toNat) f.flushed)}:aI)):=Zh ⟨_,_,_,H3.out,BA.out⟩
     have Ox:=Zh (HO.out.aW jd (λh=>by omega))
     have PZ:=Zh (Np.out.aW jd (λh=>by omega))
     have HY3:=Zh (HY2.out.aW jd (λh=>by omega))
     have FB:Hid (bF F w W3):=Zh (bF.trans rO.out jd (λ_ _ h=>h.elim) (λk _ h=>by subst h;exact FC.out))
     have y2:=(bI jd (o:=2) hx2 (λh=>by omega)).trans z2
     have Xh:bf<W3.heap.size:=Nat.lt_of_lt_of_le hx2 jd.size
     clear hlt d2 d8 d9 d10 d11 d12 d13 DR z0 z1 z2 z3 z4 hx2 jd ru h3 hgm BO
     generalize hq0:({s with known:=EM s.known f.mD.toNat (ku (s.known f.mD.toNat) f.flushed)}:aI)=q0 at *
     have hql:q0.log=s.log:=by rw[←hq0]
     have hqc:q0.counts=s.counts:=by rw[←hq0]
     have HQ0:=Zh hq0
     clear hq0
     repeat'(first|refine aF ?_|refine aQ ?_|refine ak (λK hK=>?_)|refine aj ?_|go_step)
     refine aX Tryz.func163 (xY Ir.out (by rw[hqc];exact hc)) (λr W4 hR=>?_)
     have xO:=Zh hR.1
     have AU:=hR.2
     have Fg:=(Hy q0).1
     generalize hq:q0.iT=q at *
     have hq1:q.log=s.log:=Fg.trans hql
     have HQ:=Zh hq
     have HR4:=Zh AU
     clear hR Fg hq
     obtain⟨uL4,uI4,uC4,h4,hf4⟩:=AU.ex
     obtain⟨A4,c4,rfl,hc4,atP,-⟩:=h4.IU.ent
     rw[hq1]at h4 hc4
     have hl4:=h4.IU
     rw[hq1]at hl4
     have HL4:=Zh hl4
     obtain⟨hlt,-,-,d2,-,d8,d9,d10,d11,d12,d13,DR⟩:=h4.cells
     clear AU h4 hf4 hl4
     have x2:=(bI xO.out (o:=2) Xh (λh=>by have:=UG.out _ h;omega)).trans y2
     have hx4:bf<W4.heap.size:=Nat.lt_of_lt_of_le Xh xO.out.size
     clear Xh y2
     have hfo:f.offset≤s.log.length:=by
      unfold vP at g4
      simp only[Bool.and_eq_true,decide_eq_true_eq]at g4
      exact g4.1
     obtain⟨i,hi⟩:∃ i:Nat,f.offset=i:=⟨f.offset.toNat,by omega⟩
     have Xm:i≤s.log.length:=by omega
     have Xn:0≤most:=by simpa using g18
     obtain⟨m,BI⟩:∃ m:Nat,iD most 4096=m:=⟨(iD most 4096).toNat,by rw[jE];omega⟩
     have av6:(if(4096:Int)<most then 4096 else most)=(m:Int):=BI
     have HMM:=Zh BI
     have hm4:m≤4096:=by rw[jE]at BI;omega
     obtain⟨j,hj⟩:∃ j:Nat,(if(i:Int)+(m:Int)<(s.log.length:Int) then(i:Int)+(m:Int) else(s.log.length:Int))=(j:Int):=⟨min (i+m) s.log.length,by split<;>omega⟩
     have hij:i≤j:=by split at hj<;>omega
     have hjl:j≤s.log.length:=by split at hj<;>omega
     have oM:j-i≤m∧(j-i=m∨j=s.log.length):=by split at hj<;>omega
     rw[hi]at x2
     clear BI
     have hjc:j≤c4:=by omega
     repeat'(first|refine au ?_|go_step)
     refine dA (by kernel_rfl) (by kernel_rfl) ?_
     repeat'(first|refine aF ?_|fail)
     refine aX Tryz.func70 (qm (HL4.out.ahp hij hjl) (by simp;omega)) (λu W5 hR=>?_)
     have HR5:=Zh hR
     obtain⟨jY,-,-⟩:=hR
     have e14:=(bI jY (o:=14) hlt (λh=>h)).trans DR
     have abQ:b<W5.heap.size:=Nat.lt_of_lt_of_le hlt jY.size
     have jm:∀ k,k<W2.heap.size→w.heap.size≤k→¬ F k:=λk _ hk h=>by have:=UG.out _ h;omega
     have vS:cO W5 bo _ _ _:=(Ox.out.aW xO.out (λh=>by have:=UG.out _ h;omega)).ah jY
     have hY5:cO W5 bp _ _ _:=(HY3.out.aW xO.out (λh=>by have:=UG.out _ h;omega)).ah jY
     have pX:cO W5 be _ _ _:=(PZ.out.aW xO.out (λh=>by have:=UG.out _ h;omega)).ah jY
     have kJ:bF F w W5:=(FB.out.mO xO.out).ext jY
     have hR5:oD W5 b F q:=HR4.out.ah jY
     have atQ:bo<W4.heap.size:=Nat.lt_of_lt_of_le Ox.out.lt xO.out.size
     have HO:=Zh vS
     have HY5:=Zh hY5
     have abR:=Zh pX
     have uo:=Zh kJ
     have HQ5:=Zh hR5
     clear hlt d2 d8 d9 d10 d11 d12 d13 DR jY vS hY5 pX kJ hR5 jm x2 hx4 HL4 xO HR4
     obtain⟨Ar,mr,cr,rfl⟩:=aT HR5.out.2.1
     have hf5:∀ k,(Value.slice Ar mr cr).ownBlock=some k→W4.heap.size≤k:=HR5.out.2.2
     have MS:=Zh hf5
     clear hf5
     repeat'(first|refine aF ?_|fail)
     refine aY (off:=6) HO.out (λW6 jP nY=>?_)
     have HO:=Zh nY
     have Jv:=Zh jP
     clear jP nY
     have f14:=(bI Jv.out (o:=14) abQ (λh=>by omega)).trans e14
     have abS:b<W6.heap.size:=Nat.lt_of_lt_of_le abQ Jv.out.size
     clear e14 abQ
     repeat'(first|refine aF ?_|refine aQ ?_|refine ak (λK hK=>?_)|refine aj ?_|go_step)
     refine aY (off:=7) HO.out (λW7 hM7 hB7=>?_)
     have HO:=Zh hB7
     have Vt:=Zh (Jv.out.mO hM7)
     clear hM7 hB7 f14 abS
     have o0:=HO.out.cell (k:=0) (by simp)
     have o1:=HO.out.cell (k:=1) (by simp)
     have o2:=HO.out.cell (k:=2) (by simp)
     have o3:=HO.out.cell (k:=3) (by simp)
     have o4:=HO.out.cell (k:=4) (by simp)
     have o5:=HO.out.cell (k:=5) (by simp)
     have o6:=HO.out.cell (k:=6) (by simp)
     have o7:=HO.out.cell (k:=7) (by simp)
     have aok:=HO.out.lt
     simp[put,Value.cells]at o0 o1 o2 o3 o4 o5 o6 o7
     repeat'(first|refine aF ?_|refine au ?_|refine ak (λK hK=>?_)|refine aj ?_|go_step)
     refine aY (off:=0) (HY5.out.aW Vt.out (λh=>by omega)) (λW8 Nq XP=>?_)
     have HY8:=Zh XP
     have ahr:=Zh ((abR.out.aW Vt.out (λh=>by omega)).aW Nq (λh=>by omega))
     have HM8:=Zh (bF.trans Vt.out Nq (H:=λk=>k=bo∨k=bp) (λ_ _ h=>.inl h) (λ_ _ h=>.inr h))
     clear Nq XP
     skip
     refine aY (off:=0) ahr.out (λW9 Y2 vF=>?_)
     have ahs:=Zh vF
     have HY9:=Zh (HY8.out.aW Y2 (λh=>by omega))
     have HM9:=Zh (bF.trans HM8.out Y2 (H:=λk=>k=bo∨k=bp∨k=be) (λ_ _ h=>h.elim .inl (λh=>.inr (.inl h))) (λ_ _ h=>.inr (.inr h)))
     clear Y2 vF
     repeat'(first|refine au ?_|refine aC ?_|go_step)
     have hsv:s.serve f most=q:=by unfold aI.serve;rw[if_neg (by rw[MR.out];decide),if_pos g4,HQ0.out];exact HQ.out
     have hen:(s.log.drop f.offset.toNat).take (iD most 4096).toNat=(s.log.drop i).take (j-i):=by
      rw[HMM.out,hi]
      show (s.log.drop (Int.toNat (i:Int))).take (Int.toNat (m:Int))=_
      rw[Int.toNat_natCast,Int.toNat_natCast]
      rcases oM.2 with h|h
      ·rw[h]
      ·rw[List.take_of_length_le (by simp;omega),List.take_of_length_le (by simp;omega)]
     have XQ:s.reply f most=⟨s.epoch,f.offset,f.last,false,0,0,(s.log.drop i).take (j-i),q.high⟩:=by unfold aI.reply;rw[if_neg (by rw[MR.out];decide),if_pos g4,hsv,hen]
     have hnk:∀ k,k<W4.heap.size→w.heap.size≤k→∀ a,(Value.slice Ar mr cr).ownBlock=some a→a≠k:=λk hk _ a ha he=>by have:=MS.out a ha;omega
     refine F9 (cs:=(s.reply f most).cs (.slice Ar mr cr)) hd (ahs.out.congr (g':=λ_=>.int .i64 0) (λk hk=>by obtain rfl:k=0:=(by omega);rfl)) HY9.out (λk hk=>RY ?_ hk) ⟨⟨.slice Ar mr cr,by rw[MR.out],?_,?_⟩,?_,?_⟩ Tryz.underlying98
     ·rw[XQ];refine⟨?_,?_,?_,?_,?_,?_,?_,?_⟩<;>first|rfl|(show Value.int .i64 _=_;rw[hi])
     ·rw[XQ];exact HR5.out.2.1.aW HM9.out (λk hk h=>by have:=MS.out k hk;omega)
     ·intro k hk;have:=MS.out k hk;have:=HE.out.size;omega
     ·exact bF.trans uo.out HM9.out (λ_ _ h=>h) (λk hk h=>by omega)
     ·rw[hsv];exact(HQ5.out.aW HM9.out (λk hk h=>by have:=UG.out _ hk;omega)).mono (λk hk=>.inl hk)
    ·have g4f:vP s.log f.offset f.last=false:=by simpa using g4
     rw[g4f]at tH
     have oW:=Zh tH
     have HFD:=Zh hfd
     clear tH hfd
     refine dA (by kernel_rfl) (by kernel_rfl) ?_
     repeat'(first|refine aN Tryz.func219 (oW.out _ (H2.out.IU.ah (by simp))) ?_|refine aF ?_|refine aQ ?_|refine au ?_|refine ak (λK hK=>?_)|refine aj ?_|refine bH ?_|go_step)
     refine aY (off:=3) HO.out (λW3 jd ru=>?_)
     have HO:=Zh ru
     have P5:=Zh (aB.bK rO.out jd (λk hk=>by subst hk;omega))
     have PZ:=Zh (Np.out.aW jd (λh=>by omega))
     have HY3:=Zh (HY2.out.aW jd (λh=>by omega))
     have H3:=Zh (H.out.ah P5.out)
     have y3:=(bI jd (o:=3) hx2 (λh=>by omega)).trans z3
     have Xh:bf<W3.heap.size:=Nat.lt_of_lt_of_le hx2 jd.size
     clear hlt d2 d8 d9 d10 d11 d12 d13 DR z0 z1 z2 z3 z4 hx2 jd ru
     obtain⟨hlt,-,-,d2,-,d8,d9,d10,d11,d12,d13,DR⟩:=H3.out.cells
     repeat'(first|refine au ?_|go_step)
     refine dA (by kernel_rfl) (by kernel_rfl) ?_
     repeat'(first|refine aN Tryz.func220 (HFD.out _ (H3.out.IU.ah (by simp))) ?_|refine aF ?_|fail)
     refine aY (off:=4) HO.out (λW4 wO FK=>?_)
     have HO:=Zh FK
     have xO:=Zh wO
     clear wO FK
     repeat'(first|refine aF ?_|fail)
     refine aY (off:=5) HO.out (λW5 kJ pX=>?_)
     have HO:=Zh pX
     have uo:=Zh (xO.out.mO kJ)
     clear kJ pX
     have e14:=(bI uo.out (o:=14) hlt (λh=>by omega)).trans DR
     have abQ:b<W5.heap.size:=Nat.lt_of_lt_of_le hlt uo.out.size
     repeat'(first|refine aF ?_|refine aQ ?_|refine ak (λK hK=>?_)|refine aj ?_|go_step)
     refine aY (off:=7) HO.out (λW6 jP nY=>?_)
     have HO:=Zh nY
     have Jv:=Zh (uo.out.mO jP)
     clear jP nY
     have o0:=HO.out.cell (k:=0) (by simp)
     have o1:=HO.out.cell (k:=1) (by simp)
     have o2:=HO.out.cell (k:=2) (by simp)
     have o3:=HO.out.cell (k:=3) (by simp)
     have o4:=HO.out.cell (k:=4) (by simp)
     have o5:=HO.out.cell (k:=5) (by simp)
     have o6:=HO.out.cell (k:=6) (by simp)
     have o7:=HO.out.cell (k:=7) (by simp)
     have aok:=HO.out.lt
     simp[put,Value.cells]at o0 o1 o2 o3 o4 o5 o6 o7
     repeat'(first|refine aF ?_|refine au ?_|refine ak (λK hK=>?_)|refine aj ?_|go_step)
     refine aY (off:=0) (HY3.out.aW Jv.out (λh=>by omega)) (λW7 hM7 hB7=>?_)
     have HY7:=Zh hB7
     have Vt:=Zh (aB.bK (aB.bK P5.out Jv.out (λk hk=>by omega)) hM7 (λk hk=>by omega))
     have aoo:=Zh ((PZ.out.aW Jv.out (λh=>by omega)).aW hM7 (λh=>by omega))
     clear hM7 hB7
     skip
     refine aY (off:=0) aoo.out (λW8 Nq XP=>?_)
     have ahr:=Zh XP
     have HY8:=Zh (HY7.out.aW Nq (λh=>by omega))
     have HE8:=Zh (aB.bK Vt.out Nq (λk hk=>by omega))
     clear Nq XP
     repeat'(first|refine au ?_|refine aC ?_|go_step)
     have XQ:s.reply f most=⟨s.epoch,f.offset,f.last,true,gZ (s.log.take (dO s.log f.last)),dO s.log f.last,[],s.high⟩:=by unfold aI.reply;rw[if_neg (by rw[MR.out];decide),if_neg (by simp[g4f])]
     have hsv:s.serve f most=s:=by unfold aI.serve;rw[if_neg (by rw[MR.out];decide),if_neg (by simp[g4f])]
     refine F9 (cs:=(s.reply f most).cs (.slice none 0 0)) hd (ahr.out.congr (g':=λ_=>.int .i64 0) (λk hk=>by obtain rfl:k=0:=(by omega);rfl)) HY8.out (λk hk=>RY ?_ hk) ⟨⟨.slice none 0 0,by rw[MR.out],by rw[XQ];exact dQ.nil _,by intro k hk;cases hk⟩,HE8.out.mono (λ_ _ h=>h.elim),?_⟩ Tryz.underlying98
     ·rw[XQ];refine⟨?_,?_,?_,?_,?_,?_,?_,?_⟩<;>rfl
     ·rw[hsv];exact(HP.out.ah HE8.out).mono (λk hk=>.inl hk)
   ·have g3b:(f.epoch==s.epoch)=false:=by simp[g3]
    have uO:s.ji f most=210:=by unfold aI.ji;rw[if_neg (by simp[g1]),if_neg (by simp[g2]),if_pos g3]
    refine Ec [(0,0),(1,0),(2,0),(3,0),(4,0),(5,0),(6,0)] 7 (by kernel_rfl) (by kernel_rfl) ?_
    repeat'(first|refine aF ?_|refine aQ ?_|fail)
    refine mM Tryz.func161 (jD 210) (λc w' hC=>?_)
    obtain⟨rfl,fD⟩:=hC
    have XQ:s.reply f most=iM.zero:=by unfold aI.reply;rw[uO,if_pos (by decide)]
    have hsv:s.serve f most=s:=by unfold aI.serve;rw[uO,if_pos (by decide)]
    refine uS (cs:=iM.zero.cs (.slice none 0 0)) hd (oV.out.ah fD) (HY.out.ah fD) (λk hk=>yF hk (E:=0) rfl) (by omega) (λW1 hM=>?_) Tryz.underlying98
    have oQ:=aB.bK (Et HE.out fD) hM (λk hk=>by subst hk;omega)
    refine⟨⟨.slice none 0 0,by rw[uO,XQ],by rw[XQ];exact dQ.nil _,by intro k hk;cases hk⟩,oQ.mono (λ_ _ h=>h.elim),?_⟩
    rw[hsv]
    exact(HP.out.ah oQ).mono (λk hk=>.inl hk)
  ·have g2b:(s.role==3)=false:=by simp[g2]
   have uO:s.ji f most=211:=by unfold aI.ji;rw[if_neg (by simp[g1]),if_pos g2]
   skip
   refine AZ Tryz.func161 (jD 211) (λc w' hC=>?_)
   obtain⟨rfl,fD⟩:=hC
   have XQ:s.reply f most=iM.zero:=by unfold aI.reply;rw[uO,if_pos (by decide)]
   have hsv:s.serve f most=s:=by unfold aI.serve;rw[uO,if_pos (by decide)]
   refine uS (cs:=iM.zero.cs (.slice none 0 0)) hd (oV.out.ah fD) (HY.out.ah fD) (λk hk=>yF hk (E:=0) rfl) (by omega) (λW1 hM=>?_) Tryz.underlying98
   have oQ:=aB.bK (Et HE.out fD) hM (λk hk=>by subst hk;omega)
   refine⟨⟨.slice none 0 0,by rw[uO,XQ],by rw[XQ];exact dQ.nil _,by intro k hk;cases hk⟩,oQ.mono (λ_ _ h=>h.elim),?_⟩
   rw[hsv]
   exact(HP.out.ah oQ).mono (λk hk=>.inl hk)
 ·have g1f:s.yT f most=false:=by simpa using g1
  refine Ec [(0,0),(1,0),(2,1),(3,0),(4,0),(5,0),(6,0),(7,0),(8,0),(9,0),(10,0),(11,0),(12,0),(13,0),(14,0),(15,0),(16,0),(17,0),(18,0),(19,0),(20,0),(21,0),(22,0),(23,0),(24,0),(25,0),(26,0),(27,0),(28,0),(29,0),(30,0),(31,0),(32,0),(33,0),(34,0),(35,0),(36,0),(37,0),(38,0),(39,0),(40,0),(41,0),(42,0)] 43 (by kernel_rfl) (by kernel_rfl) ?_
  repeat'(first|(refine dN Tryz.func107 (λ_=>jJ f.mD _) ?_)|refine X_d (λvb Kt=>?_)|refine aF ?_|refine mg ?_|refine aQ ?_|fail)
  repeat cases ‹Eqn _ _›
  refine mM (lv:=[.bool false,.int .i64 2]) Tryz.func161 (jD 2) (λc w' hC=>?_) (hlv:=by exact congrArg (λx=>[Value.bool x,Value.int .i64 2]) g1f)
  obtain⟨rfl,fD⟩:=hC
  have uO:s.ji f most=2:=by unfold aI.ji;rw[if_pos g1f]
  have XQ:s.reply f most=iM.zero:=by unfold aI.reply;rw[uO,if_pos (by decide)]
  have hsv:s.serve f most=s:=by unfold aI.serve;rw[uO,if_pos (by decide)]
  refine uS (cs:=iM.zero.cs (.slice none 0 0)) hd (oV.out.ah fD) (HY.out.ah fD) (λk hk=>yF hk (E:=0) rfl) (by omega) (λW1 hM=>?_) Tryz.underlying98
  have oQ:=aB.bK (Et HE.out fD) hM (λk hk=>by subst hk;omega)
  refine⟨⟨.slice none 0 0,by rw[uO,XQ],by rw[XQ];exact dQ.nil _,by intro k hk;cases hk⟩,oQ.mono (λ_ _ h=>h.elim),?_⟩
  rw[hsv]
  exact(HP.out.ah oQ).mono (λk hk=>.inl hk)
def uT:Int→List cZ→Bool
 | _,[]=>true
 | last,x::xs=>decide (last≤x.ep)&&fJ x&&uT x.ep xs
theorem Ei (last:Int) (x:cZ) (xs:List cZ):uT last (x::xs)=(decide (last≤x.ep)&&fJ x&&uT x.ep xs):=rfl
def iM.right (p:iM):Bool:=uT p.last p.entries&&decide (0≤p.epoch)&&decide (0≤p.base)&&decide (0≤p.last)&&decide (0≤p.jv)&&decide (0≤p.qI)&&decide (0≤p.high)
theorem Gg {w:World} {u:Value} {p:iM} (hu:yQ w u p.entries):Pure Tryz.prog 221 #[p.v u] w (.bool p.right):=by
 have HU:=Zh hu
 obtain⟨A0,c,rfl,hc,jT,HR⟩:=hu.ent
 clear hu
 refine Fi (n:=56) Tryz.func221 ?_;intro A hd hA;simp only[ix,Nat.reduceAdd]
 repeat'(first|refine aF ?_|refine au ?_|refine ak (λK hK=>?_)|refine aj ?_|refine aJ ?_|(refine dI (λx K hK=>?_);go_simp;refine hK _ _ (aB.alloc _ _) ?_;clear hK K;refine aZ x ?_;generalize (World.ah _ x).heap.size=bn;intro yn aU bD bC bG aS;clear x)|go_step)
 have qK:w.heap.size≤bn:=aU
 have HX:=Zh (cO.new aS.out)
 have hE:aB w (w.ah yn):=yn.ext
 generalize World.ah w yn=W at *
 clear aU bD bC bG aS yn
 have Xg:=HX.out.lt
 have HE:=Zh hE
 have x0:=HX.out.cell (k:=0) (by simp)
 have x1:=HX.out.cell (k:=1) (by simp)
 have x2:=HX.out.cell (k:=2) (by simp)
 have x4:=HX.out.cell (k:=4) (by simp)
 have x5:=HX.out.cell (k:=5) (by simp)
 have x6:=HX.out.cell (k:=6) (by simp)
 have x7:=HX.out.cell (k:=7) (by simp)
 simp at x0 x1 x2 x4 x5 x6 x7
 clear hE
 obtain⟨bx,aqD⟩:∃ bx:Nat,bx=bn:=⟨_,rfl⟩
 subst aqD
 clear HR jT hc
 obtain⟨A1,c1,hA1,hc,jT,HR⟩:=(HU.out.ah HE.out).ent
 cases hA1
 skip
 refine dJ [1,2,3,9,10,11] (λn vs w'=>∃ (k:Nat) (last:Int),aB W w'∧k+n=p.entries.length∧vs=[.pointer (some ⟨bx,0,none⟩),.bool false,.int .i64 last,.slice A0 p.entries.length c,.int .i64 p.entries.length,.int .i64 k]∧uT last (p.entries.drop k)=uT p.last p.entries) p.entries.length hd hA (by decide) ⟨0,p.last,by simp,by omega,by simp,by simp⟩ ?_
 clear hd hA A;intro n vs B w' hd hA _ ⟨k,last,hw,hk,jk,hm⟩;subst jk
 obtain⟨y,rfl⟩:=hw.get
 clear hw
 simp only[List.zip_cons_cons,List.zip_nil_right,List.zip_nil_left]
 by_cases hlt:k<p.entries.length
 ·obtain⟨e,b,o,qO,rfl,hb,c0,c1',c2,c3,c4,c5⟩:=HR.out k hlt
  have sZ:(k:Int)<p.entries.length:=by omega
  rw[Kw qO.out,Ei]at hm
  have HM:=Zh hm
  clear hm
  by_cases h1:last≤e.ep
  ·have h1b:decide (e.ep<last)=false:=by simpa using h1
   have h1n:¬ e.ep<last:=by omega
   repeat'(first|refine aF ?_|refine au ?_|(refine jr (λyn bn aU bD bC bG aS=>?_))|refine ak (λK hK=>?_)|refine aj ?_|refine aG ?_|refine aJ ?_|refine bH ?_|go_step)
   have kY:aB W ((W.ah y).ah yn):=Et y.ext yn.ext
   have z:∀ k,((W.ah y).ah yn).cell? ⟨bn,k,none⟩=e.cs.toArray[k]? :=bC
   have z0:=bC 0
   have z1:=bC 1
   have z2:=bC 2
   have z3:=bC 3
   have z4:=bC 4
   have z5:=bC 5
   simp at z0 z1 z2 z3 z4 z5
   have NT:=bD
   generalize World.ah _ yn=W2 at *
   clear aU bD bC bG aS yn y z c0 c1' c2 c3 c4 c5
   obtain⟨G,hG⟩:∃ G:Nat→Prop,G=(λk=>W2.heap.size≤k):=⟨_,rfl⟩
   have aop:¬ G bn:=by subst hG;simp;omega
   have HG:=Zh hG
   clear hG
   have BJ:∀ x:bM W2,gK Tryz.prog 180 #[] (W2.ah x) (λv w'=>(∃bt,v=.pointer (some ⟨bt,0,none⟩)∧aB W2 w'∧MJ w' bt G [])∧bF G (W2.ah x) w'):=λx=>
    (zN (W2.ah x)).mono λv w' hR=>by
     obtain⟨bt,h1,h2,h3⟩:=hR
     exact⟨⟨bt,h1,Et x.2 h2,h3.mono (λk hk=>by rw[HG.out];exact Nat.le_trans x.2.size hk)⟩,h2.aW⟩
   have rH:=Zh BJ
   clear BJ
   have adw:∀ (W3:World) (bt:Nat),MJ W3 bt G []→aB W2 W3→∀ x:bM W3,gK Tryz.prog 181 #[.pointer (some ⟨bt,0,none⟩),e.v] (W3.ah x) (λv w'=>(v=.int .i64 (bY [] e)∧aB W2 w')∧bF G (W3.ah x) w'):=λW3 bt hT hE x=>
    (vw (hT.ah x.2) e).mono λv w' hR=>by
     exact⟨⟨hR.1,aB.bK (Et hE x.2) hR.2.1 (λk hk=>by rw[HG.out]at hk;exact hk)⟩,hR.2.1⟩
   have aeH:=Zh adw
   clear adw
   have qO:=Zh kY
   clear kY
   refine xZ G [(0,0),(1,3),(2,0),(3,0),(4,0),(6,0),(5,1),(7,1),(8,0),(9,0)] (by kernel_rfl) (by kernel_rfl) ?_
   repeat'(first|refine aeF ?_|refine Jy ?_|refine Y_r ?_|fail)
   refine KP Tryz.func180 rH.out (λv W3 hR=>?_)
   obtain⟨bt,rfl,iU,hT⟩:=hR
   obtain⟨y2,rfl⟩:=iU.get
   have HT:=Zh hT
   clear iU hT
   repeat'(first|refine aeF ?_|fail)
   refine KP Tryz.func181 (aeH.out _ _ HT.out y2.2) (λv W4 hR=>?_)
   obtain⟨rfl,jX⟩:=hR
   obtain⟨y3,rfl⟩:=jX.get
   clear jX HT y2
   by_cases h2:fJ e=true
   ·have bT:bY [] e=0:=by rw[wo,if_neg (by simp[h2])]
    rw[bT]
    repeat'(first|refine aeF ?_|refine Jy ?_|refine Eh ?_)
    repeat'(first|refine aF ?_|refine au ?_|refine aj ?_|refine aG ?_|refine bJ ?_|go_step)
    exact⟨_,_,rfl,hd,hA,n-1,by omega,k+1,e.ep,Et qO.out (by simp),by omega,by simp,by rw[←HM.out];simp[h1,h2]⟩
   ·have h2f:fJ e=false:=by simpa using h2
    have bT:bY [] e=2:=by rw[wo,if_pos h2f]
    rw[bT]
    repeat'(first|refine aeF ?_|refine Jy ?_|refine Eh ?_)
    repeat'(first|refine aF ?_|refine au ?_|refine ak (λK hK=>?_)|refine aj ?_|refine aC ?_|refine bH ?_|go_step)
    refine aA hd ⟨?_,Et HE.out (Et qO.out (by simp))⟩
    unfold iM.right
    rw[←HM.out,h2f];simp
  ·have h1b:decide (e.ep<last)=true:=by simpa using h1
   have h1n:e.ep<last:=by omega
   repeat'(first|refine aF ?_|refine au ?_|(refine jr (λyn bn aU bD bC bG aS=>?_))|refine ak (λK hK=>?_)|refine aj ?_|refine aG ?_|refine aJ ?_|refine bH ?_|go_step)
   have z0:=bC 0
   simp at z0
   have NT:=bD
   have kY:aB W ((W.ah y).ah yn):=Et y.ext yn.ext
   generalize World.ah _ yn=W2 at *
   clear aU bD bC bG aS yn y c0 c1' c2 c3 c4 c5
   have qO:=Zh kY
   clear kY
   obtain⟨G,hG⟩:∃ G:Nat→Prop,G=(λk=>W2.heap.size≤k):=⟨_,rfl⟩
   have aop:¬ G bn:=by subst hG;simp;omega
   clear hG
   refine xZ G [(0,0),(1,3),(2,0),(3,0),(4,0),(6,0),(5,1),(7,1),(8,0),(9,0)] (by kernel_rfl) (by kernel_rfl) ?_
   repeat'(first|refine aoa ?_|refine Jy ?_|refine Y_r ?_|refine Eh ?_)
   repeat'(first|refine aF ?_|refine au ?_|refine ak (λK hK=>?_)|refine aj ?_|refine aC ?_|refine bH ?_|go_step)
   refine aA hd ⟨?_,Et HE.out qO.out⟩
   unfold iM.right
   rw[←HM.out];simp[h1]
 ·obtain rfl:k=p.entries.length:=by omega
  rw[List.drop_length]at hm
  have HM:Hid (uT p.last p.entries=true):=Zh (by rw[←hm];rfl)
  clear hm
  repeat'(first|refine X_d (λvb Kt=>?_)|refine aF ?_|refine mg ?_|refine au ?_|refine ak (λK hK=>?_)|refine aj ?_|refine aC ?_|refine dS ?_|refine bJ ?_|go_step)
  repeat cases ‹Eqn _ _›
  refine aA hd ⟨?_,Et HE.out y.2⟩
  unfold iM.right
  rw[HM.out,Bool.true_and]
def aI.zS (s:aI) (p:iM):Bool:=(p.epoch==s.epoch)&&(p.base==(s.log.length:Int))&&(p.last==gZ s.log)
def aI.lD (s:aI) (p:iM):Int:=
 if p.right=false then 2 else if s.role≠2 then 211 else if s.zS p=false then 210 else if p.cut=true then 0 else if(4096:Int)-s.log.length<p.entries.length then 3 else 0
def aI.tZ (s:aI) (p:iM):Int:=ku 0 (iD (min p.qI (dO s.log p.jv:Int)) ((s.log.length:Int)-1))
def aI.take (s:aI) (p:iM):aI:=
 if s.lD p≠0 then s else
 if p.cut=true then{s with log:=s.log.take (s.tZ p).toNat,flushed:=iD s.flushed (s.tZ p),high:=iD s.high (s.tZ p)}
 else{s with log:=s.log++p.entries,high:=ku s.high (iD p.high ((s.log.length+p.entries.length:Nat):Int))}
theorem abT {w:World} {b:Nat} {F:Nat→Prop} {s:aI} (h:oD w b F s) (hs:s.least≠0) (hm:vZ s.log=true) (hl:s.log.length≤4096) {u:Value} {p:iM} (hu:yQ w u p.entries) (hul:p.entries.length≤100000):
  gK Tryz.prog 173 #[.pointer (some ⟨b,0,none⟩),p.v u] w λr w'=>r=.int .i64 (s.lD p)∧bF F w w'∧oD w' b (λk=>F k∨w.heap.size≤k) (s.take p):=by
 refine h.Yk (R:=λr w'=>r=.int .i64 (s.lD p)) ?_
 intro F h RV
 have FC:=Zh h.yK
 have UG:=Zh RV
 clear RV
 have HP0:=h
 obtain⟨uL,uI,uC,h,hf⟩:=h.ex
 have H0:=h
 have BA:=Zh hf
 obtain⟨A1,c1,rfl,Na,Jr,-⟩:=h.IU.ent
 have zM:=Zh h.lt
 have qK:=h.gy.lt
 have HP:=Zh HP0
 have H:=Zh H0
 have HU:=Zh hu
 obtain⟨A0,c0,rfl,hc,jT,-⟩:=hu.ent
 clear h hf H0 HP0 hu
 refine uh Tryz.func173 rfl (Nat.le_of_ble_eq_true rfl) ?_;intro A hd hA;simp only[ix,Nat.reduceAdd];replace hA:A.tmps.size=133:=hA
 repeat'(first|refine au ?_|refine ak (λK hK=>?_)|refine aj ?_|(refine dI (λx K hK=>?_);go_simp;refine hK _ _ (aB.alloc _ _) ?_;clear hK K;refine aZ x ?_;generalize (World.ah _ x).heap.size=bn;intro yn aU bD bC bG aS;clear x)|go_step)
 rename_i bp yp p1 p2 p3 p4 p5
 refine um (be:=bn) hd hA (λW hE=>by unfold execOp gI;go_simp) ?_;have wL:=Zh (cO.one aS.out);clear hd hA A;intro A hd hA;obtain⟨be,PY⟩:∃ be:Nat,be=bn:=⟨_,rfl⟩;subst PY
 have hE:aB w ((w.ah yp).ah yn):=by simp
 have HX:=Zh ((cO.new p5.out).ah yn.ext)
 have h1:=yp.2.size
 have atV:b<bp:=by omega
 have aof:bp<be:=by omega
 have hwp:w.heap.size≤bp:=p1
 have oV:=Zh wL.out
 clear wL
 generalize World.ah _ yn=W at *
 clear p1 p2 p3 p4 p5 aU bD bC bG aS h1 yn yp
 have Vs:=Zh (HP.out.ah hE)
 have H1:=Zh (H.out.ah hE)
 have HE:=Zh hE
 have HU1:=Zh (HU.out.ah hE)
 obtain⟨hlt,-,-,d2,-,d8,d9,d10,d11,d12,d13,DR⟩:=H1.out.cells
 have hx:=HX.out.lt
 have x0:=HX.out.cell (k:=0) (by simp)
 have x1:=HX.out.cell (k:=1) (by simp)
 have x2:=HX.out.cell (k:=2) (by simp)
 have x3:=HX.out.cell (k:=3) (by simp)
 have x4:=HX.out.cell (k:=4) (by simp)
 have x5:=HX.out.cell (k:=5) (by simp)
 have x6:=HX.out.cell (k:=6) (by simp)
 have x7:=HX.out.cell (k:=7) (by simp)
 simp at x0 x1 x2 x3 x4 x5 x6 x7
 clear hE
 by_cases g1:p.right=true
 ·have HRI:=Zh (g1▸Gg HU1.out)
  repeat'(first|refine aN Tryz.func69 (jK Vs.out hs) ?_|refine aN Tryz.func161 (dZ _) ?_|refine aN Tryz.func221 (HRI.out) ?_|refine aF ?_|refine au ?_|refine ak (λK hK=>?_)|refine aj ?_|go_step)
  have aaA:(0≤p.jv∧0≤p.qI)∧0≤p.high:=by
   have:=g1
   simp only[iM.right,Bool.and_eq_true,decide_eq_true_eq]at this
   exact⟨⟨this.1.1.2,this.1.2⟩,this.2⟩
  by_cases g2:s.role=2
  ·have g2b:(s.role==2)=true:=by simp[g2]
   repeat'(first|refine aN Tryz.func161 (dZ _) ?_|refine au ?_|refine ak (λK hK=>?_)|go_step)
   by_cases g3:s.zS p=true
   ·have g3':=g3
    simp only[aI.zS,Bool.and_eq_true]at g3'
    obtain⟨⟨g31,g32⟩,g33⟩:=g3'
    refine dn [(0,0),(1,0),(2,0),(3,0),(4,0),(5,0),(6,0),(7,0),(8,0),(9,0),(10,0),(11,0),(12,0),(13,0),(14,0),(15,0),(16,0),(17,0),(18,0),(19,0),(20,0),(21,1),(22,0),(23,0),(24,1)] (by kernel_rfl) (by kernel_rfl) ?_
    repeat'(first|(refine dN Tryz.func162 (λx=>Cm (Vs.out.ah (by simp)) hm) ?_)|(refine dN Tryz.func161 (λ_=>dZ 210) ?_)|refine dw ?_|refine aF ?_|refine aQ ?_|refine au ?_|refine ak (λK hK=>?_)|refine aj ?_|refine aG ?_|refine rE (λhc=>?_) (λhc=>?_)|go_step)
    ·have g4:=hc
     clear hc
     have uO:s.lD p=0:=by unfold aI.lD;rw[if_neg (by simp[g1]),if_neg (by simp[g2]),if_neg (by simp[g3]),if_pos g4]
     have hcu:=λ(W:World) (h:yQ W (.slice A1 s.log.length c1) s.log)=>YO s.log _ p.jv p.qI W h aaA.1.1 aaA.1.2 hm
     have hab:dO s.log p.jv≤s.log.length:=by unfold dO;exact(List.takeWhile_sublist _).length_le
     have hct:s.tZ p=ku 0 (iD (min p.qI (dO s.log p.jv:Int)) ((s.log.length:Int)-1)):=rfl
     have Bq:0≤min p.qI (dO s.log p.jv:Int)∧min p.qI (dO s.log p.jv:Int)≤s.log.length:=by omega
     generalize min p.qI (dO s.log p.jv:Int)=cc at *
     obtain⟨n,hn⟩:∃ n:Nat,s.tZ p=n:=⟨(s.tZ p).toNat,by rw[hct,nO,jE];omega⟩
     have hnl:n≤s.log.length:=by rw[hct,nO,jE]at hn;omega
     have hnn:(if(0:Int)<(if(s.log.length:Int)-1<cc then(s.log.length:Int)-1 else cc) then(if(s.log.length:Int)-1<cc then(s.log.length:Int)-1 else cc) else 0)=(n:Int):=by rw[←hn,hct];unfold ku iD;rfl
     have Hl:n≤c1:=by omega
     have HN:=Zh hn
     have HCU:=Zh hcu
     have MR:=Zh uO
     clear hcu hct hn uO hab
     refine dA (by kernel_rfl) (by kernel_rfl) ?_
     repeat'(first|refine aN Tryz.func222 (HCU.out _ (H1.out.IU.ah (by simp))) ?_|refine aF ?_|refine aQ ?_|refine au ?_|refine ak (λK hK=>?_)|refine aj ?_|go_step)
     refine aX Tryz.func70 (qm (H1.out.IU.take n hnl) (by simp;omega)) (λr W2 hR=>?_)
     have HR:=Zh hR
     obtain⟨iU,-,-⟩:=hR
     have H2:=Zh (H1.out.ah iU)
     have Np:=Zh (oV.out.ah iU)
     have rO:=Zh (Et HE.out iU)
     have atX:=oV.out.lt
     clear iU hlt d2 d8 d9 d10 d11 d12 d13 DR x0 x1 x2 x3 x4 x5 x6 x7 hx
     obtain⟨Ar,mr,cr,rfl⟩:=aT HR.out.2.1
     have Ot:Hid (∀k,(Value.slice Ar mr cr).ownBlock=some k→W.heap.size≤k):=Zh HR.out.2.2
     have hWw:=HE.out.size
     repeat'(first|refine aF ?_|fail)
     refine aY (off:=12) H2.out.gy (λW3 jd ru=>?_)
     have Oo:=Zh (H2.out.aj3 jd ru (HR.out.2.1.aW jd (λk hk he=>by subst he;have:=Ot.out _ hk;omega)) (λhk=>by have:=Ot.out _ hk;omega) (λk hk=>⟨λh=>by have:=Ot.out _ hk;have:=zM.out k (.inr (.inr (.inl h)));omega,λh=>by have:=Ot.out _ hk;have:=zM.out k (.inr (.inr (.inr h)));omega⟩))
     have HM:=Zh (bF.trans rO.out jd (λ_ _ h=>h.elim) (λ_ _ h=>h):bF (· =b) w W3)
     have PZ:=Zh (Np.out.aW jd (λh=>by omega))
     clear jd ru
     obtain⟨Dt,-,-,-,-,-,-,-,-,-,e13,e14⟩:=Oo.out.cells
     have arx:(if(n:Int)<s.high then(n:Int) else s.high)=iD s.high n:=rfl
     have arz:(if(n:Int)<s.flushed then(n:Int) else s.flushed)=iD s.flushed n:=rfl
     repeat'(first|refine au ?_|refine ak (λK hK=>?_)|go_step)
     obtain⟨G,hG⟩:∃ G:Nat→Prop,G=(λk=>k=b):=⟨_,rfl⟩
     have HGb:Hid (G b):=Zh (by subst hG;rfl)
     clear hG
     refine xZ G [(0,0),(1,0),(2,0),(3,0),(4,0),(5,3),(6,0),(7,0),(8,0),(9,0),(10,0),(11,3),(12,0),(13,0),(14,0),(15,0),(16,2),(17,0),(18,0),(19,2)] (by kernel_rfl) (by kernel_rfl) ?_
     repeat'(first|refine Jy ?_|refine Y_r ?_|fail)
     refine kM (off:=13) Oo.out.gy HGb.out (λW4 wO hG4 FK=>?_)
     have QK:=Zh (Oo.out.Vh wO FK)
     have HM:=Zh (HM.out.mO wO)
     have abO:=Zh (PZ.out.aW wO (λh=>by omega))
     clear wO FK hG4
     repeat'(first|refine Jy ?_|fail)
     refine kM (off:=14) QK.out.gy HGb.out (λW5 kJ Y3 pX=>?_)
     have HA5:=Zh (QK.out.PU kJ pX)
     have HM:=Zh (HM.out.mO kJ)
     have abR:=Zh (abO.out.aW kJ (λh=>by omega))
     clear kJ pX Y3
     repeat'(first|refine Eh ?_)
     repeat'(first|refine ak (λK hK=>?_)|refine aj ?_|go_step)
     refine aY (off:=0) abR.out (λW6 jP nY=>?_)
     have HA6:=Zh (HA5.out.aW jP (λk hk he=>by
      subst he
      rcases hk with h|h|h|h
      ·omega
      ·have:=Ot.out _ h;omega
      ·have:=zM.out _ (.inr (.inr (.inl h)));omega
      ·have:=zM.out _ (.inr (.inr (.inr h)));omega))
     have gQ:=Zh nY
     have Jv:=Zh jP
     clear jP nY
     repeat'(first|refine au ?_|refine aC ?_|go_step)
     have UO:s.take p={s with log:=s.log.take n,flushed:=iD s.flushed n,high:=iD s.high n}:=by unfold aI.take;rw[if_neg (by rw[MR.out];decide),if_pos g4,HN.out];rfl
     refine zJ hd (gQ.out.congr (g':=λ_=>.int .i64 0) (λk hk=>by obtain rfl:k=0:=(by omega);rfl)) ⟨by rw[MR.out],?_,?_⟩
     ·exact bF.trans HM.out Jv.out (λk _ h=>by subst h;exact FC.out) (λk hk h=>by subst h;omega)
     ·rw[UO]
      refine⟨_,_,_,HA6.out,?_⟩
      rintro k (rfl|hk|hk|hk)
      ·exact .inl FC.out
      ·exact .inr (Nat.le_trans hWw (Ot.out k hk))
      ·exact .inl (BA.out k (.inr (.inr (.inl hk))))
      ·exact .inl (BA.out k (.inr (.inr (.inr hk))))
    ·have g4:=hc
     clear hc
     by_cases g5:(p.entries.length:Int)≤4096-s.log.length
     ·have g5b:decide ((p.entries.length:Int)≤4096-s.log.length)=true:=by simpa using g5
      have uO:s.lD p=0:=by unfold aI.lD;rw[if_neg (by simp[g1]),if_neg (by simp[g2]),if_neg (by simp[g3]),if_neg (by simp[g4]),if_neg (by omega)]
      have MR:=Zh uO
      clear uO
      refine dn [(0,0),(1,0),(2,0),(3,0),(4,0),(5,0),(6,0),(7,0),(8,0),(9,0),(10,1)] (by kernel_rfl) (by kernel_rfl) ?_
      repeat'(first|(refine dN Tryz.func161 (λ_=>dZ 3) ?_)|refine aF ?_|refine aQ ?_|refine ak (λK hK=>?_)|go_step)
      refine dn [(0,0),(1,0),(2,0),(3,0),(4,0),(5,0),(6,0),(7,2),(8,0),(9,0),(10,2)] (by kernel_rfl) (by kernel_rfl) ?_
      repeat'(first|refine aF ?_|fail)
      refine nZ (xs:=s.log) JO H1.out.yK HU1.out (by omega) (by unfold maxLen;omega) (λv' W3 jd zy yM hN3=>?_)
      obtain⟨A3,m3,c3,rfl⟩:=aT zy
      have ahm:¬ (Value.slice A1 s.log.length c1).ownBlock=some b:=H1.out.nL
      have HH3:=Zh (H1.out.gy.aW jd ahm)
      have Ox:=Zh zy
      have QT:=Zh yM
      have YZ:=Zh jd
      have akp:¬ (Value.slice A1 s.log.length c1).ownBlock=some be:=λh=>by have:=zM.out be (.inr (.inl h));omega
      have aor:¬ (Value.slice A1 s.log.length c1).ownBlock=some bp:=λh=>by have:=zM.out bp (.inr (.inl h));omega
      have y7:=(bI jd (o:=7) hx aor).trans x7
      have Xh:bp<W3.heap.size:=Nat.lt_of_lt_of_le hx jd.size
      have akg:=oV.out.lt
      clear zy yM jd hN3 x0 x1 x2 x3 x4 x5 x6 x7 hx
      repeat'(first|refine aF ?_|fail)
      refine aY (off:=12) HH3.out (λW4 wO FK=>?_)
      have QK:=Zh (H1.out.QE YZ.out Ox.out QT.out wO FK)
      have xO:=Zh (bF.trans YZ.out wO (H:=λk=>k=b∨(Value.slice A1 s.log.length c1).ownBlock=some k) (λ_ _ h=>.inr h) (λ_ _ h=>.inl h))
      have abO:=Zh ((oV.out.aW YZ.out akp).aW wO (λh=>by omega))
      have z7:=(bI wO (o:=7) Xh (λh=>by omega)).trans y7
      have hx4:bp<W4.heap.size:=Nat.lt_of_lt_of_le Xh wO.size
      clear wO FK hlt d2 d8 d9 d10 d11 d12 d13 DR y7 Xh
      obtain⟨A5,c5,hA5,-⟩:=QK.out.IU.ent
      simp only[List.length_append]at hA5
      cases hA5
      obtain⟨hlt,-,-,-,-,-,-,-,-,d12,-,DR⟩:=QK.out.cells
      repeat'(first|refine aQ ?_|refine ak (λK hK=>?_)|go_step)
      refine dA (by kernel_rfl) (by kernel_rfl) ?_
      repeat'(first|refine aF ?_|fail)
      refine aY (off:=14) QK.out.gy (λW5 kJ pX=>?_)
      have HA5:=Zh (QK.out.PU kJ pX)
      have uo:=Zh (bF.trans xO.out kJ (H:=λk=>k=b∨(Value.slice A1 s.log.length c1).ownBlock=some k) (λ_ _ h=>h) (λ_ _ h=>.inl h))
      have abR:=Zh (abO.out.aW kJ (λh=>by omega))
      clear kJ pX
      repeat'(first|refine aQ ?_|refine ak (λK hK=>?_)|refine aj ?_|go_step)
      refine aY (off:=0) abR.out (λW6 jP nY=>?_)
      have NT:∀ k,Rt b (.slice A3 (s.log.length+p.entries.length) c3) uI uC k→k≠be∧(F k∨w.heap.size≤k):=by
       rintro k (h|h|h|h)
       ·subst h;exact⟨by omega,.inl FC.out⟩
       ·rcases QT.out with h'|⟨g,h',hg⟩
        ·have h2:=h'▸h
         exact⟨λe=>akp (e▸h2),.inl (BA.out k (.inr (.inl h2)))⟩
        ·rw[h']at h;cases h
         exact⟨by omega,.inr (Nat.le_trans HE.out.size hg)⟩
       ·have:=zM.out k (.inr (.inr (.inl h)))
        exact⟨by omega,.inl (BA.out k (.inr (.inr (.inl h))))⟩
       ·have:=zM.out k (.inr (.inr (.inr h)))
        exact⟨by omega,.inl (BA.out k (.inr (.inr (.inr h))))⟩
      have HBN:=Zh NT
      have HA6:=Zh (HA5.out.aW jP (λk hk he=>(NT k hk).1 he))
      have gQ:=Zh nY
      have Jv:=Zh jP
      clear jP nY NT
      repeat'(first|refine au ?_|refine aC ?_|go_step)
      refine zJ hd (gQ.out.congr (g':=λ_=>.int .i64 0) (λk hk=>by obtain rfl:k=0:=(by omega);rfl)) ⟨by rw[MR.out],?_,?_⟩
      ·refine bF.trans (bF.trans HE.out uo.out (H:=F) (λ_ _ h=>h.elim) (λk hk h=>?_)) Jv.out (λ_ _ h=>h) (λk hk h=>by subst h;omega)
       rcases h with h|h
       ·subst h;exact FC.out
       ·exact BA.out k (.inr (.inl h))
      ·have UO:s.take p={s with log:=s.log++p.entries,high:=ku s.high (iD p.high ((s.log.length+p.entries.length:Nat):Int))}:=by unfold aI.take;rw[if_neg (by rw[MR.out];decide),if_neg (by simp[g4])]
       rw[UO]
       refine⟨_,_,_,?_,λk hk=>(HBN.out k hk).2⟩
       exact HA6.out
     ·have g5b:decide ((p.entries.length:Int)≤4096-s.log.length)=false:=by simpa using g5
      have uO:s.lD p=3:=by unfold aI.lD;rw[if_neg (by simp[g1]),if_neg (by simp[g2]),if_neg (by simp[g3]),if_neg (by simp[g4]),if_pos (by omega)]
      refine Ec [(0,0),(1,0),(2,0),(3,0),(4,0),(5,0),(6,0),(7,0),(8,0),(9,0)] 10 (by kernel_rfl) (by kernel_rfl) ?_
      repeat'(first|refine aF ?_|refine aQ ?_|fail)
      refine mM Tryz.func161 (jD 3) (λc w' hC=>?_)
      obtain⟨rfl,fD⟩:=hC
      have UO:s.take p=s:=by unfold aI.take;rw[uO,if_pos (by decide)]
      refine xW hd (oV.out.ah fD) (λW1 hM=>?_)
      have oQ:=aB.bK (Et HE.out fD) hM (λk hk=>by subst hk;omega)
      exact⟨by rw[uO],oQ.mono (λ_ _ h=>h.elim),by rw[UO];exact(HP.out.ah oQ).mono (λk hk=>.inl hk)⟩
   ·have g3f:s.zS p=false:=by simpa using g3
    have uO:s.lD p=210:=by unfold aI.lD;rw[if_neg (by simp[g1]),if_neg (by simp[g2]),if_pos g3f]
    refine Ec [(0,0),(1,0),(2,0),(3,0),(4,0),(5,0),(6,0),(7,0),(8,0),(9,0),(10,0),(11,0),(12,0),(13,0),(14,0),(15,0),(16,0),(17,0),(18,0),(19,0),(20,0),(21,1),(22,0),(23,0)] 24 (by kernel_rfl) (by kernel_rfl) ?_
    repeat'(first|(refine abd Tryz.func162 (λ_ x=>Cm (Vs.out.ah (by simp)) hm) ?_)|refine X_d (λvb Kt=>?_)|refine aF ?_|refine mg ?_|refine aQ ?_|fail)
    repeat cases ‹Eqn _ _›
    refine mM (lv:=[.bool false,.int .i64 210]) Tryz.func161 (jD 210) (λc w' hC=>?_) (hlv:=by exact congrArg (λx=>[Value.bool x,Value.int .i64 210]) g3f)
    obtain⟨rfl,fD⟩:=hC
    have UO:s.take p=s:=by unfold aI.take;rw[uO,if_pos (by decide)]
    refine xW hd (oV.out.ah fD) (λW1 hM=>?_)
    have oQ:=aB.bK (Et HE.out fD) hM (λk hk=>by subst hk;omega)
    exact⟨by rw[uO],oQ.mono (λ_ _ h=>h.elim),by rw[UO];exact(HP.out.ah oQ).mono (λk hk=>.inl hk)⟩
  ·have g2b:(s.role==2)=false:=by simp[g2]
   have uO:s.lD p=211:=by unfold aI.lD;rw[if_neg (by simp[g1]),if_pos g2]
   skip
   refine AZ Tryz.func161 (jD 211) (λc w' hC=>?_)
   obtain⟨rfl,fD⟩:=hC
   have UO:s.take p=s:=by unfold aI.take;rw[uO,if_pos (by decide)]
   refine xW hd (oV.out.ah fD) (λW1 hM=>?_)
   have oQ:=aB.bK (Et HE.out fD) hM (λk hk=>by subst hk;omega)
   exact⟨by rw[uO],oQ.mono (λ_ _ h=>h.elim),by rw[UO];exact(HP.out.ah oQ).mono (λk hk=>.inl hk)⟩
 ·have g1f:p.right=false:=by simpa using g1
  have HRI:=Zh (g1f▸Gg HU1.out)
  have uO:s.lD p=2:=by unfold aI.lD;rw[if_pos g1f]
  repeat'(first|refine aN Tryz.func69 (jK Vs.out hs) ?_|(refine aN Tryz.func161 (dZ 1) ?_)|refine aN Tryz.func221 (HRI.out) ?_|refine aF ?_|refine au ?_|refine ak (λK hK=>?_)|refine aj ?_|go_step)
  refine AZ Tryz.func161 (jD 2) (λc w' hC=>?_)
  obtain⟨rfl,fD⟩:=hC
  have UO:s.take p=s:=by unfold aI.take;rw[uO,if_pos (by decide)]
  refine xW hd (oV.out.ah fD) (λW1 hM=>?_)
  have oQ:=aB.bK (Et HE.out fD) hM (λk hk=>by subst hk;omega)
  exact⟨by rw[uO],oQ.mono (λ_ _ h=>h.elim),by rw[UO];exact(HP.out.ah oQ).mono (λk hk=>.inl hk)⟩
structure Pj where
 role:Int
 epoch:Int
 version:Int
 flushed:Int
 high:Int
 qM:Int
 isr:List Int
 counts:List Int
 known:List Int
abbrev Pj.cs (x:Pj) (u1 u2 u3:Value):List Value:=[.int .i64 x.role,.int .i64 x.epoch,.int .i64 x.version,.int .i64 x.flushed,.int .i64 x.high,.int .i64 x.qM,u1,u2,u3]
abbrev Pj.v (x:Pj) (u1 u2 u3:Value):Value:=.agg #[.int .i64 x.role,.int .i64 x.epoch,.int .i64 x.version,.int .i64 x.flushed,.int .i64 x.high,.int .i64 x.qM,u1,u2,u3]
def aI.qH (s:aI):Pj:=
 if s.role=3 then⟨s.role,s.epoch,s.version,s.flushed,s.high,s.qM,s.isr,s.counts,[s.known 0,s.known 1,s.known 2,s.known 3]⟩
 else⟨s.role,s.epoch,0,s.flushed,s.high,0,[],[],[]⟩
theorem RZ {x:Pj} {u1 u2 u3:Value} {g:Nat→Value} (h:g 0=.int .i64 x.role∧g 1=.int .i64 x.epoch∧g 2=.int .i64 x.version∧g 3=.int .i64 x.flushed∧g 4=.int .i64 x.high∧g 5=.int .i64 x.qM∧g 6=u1∧g 7=u2∧g 8=u3) {k:Nat} (hk:k<(x.cs u1 u2 u3).length):(x.cs u1 u2 u3)[k]? =some (g k):=by
 obtain⟨h0,h1,h2,h3,h4,h5,h6,h7,h8⟩:=h
 simp only[List.length_cons,List.length_nil]at hk
 obtain rfl|rfl|rfl|rfl|rfl|rfl|rfl|rfl|rfl:k=0∨k=1∨k=2∨k=3∨k=4∨k=5∨k=6∨k=7∨k=8:=by omega
 ·rw[h0];rfl
 ·rw[h1];rfl
 ·rw[h2];rfl
 ·rw[h3];rfl
 ·rw[h4];rfl
 ·rw[h5];rfl
 ·rw[h6];rfl
 ·rw[h7];rfl
 ·rw[h8];rfl
theorem eG.aht {w:World} {b:Nat} {uL uI uC:Value} {s:aI} (h:eG w b uL uI uC s):BU w (.slice (some ⟨b,4,none⟩) 4 4) [s.known 0,s.known 1,s.known 2,s.known 3]:=by
 refine⟨some ⟨b,4,none⟩,4,rfl,Nat.le_refl _,by unfold maxLen;omega,.inr ⟨b,4,rfl,h.gy.lt,λi x hx j u hu=>?_⟩⟩
 have hj:j=0:=by
  rcases Nat.lt_or_ge j 1 with h|h
  ·omega
  ·rw[List.getElem?_eq_none (by simpa using h)]at hu;cases hu
 subst hj
 simp at hu
 subst hu
 have hi:i<4:=by
  rcases Nat.lt_or_ge i 4 with h|h
  ·exact h
  ·rw[List.getElem?_eq_none (by simpa using h)]at hx;cases hx
 have h1:=h.JR i hi
 obtain rfl|rfl|rfl|rfl:i=0∨i=1∨i=2∨i=3:=by omega
 all_goals (simp at hx;subst hx;simpa using h1)
theorem wu {w:World} {b:Nat} {F:Nat→Prop} {s:aI} (h:oD w b F s) (hs:s.least≠0) (hi:s.isr.length≤1000) (hc:s.counts.length≤1000):
  gK Tryz.prog 20 #[.pointer (some ⟨b,0,none⟩)] w λv w'=>aB w w'∧∃ u1 u2 u3,v=s.qH.v u1 u2 u3∧BU w' u1 s.qH.isr∧BU w' u2 s.qH.counts∧BU w' u3 s.qH.known∧(∀k,u1.ownBlock=some k∨u2.ownBlock=some k∨u3.ownBlock=some k→w.heap.size≤k):=by
 have HP:=Zh h
 obtain⟨uL,uI,uC,h,hf⟩:=h.ex
 have H0:=h
 obtain⟨A2,c2,rfl,-⟩:=h.ri.int
 obtain⟨A3,c3,rfl,-⟩:=h.rc.int
 have qK:=h.gy.lt
 have H:=Zh H0
 clear h hf H0
 refine Fi (n:=63) Tryz.func20 ?_;intro A hd hA;simp only[ix,Nat.reduceAdd]
 repeat'(first|refine aF ?_|refine au ?_|refine ak (λK hK=>?_)|refine aj ?_|(refine dI (λx K hK=>?_);go_simp;refine hK _ _ (aB.alloc _ _) ?_;clear hK K;refine aZ x ?_;generalize (World.ah _ x).heap.size=bn;intro yn aU bD bC bG aS;clear x)|go_step)
 have hE:aB w (w.ah yn):=yn.ext
 have HY:=Zh (cO.new aS.out)
 obtain⟨br,aos⟩:∃ br:Nat,br=bn:=⟨_,rfl⟩
 subst aos
 have at1:w.heap.size≤br:=aU
 generalize World.ah w yn=W at *
 clear aU bD bC bG aS yn
 have Vs:=Zh (HP.out.ah hE)
 have H1:=Zh (H.out.ah hE)
 have HE:=Zh hE
 clear hE
 obtain⟨hlt,d0,d1,d2,d3,d8,d9,d10,d11,d12,d13,DR⟩:=H1.out.cells
 repeat'(first|refine aN Tryz.func69 (jK Vs.out hs) ?_|refine au ?_|refine ak (λK hK=>?_)|refine aG ?_|refine bJ ?_|go_step)
 refine dA (by kernel_rfl) (by kernel_rfl) ?_
 repeat'(first|refine aF ?_|refine aQ ?_|refine au ?_|(refine jr (λyn bn aU bD bC bG aS=>?_))|refine ak (λK hK=>?_)|refine aj ?_|refine aG ?_|refine rE (λhc=>?_) (λhc=>?_)|go_step)
 ·have KX:s.role=3:=by simpa using hc
  obtain⟨bo,ahq⟩:∃ bo:Nat,bo=bn:=⟨_,rfl⟩
  subst ahq
  have iU:aB W (W.ah yn):=yn.ext
  have HO:=Zh (cO.new aS.out)
  have aoh:W.heap.size≤bo:=aU
  have at6:=HY.out.lt
  generalize World.ah W yn=W2 at *
  clear aU bD bC bG aS yn
  have H2:=Zh (H1.out.ah iU)
  have HY2:=Zh (HY.out.ah iU)
  have rO:=Zh (Et HE.out iU)
  have hcW:=HE.out.size
  clear hlt d0 d1 d2 d3 d8 d9 d10 d11 d12 d13 DR iU
  obtain⟨hlt,d0,d1,d2,d3,d8,d9,d10,d11,d12,d13,DR⟩:=H2.out.cells
  obtain⟨G,hG⟩:∃ G:Nat→Prop,G=(λk=>k=bo):=⟨_,rfl⟩
  have hGb:¬ G b:=by subst hG;show ¬b=bo;omega
  have HGo:Hid (G bo):=Zh (by subst hG;rfl)
  clear hG
  refine xZ G [(0,0),(1,0),(2,0),(3,0),(4,3),(5,0),(6,0),(7,0),(8,0),(9,0),(10,0),(11,2),(12,0),(13,2)] (by kernel_rfl) (by kernel_rfl) ?_
  repeat'(first|refine Jy ?_|refine Y_r ?_|fail)
  refine kM (off:=2) HO.out HGo.out (λW3 jd hG3 ru=>?_)
  have HO:=Zh ru
  have HM:=Zh jd
  clear jd ru hG3
  repeat'(first|refine Jy ?_|fail)
  refine kM (off:=5) HO.out HGo.out (λW4 wO hG4 FK=>?_)
  have HO:=Zh FK
  have HM:=Zh (HM.out.mO wO)
  clear wO FK hG4
  repeat'(first|refine Eh ?_)
  have fD:aB w W4:=aB.bK rO.out HM.out (λk hk=>by subst hk;omega)
  have Vu:=Zh fD
  have H4:=Zh (H.out.ah fD)
  have HY4:=Zh (HY2.out.aW HM.out (λh=>by omega))
  clear hlt d0 d1 d2 d3 d8 d9 d10 d11 d12 d13 DR fD
  obtain⟨hlt,d0,d1,d2,d3,d8,d9,d10,d11,d12,d13,DR⟩:=H4.out.cells
  have hoW:=HO.out.lt
  repeat'(first|go_step)
  refine dn [(0,0),(1,0),(2,0),(3,0),(4,0),(6,0),(7,0),(8,0),(9,0),(10,0),(12,0),(13,0),(14,0),(15,0),(16,0),(5,1),(18,0),(11,1),(17,1),(19,2),(20,0),(21,2),(22,0),(23,2)] (by kernel_rfl) (by kernel_rfl) ?_
  repeat'(first|refine aF ?_|fail)
  refine fF (R:=λw0 v' w'=>aB w0 w'∧ig w' v' s.isr∧∀ b,v'.ownBlock=some b→w0.heap.size≤b) Tryz.func65 (λz=>fH (H4.out.ri.ah z.ext).rd (by omega)) (λz1 u1 w1 hR=>⟨hR.1,?_⟩)
  have UN:=Zh hR
  obtain⟨y1,rfl⟩:=hR.1.get
  clear hR
  repeat'(first|refine aF ?_|fail)
  refine fF (R:=λw0 v' w'=>aB w0 w'∧ig w' v' s.counts∧∀ b,v'.ownBlock=some b→w0.heap.size≤b) Tryz.func65 (λz=>fH (H4.out.rc.ah (Et (Et z1.ext y1.ext) z.ext)) (by omega)) (λz2 u2 w2 hR=>⟨hR.1,?_⟩)
  have Ku:=Zh hR
  obtain⟨y2,rfl⟩:=hR.1.get
  clear hR
  skip
  refine fF (R:=λw0 v' w'=>aB w0 w'∧ig w' v' [s.known 0,s.known 1,s.known 2,s.known 3]∧∀ b,v'.ownBlock=some b→w0.heap.size≤b) Tryz.func65 (λz=>fH (H4.out.aht.ah (Et (Et (Et (Et z1.ext y1.ext) z2.ext) y2.ext) z.ext)) (by simp)) (λz3 u3 w3 hR=>⟨hR.1,?_⟩)
  have Ir:=Zh hR
  obtain⟨y3,rfl⟩:=hR.1.get
  clear hR
  have jY:aB W4 (World.ah _ y3):=Et (Et (Et (Et (Et z1.ext y1.ext) z2.ext) y2.ext) z3.ext) y3.ext
  have h1:ig (World.ah _ y3) u1 s.isr:=(UN.out.2.1).ah (Et (Et (Et z2.ext y2.ext) z3.ext) y3.ext)
  have h2:ig (World.ah _ y3) u2 s.counts:=(Ku.out.2.1).ah (Et z3.ext y3.ext)
  have h3:ig (World.ah _ y3) u3 [s.known 0,s.known 1,s.known 2,s.known 3]:=Ir.out.2.1
  have s1:∀ k,u1.ownBlock=some k→W4.heap.size≤k:=λk hk=>Nat.le_trans z1.ext.size (UN.out.2.2 k hk)
  have s2:∀ k,u2.ownBlock=some k→W4.heap.size≤k:=λk hk=>Nat.le_trans (Et (Et z1.ext y1.ext) z2.ext).size (Ku.out.2.2 k hk)
  have s3:∀ k,u3.ownBlock=some k→W4.heap.size≤k:=λk hk=>Nat.le_trans (Et (Et (Et (Et z1.ext y1.ext) z2.ext) y2.ext) z3.ext).size (Ir.out.2.2 k hk)
  generalize World.ah _ y3=W5 at *
  have HS:=Zh (And.intro s1 (And.intro s2 s3))
  have HI1:=Zh h1
  have HI2:=Zh h2
  have HI3:=Zh h3
  have HO:=Zh (HO.out.ah jY)
  have HY5:=Zh (HY4.out.ah jY)
  have KY:=Zh (Et Vu.out jY)
  clear UN Ku Ir jY h1 h2 h3 s1 s2 s3 hlt d0 d1 d2 d3 d8 d9 d10 d11 d12 d13 DR
  obtain⟨B1,m1,c1,rfl⟩:=aT HI1.out
  obtain⟨B2,m2,c2,rfl⟩:=aT HI2.out
  obtain⟨B3,m3,c3,rfl⟩:=aT HI3.out
  skip
  refine aY (off:=6) HO.out (λW6 jP nY=>?_)
  have HO:=Zh nY
  have HM:=Zh jP
  clear jP nY
  repeat'(first|refine aF ?_|fail)
  refine aY (off:=7) HO.out (λW7 hM7 hB7=>?_)
  have HO:=Zh hB7
  have HM:=Zh (HM.out.mO hM7)
  clear hM7 hB7
  repeat'(first|refine aF ?_|fail)
  refine aY (off:=8) HO.out (λW8 Nq XP=>?_)
  have HO:=Zh XP
  have HM:=Zh (HM.out.mO Nq)
  clear Nq XP
  have o0:=HO.out.cell (k:=0) (by simp)
  have o1:=HO.out.cell (k:=1) (by simp)
  have o2:=HO.out.cell (k:=2) (by simp)
  have o3:=HO.out.cell (k:=3) (by simp)
  have o4:=HO.out.cell (k:=4) (by simp)
  have o5:=HO.out.cell (k:=5) (by simp)
  have o6:=HO.out.cell (k:=6) (by simp)
  have o7:=HO.out.cell (k:=7) (by simp)
  have o8:=HO.out.cell (k:=8) (by simp)
  have aua:=HO.out.lt
  simp[put,Value.cells]at o0 o1 o2 o3 o4 o5 o6 o7 o8
  repeat'(first|refine aF ?_|refine aQ ?_|refine ak (λK hK=>?_)|refine aj ?_|go_step)
  refine aY (off:=0) (HY5.out.aW HM.out (λh=>by omega)) (λW9 Y2 vF=>?_)
  have HY9:=Zh vF
  have HM9:=Zh (bF.trans HM.out Y2 (H:=λk=>k=bo∨k=br) (λ_ _ h=>.inl h) (λ_ _ h=>.inr h))
  clear Y2 vF
  repeat'(first|refine au ?_|refine aC ?_|go_step)
  have qR:s.qH=⟨s.role,s.epoch,s.version,s.flushed,s.high,s.qM,s.isr,s.counts,[s.known 0,s.known 1,s.known 2,s.known 3]⟩:=by unfold aI.qH;rw[if_pos KX]
  have GY:∀ k,W4.heap.size≤k→¬ (k=bo∨k=br):=λk hk h=>by omega
  refine jH (cs:=s.qH.cs (.slice B1 m1 c1) (.slice B2 m2 c2) (.slice B3 m3 c3)) hd ⟨?_,_,_,_,rfl,?_,?_,?_,?_⟩ HY9.out (λk hk=>RZ ?_ hk) Tryz.underlying54
  ·exact aB.bK KY.out HM9.out (λk hk=>by rcases hk with rfl|rfl<;>omega)
  ·rw[qR];exact(HI1.out.rd (enc:=xK) (k:=1) (λ_=>rfl)).aW HM9.out (λk hk=>GY k (HS.out.1 k hk))
  ·rw[qR];exact(HI2.out.rd (enc:=xK) (k:=1) (λ_=>rfl)).aW HM9.out (λk hk=>GY k (HS.out.2.1 k hk))
  ·rw[qR];exact(HI3.out.rd (enc:=xK) (k:=1) (λ_=>rfl)).aW HM9.out (λk hk=>GY k (HS.out.2.2 k hk))
  ·intro k hk
   have ahu:=Vu.out.size
   rcases hk with hk|hk|hk
   ·exact Nat.le_trans ahu (HS.out.1 k hk)
   ·exact Nat.le_trans ahu (HS.out.2.1 k hk)
   ·exact Nat.le_trans ahu (HS.out.2.2 k hk)
  ·rw[qR];refine⟨?_,?_,?_,?_,?_,?_,?_,?_,?_⟩<;>first|rfl|(show Value.int .i64 3=Value.int .i64 s.role;rw[KX])
 ·have KX:s.role≠3:=by simpa using hc
  have iU:aB W (W.ah yn):=yn.ext
  refine aY (off:=0) (HY.out.ah iU) (λW9 Y2 vF=>?_)
  have HY9:=Zh vF
  have HE9:=Zh (aB.bK (Et HE.out iU) Y2 (λk hk=>by subst hk;omega))
  clear Y2 vF
  repeat'(first|refine au ?_|refine aC ?_|go_step)
  have qR:s.qH=⟨s.role,s.epoch,0,s.flushed,s.high,0,[],[],[]⟩:=by unfold aI.qH;rw[if_neg KX]
  refine jH (cs:=s.qH.cs (.slice none 0 0) (.slice none 0 0) (.slice none 0 0)) hd ⟨HE9.out,_,_,_,rfl,?_,?_,?_,?_⟩ HY9.out (λk hk=>RZ ?_ hk) Tryz.underlying54
  ·rw[qR];exact Rd.nil _
  ·rw[qR];exact Rd.nil _
  ·rw[qR];exact Rd.nil _
  ·rintro k (hk|hk|hk)<;>cases hk
  ·rw[qR];refine⟨?_,?_,?_,?_,?_,?_,?_,?_,?_⟩<;>rfl
def pick (l:List cZ) (is:List Int):List cZ:=is.map λi=>l.getD i.toNat default
theorem eG.Vw {w:World} {b:Nat} {uL uI uC:Value} {s s':aI} (h:eG w b uL uI uC s) (hl:s'.log=s.log) (hi:s'.isr=s.isr) (hc:s'.counts=s.counts) (hk:∀ k,k<15→yC s' uL uI uC k=yC s uL uI uC k):eG w b uL uI uC s':=
 ⟨h.gy.congr hk,by rw[hl];exact h.yK,by rw[hi];exact h.ri,by rw[hc];exact h.rc,h.nL,h.nI,h.nC,h.nX⟩
def aI.Fq (s:aI) (v:dL):aI:={s with epoch:=v.epoch,version:=0,qM:=0,isr:=[],counts:=[],known:=λ_=>0,role:=2}
def aI.uZ (s:aI) (v:dL):aI:=({((({s.Fq v with role:=3}):aI).Dp v) with qM:=s.log.length,known:=λ_=> -1}:aI).iT
def aI.learn (s:aI) (v:dL):aI×Int:=
 if v.BN=true then
  if v.epoch<s.epoch then(s,210) else if v.epoch=s.epoch then s.pU v else
   (if v.leader= -1 then{s.Fq v with role:=1} else if v.leader=s.self then s.uZ v else s.Fq v,0)
 else(s,2)
theorem P6 {w:World} {b:Nat} {F0:Nat→Prop} {s:aI} {v:Value} {x:dL} (h:oD w b F0 s) (hs:s.least≠0) (hv:VV w v x) (jm:∀ a b c u,v=.agg #[a,b,c,u]→∀ k,u.ownBlock=some k→x.isr=[]∨¬ F0 k):
  gK Tryz.prog 169 #[.pointer (some ⟨b,0,none⟩),v] w λr w'=>r=.int .i64 (s.learn x).2∧bF F0 w w'∧oD w' b (λk=>F0 k∨w.heap.size≤k) (s.learn x).1:=by
 refine h.abE (R:=λr _=>r=.int .i64 (s.learn x).2) ?_
 intro F h abU RV
 replace jm:∀ a b c u,v=.agg #[a,b,c,u]→∀ k,u.ownBlock=some k→x.isr=[]∨¬ F k:=λa b c u h1 k h2=>(jm a b c u h1 k h2).imp id (λh4 h3=>h4 (abU k h3))
 clear abU
 have FC:=Zh h.yK
 have UG:=Zh RV
 clear RV
 have HP:=Zh h
 have HV:=Zh hv
 obtain⟨uL,uI,uC,h,hf⟩:=h.ex
 have H:=Zh h
 have BA:=Zh hf
 obtain⟨hlt,-,-,-,-,d8,-,d10,d11,d12,-,-⟩:=h.cells
 obtain⟨A1,c1,rfl,-⟩:=h.IU.ent
 have zM:=Zh h.lt
 clear h hf
 obtain⟨u,rfl,hu⟩:=hv
 have HVR:=Zh hu
 have HNE:=Zh (jm _ _ _ _ rfl)
 clear hu jm
 by_cases hm:x.BN=true
 ·have D6:∀ W,aB w W→Pure Tryz.prog 216 #[.agg #[.int .i64 x.leader,.int .i64 x.epoch,.int .i64 x.version,u]] W (.bool true):=λW hE=>hm▸KN (HV.out.ah hE)
  have MAY:=Zh D6
  clear D6
  by_cases h1:x.epoch<s.epoch
  ·have hl:s.learn x=(s,210):=by unfold aI.learn;rw[if_pos hm,if_pos h1]
   rw[hl]
   clear hl
   have h1b:decide (s.epoch≤x.epoch)=false:=by simpa using h1
   refine uh Tryz.func169 rfl (Nat.le_of_ble_eq_true rfl) ?_;intro A hd hA;simp only[ix,Nat.reduceAdd];replace hA:A.tmps.size=83:=hA
   repeat'(first|refine au ?_|refine ak (λK hK=>?_)|refine aj ?_|(refine dI (λx K hK=>?_);go_simp;refine hK _ _ (aB.alloc _ _) ?_;clear hK K;refine aZ x ?_;generalize (World.ah _ x).heap.size=bn;intro yn aU bD bC bG aS;clear x)|go_step)
   refine um (be:=bn) hd hA (λW hE=>by unfold execOp gI;go_simp) ?_;have wL:=Zh (cO.one aS.out);clear hd hA A;intro A hd hA
   repeat'(first|refine aN Tryz.func69 (jK (HP.out.ah (by simp)) hs) ?_|refine aN Tryz.func161 (dZ _) ?_|refine aN Tryz.func216 (MAY.out _ (by simp)) ?_|refine aF ?_|refine au ?_|refine ak (λK hK=>?_)|refine aj ?_|go_step)
   refine Ec [(0,0),(1,0),(2,0),(3,0),(4,0),(5,0),(6,0)] 7 (by kernel_rfl) (by kernel_rfl) ?_
   repeat'(first|refine aF ?_|refine aQ ?_|fail)
   refine mM Tryz.func161 (jD 210) (λc w' hC=>?_)
   obtain⟨rfl,hE⟩:=hC
   refine xW hd (wL.out.ah hE) (λW1 hM=>?_)
   have oQ:=aB.bK (Et (by simp) hE:aB w w') hM (λk hk=>by subst hk;omega)
   exact⟨rfl,oQ.mono (λ_ _ h=>h.elim),(HP.out.ah oQ).mono (λk hk=>.inl hk)⟩
  ·have h1b:decide (s.epoch≤x.epoch)=true:=by simpa using h1
   by_cases h2:x.epoch=s.epoch
   ·have h2b:(x.epoch==s.epoch)=true:=by simp[h2]
    have hl:s.learn x=s.pU x:=by unfold aI.learn;rw[if_pos hm,if_neg h1,if_pos h2]
    rw[hl]
    clear hl h1 h2
    by_cases h3:(s.pU x).2=0
    ·have hbb:fP x.isr=true:=by
      have h4:=hm
      simp only[dL.BN,Bool.and_eq_true]at h4
      exact h4.1.1.2
     refine uh Tryz.func169 rfl (Nat.le_of_ble_eq_true rfl) ?_;intro A hd hA;simp only[ix,Nat.reduceAdd];replace hA:A.tmps.size=83:=hA
     repeat'(first|refine au ?_|refine ak (λK hK=>?_)|refine aj ?_|(refine dI (λx K hK=>?_);go_simp;refine hK _ _ (aB.alloc _ _) ?_;clear hK K;refine aZ x ?_;generalize (World.ah _ x).heap.size=bn;intro yn aU bD bC bG aS;clear x)|go_step)
     refine um (be:=bn) hd hA (λW hE=>by unfold execOp gI;go_simp) ?_;have wL:=Zh (cO.one aS.out);clear hd hA A;intro A hd hA
     repeat'(first|refine aN Tryz.func69 (jK (HP.out.ah (by simp)) hs) ?_|refine aN Tryz.func161 (dZ _) ?_|refine aN Tryz.func216 (MAY.out _ (by simp)) ?_|refine aF ?_|refine au ?_|refine ak (λK hK=>?_)|refine aj ?_|go_step)
     refine dn [(0,0),(1,0),(2,0),(3,0),(4,0),(5,0),(6,0),(7,1)] (by kernel_rfl) (by kernel_rfl) ?_
     repeat'(first|(refine dN Tryz.func161 (λ_=>dZ 210) ?_)|refine aF ?_|refine aQ ?_|refine ak (λK hK=>?_)|go_step)
     refine dA (by kernel_rfl) (by kernel_rfl) ?_
     repeat'(first|refine aF ?_|refine aQ ?_|refine ak (λK hK=>?_)|refine aj ?_|refine bH ?_|go_step)
     refine aX Tryz.func217 (abD (HP.out.ah (by simp)) (HV.out.ah (by simp)) hbb h3) (λr1 w1 hR=>?_)
     have HR:=Zh hR
     clear hR
     repeat'(first|refine au ?_|refine ak (λK hK=>?_)|refine aj ?_|go_step)
     refine aY (off:=0) (wL.out.aW HR.out.1 (λhk=>by have:=UG.out _ hk;omega)) (λW1 fM nU=>?_)
     have jO:=Zh nU
     have EO:=Zh fM
     clear nU fM
     repeat'(first|refine au ?_|refine aC ?_|go_step)
     refine zJ hd (jO.out.congr (g':=λ_=>.int .i64 0) (λk hk=>by obtain rfl:k=0:=(by omega);rfl)) ⟨by rw[h3],?_,?_⟩
     ·exact bF.trans (bF.trans (by simp:aB w _) HR.out.1 (λ_ _ h=>h.elim) (λ_ _ h=>h)) EO.out (λ_ _ h=>h) (λk hk h=>by subst h;omega)
     ·refine(HR.out.2.aW EO.out (λk hk h=>?_)).mono (λk hk=>hk.imp id (λh=>by omega))
      subst h
      rcases hk with hk|hk
      ·have:=UG.out _ hk;omega
      ·omega
    ·obtain⟨Yf,-⟩:=RH HP.out HV.out h3
     rw[Yf]
     refine uh Tryz.func169 rfl (Nat.le_of_ble_eq_true rfl) ?_;intro A hd hA;simp only[ix,Nat.reduceAdd];replace hA:A.tmps.size=83:=hA
     repeat'(first|refine au ?_|refine ak (λK hK=>?_)|refine aj ?_|(refine dI (λx K hK=>?_);go_simp;refine hK _ _ (aB.alloc _ _) ?_;clear hK K;refine aZ x ?_;generalize (World.ah _ x).heap.size=bn;intro yn aU bD bC bG aS;clear x)|go_step)
     refine um (be:=bn) hd hA (λW hE=>by unfold execOp gI;go_simp) ?_;have wL:=Zh (cO.one aS.out);clear hd hA A;intro A hd hA
     repeat'(first|refine aN Tryz.func69 (jK (HP.out.ah (by simp)) hs) ?_|refine aN Tryz.func161 (dZ _) ?_|refine aN Tryz.func216 (MAY.out _ (by simp)) ?_|refine aF ?_|refine au ?_|refine ak (λK hK=>?_)|refine aj ?_|go_step)
     refine dn [(0,0),(1,0),(2,0),(3,0),(4,0),(5,0),(6,0),(7,1)] (by kernel_rfl) (by kernel_rfl) ?_
     repeat'(first|(refine dN Tryz.func161 (λ_=>dZ 210) ?_)|refine aF ?_|refine aQ ?_|refine ak (λK hK=>?_)|go_step)
     refine dA (by kernel_rfl) (by kernel_rfl) ?_
     repeat'(first|refine aF ?_|refine aQ ?_|refine ak (λK hK=>?_)|refine aj ?_|refine bH ?_|go_step)
     refine AZ Tryz.func217 (RH (HP.out.ah (by simp)) (HV.out.ah (by simp)) h3).2 (λc w' hC=>?_)
     obtain⟨rfl,hE⟩:=hC
     refine xW hd (wL.out.ah hE) (λW1 hM=>?_)
     have oQ:=aB.bK (Et (by simp) hE:aB w w') hM (λk hk=>by subst hk;omega)
     exact⟨rfl,oQ.mono (λ_ _ h=>h.elim),(HP.out.ah oQ).mono (λk hk=>.inl hk)⟩
   ·have h2b:(x.epoch==s.epoch)=false:=beq_false_of_ne h2
    have hl:s.learn x=(if x.leader= -1 then{s.Fq x with role:=1} else if x.leader=s.self then s.uZ x else s.Fq x,0):=by unfold aI.learn;rw[if_pos hm,if_neg h1,if_neg h2]
    rw[hl]
    clear hl h1 h2
    have hbb:fP x.isr=true:=by
     have h4:=hm
     simp only[dL.BN,Bool.and_eq_true]at h4
     exact h4.1.1.2
    refine uh Tryz.func169 rfl (Nat.le_of_ble_eq_true rfl) ?_;intro A hd hA;simp only[ix,Nat.reduceAdd];replace hA:A.tmps.size=83:=hA
    repeat'(first|refine au ?_|refine ak (λK hK=>?_)|refine aj ?_|(refine dI (λx K hK=>?_);go_simp;refine hK _ _ (aB.alloc _ _) ?_;clear hK K;refine aZ x ?_;generalize (World.ah _ x).heap.size=bn;intro yn aU bD bC bG aS;clear x)|go_step)
    rename_i bv yv p1 p2 p3 p4 p5
    refine um (be:=bn) hd hA (λW hE=>by unfold execOp gI;go_simp) ?_;have wL:=Zh (cO.one aS.out);clear hd hA A;intro A hd hA
    repeat'(first|refine aN Tryz.func69 (jK (HP.out.ah (by simp)) hs) ?_|refine aN Tryz.func161 (dZ _) ?_|refine aN Tryz.func216 (MAY.out _ (by simp)) ?_|refine aF ?_|refine au ?_|refine ak (λK hK=>?_)|refine aj ?_|go_step)
    refine dn [(0,0),(1,0),(2,0),(3,0),(4,0),(5,0),(6,0),(7,1)] (by kernel_rfl) (by kernel_rfl) ?_
    repeat'(first|(refine dN Tryz.func161 (λ_=>dZ 210) ?_)|refine aF ?_|refine aQ ?_|refine ak (λK hK=>?_)|go_step)
    refine dA (by kernel_rfl) (by kernel_rfl) ?_
    repeat'(first|refine aF ?_|refine aQ ?_|refine ak (λK hK=>?_)|refine aj ?_|refine aG ?_|refine bJ ?_|go_step)
    refine aY (off:=11) (H.out.ah (by simp)).gy (λW1 fM nU=>?_)
    have Kv:=Zh ((H.out.ah (by simp)).abC fM nU)
    repeat'(first|refine aF ?_|fail)
    refine aY (off:=0) Kv.out.gy (λW2 kL Fh=>?_)
    have HA2:=Zh (Kv.out.XK kL Fh)
    repeat'(first|refine aF ?_|fail)
    refine aY (off:=10) HA2.out.gy (λW3 jd ru=>?_)
    have Oo:Hid (eG W3 b (.slice A1 s.log.length c1) (.slice none 0 0) (.slice none 0 0) (s.Fq x)):=Zh (HA2.out.F6 jd ru)
    have HM:=Zh (bF.trans (bF.trans fM kL (λ_ _ h=>h) (λ_ _ h=>h)) jd (λ_ _ h=>h) (λ_ _ h=>h):bF (· =b) _ W3)
    clear fM kL jd nU Fh ru
    clear Kv HA2
    have hx:aB w ((w.ah yv).ah yn):=by simp
    have p2':bv<((w.ah yv).ah yn).heap.size:=Nat.lt_of_lt_of_le p2 yn.2.size
    have q3:=λk=>(bI HM.out (o:=k) p2' (λh=>by omega)).trans ((bI yn.2 (o:=k) p2 (λh=>h)).trans (p3 k))
    have abV:=Zh (wL.out.aW HM.out (λh=>by omega))
    have ahv:bv<W3.heap.size:=Nat.lt_of_lt_of_le p2' HM.out.size
    have yM:∀ k,Rt b (.slice A1 s.log.length c1) (.slice none 0 0) (.slice none 0 0) k→F k:=by
     rintro k (hk|hk|hk|hk)
     ·exact BA.out k (.inl hk)
     ·exact BA.out k (.inr (.inl hk))
     ·cases hk
     ·cases hk
    have QT:=Zh yM
    have HM0:Hid (bF (· =b) w W3):=Zh (bF.trans hx HM.out (λ_ _ h=>h.elim) (λ_ _ h=>h))
    have hb3:b<W3.heap.size:=Oo.out.gy.lt
    have hds:W3.cell? ⟨b,8,none⟩=some (.int .i64 s.self):=Oo.out.cells.2.2.2.2.2.1
    have O8:W3.cell? ⟨b,12,none⟩=some (.slice A1 s.log.length c1):=Oo.out.cells.2.2.2.2.2.2.2.2.2.1
    have hws:=HM.out.size
    have abN:w.heap.size<bn:=by omega
    have aod:bv≠bn:=by omega
    clear yM p3 p2 p2' wL bD bC bG aS p4 p5
    by_cases h4:x.leader= -1
    ·have h4b:(x.leader== -1)=true:=by simp[h4]
     have H4:=Zh h4
     clear h4
     repeat'(first|refine aF ?_|refine au ?_|refine ak (λK hK=>?_)|refine aj ?_|refine aJ ?_|refine bH ?_|go_step)
     refine aY (off:=10) Oo.out.gy (λW4 wO FK=>?_)
     have QK:=Zh (Oo.out.F6 wO FK)
     have xO:=Zh wO
     clear wO FK
     repeat'(first|refine au ?_|refine ak (λK hK=>?_)|refine aj ?_|go_step)
     refine aY (off:=0) (abV.out.aW xO.out (λhk=>by omega)) (λW5 kJ pX=>?_)
     have FD:=Zh pX
     have uo:=Zh kJ
     clear kJ pX
     repeat'(first|refine au ?_|refine aC ?_|go_step)
     refine zJ hd (FD.out.congr (g':=λ_=>.int .i64 0) (λk hk=>by obtain rfl:k=0:=(by omega);rfl)) ⟨rfl,?_,?_⟩
     ·exact bF.trans (bF.trans HM0.out xO.out (λ_ _ h=>h) (λ_ _ h=>h)) uo.out (λk _ h=>by subst h;exact FC.out) (λk hk h=>by subst h;omega)
     ·rw[if_pos H4.out]
      exact⟨_,_,_,QK.out.aW uo.out (λk hk he=>by subst he;have:=UG.out _ (QT.out _ hk);omega),λk hk=>.inl (QT.out k hk)⟩
    ·have h4b:(x.leader== -1)=false:=beq_false_of_ne h4
     have H4:=Zh h4
     clear h4
     by_cases h5:x.leader=s.self
     ·have h5b:(x.leader==s.self)=true:=by simp[h5]
      have H5:=Zh h5
      clear h5
      repeat'(first|refine aF ?_|refine au ?_|refine ak (λK hK=>?_)|refine aj ?_|refine aJ ?_|refine bH ?_|refine bJ ?_|go_step)
      refine aY (off:=10) Oo.out.gy (λW4 wO FK=>?_)
      have QK:=Zh (Oo.out.F6 wO FK)
      have xO:=Zh wO
      clear wO FK
      have q4:=λk=>(bI xO.out (o:=k) ahv (λh=>by omega)).trans (q3 k)
      have auc:bv<W4.heap.size:=Nat.lt_of_lt_of_le ahv xO.out.size
      have HR4:Hid (oD W4 b F ({s.Fq x with role:=3}:aI)):=Zh ⟨_,_,_,QK.out,QT.out⟩
      have fD:bF (· =b) w W4:=bF.trans HM0.out xO.out (λ_ _ h=>h) (λ_ _ h=>h)
      have Vu:=Zh fD
      have hVV:VV W4 (.agg #[.int .i64 x.leader,.int .i64 x.epoch,.int .i64 x.version,u]) x:=⟨u,rfl,HVR.out.ajR fD (λk hk=>(HNE.out k hk).imp id (λh4 he=>h4 (by subst he;exact FC.out)))⟩
      have HVV:=Zh hVV
      clear fD hVV
      repeat'(first|refine aF ?_|refine au ?_|refine ak (λK hK=>?_)|refine aj ?_|go_step)
      refine aX Tryz.func218 (IJ HR4.out HVV.out (by have:=qj hbb;omega)) (λr5 W5 hR=>?_)
      have HR5:=Zh hR
      clear hR
      have hQ:=HR5.out.2
      generalize hq:((({s.Fq x with role:=3}:aI)).Dp x)=q at hQ
      have hql:q.log=s.log:=by rw[←hq];rfl
      have hqs:q.self=s.self:=by rw[←hq];rfl
      have hqc:q.counts=x.isr:=by rw[←hq];rfl
      have HQ:=Zh hq
      obtain⟨uL5,uI5,uC5,hQ,hf5⟩:=hQ.ex
      obtain⟨abQ,-,-,-,-,-,-,-,-,e12,-,-⟩:=hQ.cells
      obtain⟨A5,c5,rfl,-⟩:=hQ.IU.ent
      have H5':=Zh hQ
      have MS:=Zh hf5
      clear hQ hf5 hq
      have hz5:=HR5.out.1.size
      repeat'(first|refine aF ?_|refine au ?_|refine ak (λK hK=>?_)|refine aj ?_|go_step)
      refine aY (off:=1) H5'.out.gy (λW6 jP nY=>?_)
      have H6:=Zh (H5'.out.ahc jP nY)
      have Jv:=Zh jP
      clear jP nY
      repeat'(first|refine aF ?_|refine au ?_|refine ak (λK hK=>?_)|refine aj ?_|refine aJ ?_|go_step)
      refine dJ [0,4,71] (λn vs w'=>∃ k:Nat,bF (· =b) W6 w'∧k+n=4∧vs=[.pointer (some ⟨b,0,none⟩),.pointer (some ⟨bn,0,none⟩),.int .i64 k]∧eG w' b (.slice A5 q.log.length c5) uI5 uC5 {q with qM:=q.log.length,known:=λj=>if j<k then-1 else 0}) 4 hd hA (by decide) ⟨0,bF.refl _ _,rfl,by simp,by
       refine H6.out.Vw rfl rfl rfl (tK ?_)
       subst HQ
       refine⟨?_,?_,?_,?_,?_,?_,?_,?_,?_,?_,?_,?_,?_,?_,?_⟩<;>rfl⟩ ?_
      clear hd hA A;intro n vs A W7 hd hA _ ⟨k,hw,hk,jk,hm⟩;subst jk
      have Vt:=Zh hw
      have H7:=Zh hm
      have hb7:=hm.gy.lt
      clear hw hm
      simp only[List.zip_cons_cons,List.zip_nil_right,List.zip_nil_left]
      by_cases hk4:k<4
      ·have auf:(k:Int)<4:=by omega
       repeat'(first|refine aF ?_|refine au ?_|refine ak (λK hK=>?_)|refine aj ?_|refine aG ?_|refine aJ ?_|refine bH ?_|go_step)
       refine aY (off:=4+k) H7.out.gy (λW8 Nq XP=>?_)
       have H8:=Zh (H7.out.RG hk4 Nq XP)
       have HM8:=Zh (bF.trans Vt.out Nq (λ_ _ h=>h) (λ_ _ h=>h):bF (· =b) W6 W8)
       clear Nq XP
       repeat'(first|refine aF ?_|refine au ?_|refine aj ?_|go_step)
       refine⟨_,_,rfl,hd,hA,n-1,by omega,k+1,HM8.out,by omega,by simp,?_⟩
       refine H8.out.Vw rfl rfl rfl (tK ?_)
       refine⟨rfl,rfl,rfl,rfl,?_,?_,?_,?_,rfl,rfl,rfl,rfl,rfl,rfl,rfl⟩<;>(simp only[yC,EM];congr 1;repeat' split<;>first|rfl|omega)
      ·obtain rfl:k=4:=by omega
       have hHR:oD W7 b (λk=>F k∨W4.heap.size≤k) {q with qM:=s.log.length,known:=λ_=> -1}:=by
        refine⟨_,_,_,H7.out.Vw (s':={q with qM:=s.log.length,known:=λ_=> -1}) rfl rfl rfl (tK ?_),MS.out⟩
        rw[hql]
        refine⟨?_,?_,?_,?_,?_,?_,?_,?_,?_,?_,?_,?_,?_,?_,?_⟩<;>rfl
       have HHR:=Zh hHR
       clear hHR
       repeat'(first|refine aF ?_|refine au ?_|refine ak (λK hK=>?_)|refine aj ?_|refine dS ?_|refine bJ ?_|go_step)
       refine aX Tryz.func163 (xY HHR.out (by rw[show ({q with qM:=s.log.length,known:=λ_=> -1}:aI).counts=x.isr from hqc];exact nN hbb)) (λr9 W9 hR=>?_)
       have HR9:=Zh hR
       clear hR
       have auh:=abV.out.lt
       have hz4:=xO.out.size
       have ahw:¬ F bn:=λh=>by have:=UG.out _ h;omega
       have aks:cO W9 bn _ 1 _:=((((abV.out.aW xO.out (λh=>by omega)).aW HR5.out.1 ahw).aW Jv.out (λh=>by omega)).aW Vt.out (λh=>by omega)).aW HR9.out.1 (λh=>h.elim ahw (λh=>by omega))
       have hw9:bF F w W9:=by
        have g1:bF F w W4:=Vu.out.mono (λk _ h=>by subst h;exact FC.out)
        have g2:=bF.trans g1 HR5.out.1 (λ_ _ h=>h) (λ_ _ h=>h)
        have g3:=bF.trans g2 Jv.out (λ_ _ h=>h) (λk _ h=>by subst h;exact FC.out)
        have g4:=bF.trans g3 Vt.out (λ_ _ h=>h) (λk _ h=>by subst h;exact FC.out)
        exact bF.trans g4 HR9.out.1 (λ_ _ h=>h) (λk hk h=>h.elim id (λh=>by omega))
       have ahs:=Zh aks
       have HW9:=Zh hw9
       clear aks hw9
       repeat'(first|refine au ?_|refine ak (λK hK=>?_)|refine aj ?_|go_step)
       refine aY (off:=0) ahs.out (λW10 akt aku=>?_)
       have jV:=Zh aku
       have akv:=Zh akt
       clear akt aku
       repeat'(first|refine au ?_|refine aC ?_|go_step)
       refine zJ hd (jV.out.congr (g':=λ_=>.int .i64 0) (λk hk=>by obtain rfl:k=0:=(by omega);rfl)) ⟨rfl,?_,?_⟩
       ·exact bF.trans HW9.out akv.out (λk _ h=>h) (λk hk h=>by subst h;omega)
       ·rw[if_neg H4.out,if_pos H5.out]
        refine oD.mono (G:=λk=>F k∨w.heap.size≤k) (oD.aW (F:=λk=>F k∨W4.heap.size≤k) ?_ akv.out (λk hk h=>by subst h;exact hk.elim ahw (λh=>by omega))) (λk hk=>hk.imp id (λh=>by omega))
        have:=HR9.out.2
        subst HQ
        exact this
     ·have h5b:(x.leader==s.self)=false:=beq_false_of_ne h5
      have H5:=Zh h5
      clear h5
      repeat'(first|refine aF ?_|refine au ?_|refine ak (λK hK=>?_)|refine aj ?_|refine aG ?_|refine aJ ?_|refine bJ ?_|go_step)
      refine aY (off:=0) abV.out (λW5 kJ pX=>?_)
      have FD:=Zh pX
      have uo:=Zh kJ
      clear kJ pX
      repeat'(first|refine au ?_|refine aC ?_|go_step)
      refine zJ hd (FD.out.congr (g':=λ_=>.int .i64 0) (λk hk=>by obtain rfl:k=0:=(by omega);rfl)) ⟨rfl,?_,?_⟩
      ·exact bF.trans HM0.out uo.out (λk _ h=>by subst h;exact FC.out) (λk hk h=>by subst h;omega)
      ·rw[if_neg H4.out,if_neg H5.out]
       exact⟨_,_,_,Oo.out.aW uo.out (λk hk he=>by subst he;have:=UG.out _ (QT.out _ hk);omega),λk hk=>.inl (QT.out k hk)⟩
 ·have hmf:x.BN=false:=by simpa using hm
  have hl:s.learn x=(s,2):=by unfold aI.learn;rw[if_neg hm]
  rw[hl]
  clear hl
  refine uh Tryz.func169 rfl (Nat.le_of_ble_eq_true rfl) ?_;intro A hd hA;simp only[ix,Nat.reduceAdd];replace hA:A.tmps.size=83:=hA
  repeat'(first|refine au ?_|refine ak (λK hK=>?_)|refine aj ?_|(refine dI (λx K hK=>?_);go_simp;refine hK _ _ (aB.alloc _ _) ?_;clear hK K;refine aZ x ?_;generalize (World.ah _ x).heap.size=bn;intro yn aU bD bC bG aS;clear x)|go_step)
  refine um (be:=bn) hd hA (λW hE=>by unfold execOp gI;go_simp) ?_;have wL:=Zh (cO.one aS.out);clear hd hA A;intro A hd hA
  repeat'(first|refine aN Tryz.func69 (jK (HP.out.ah (by simp)) hs) ?_|refine aN Tryz.func161 (dZ _) ?_|refine aN Tryz.func216 (hmf▸KN (HV.out.ah (by simp))) ?_|refine aF ?_|refine au ?_|refine ak (λK hK=>?_)|refine aj ?_|go_step)
  refine AZ Tryz.func161 (jD 2) (λc w' hC=>?_)
  obtain⟨rfl,hE⟩:=hC
  refine xW hd (wL.out.ah hE) (λW1 hM=>?_)
  have oQ:=aB.bK (Et (by simp) hE:aB w w') hM (λk hk=>by subst hk;omega)
  exact⟨rfl,oQ.mono (λ_ _ h=>h.elim),(HP.out.ah oQ).mono (λk hk=>.inl hk)⟩
theorem Ej {l:List cZ} {e:cZ}:bY l e=0↔fJ e=true∧l.length<4096∧vk l e=false:=by
 unfold bY
 constructor
 ·intro h
  split at h
  ·cases h
  ·rename_i h1
   split at h
   ·cases h
   ·rename_i h2
    split at h
    ·cases h
    ·rename_i h3
     exact⟨by simpa using h1,by omega,by simpa using h3⟩
 ·rintro⟨h1,h2,h3⟩
  rw[if_neg (by simp[h1]),if_neg (by omega),if_neg (by simp[h3])]
theorem KZ {l:List cZ} {e:cZ}:wP (l++[e])=0↔wP l=0∧bY l e=0:=by
 have key:wP l=0→wP (l++[e])=if bY l e=0 then 0 else bY l e:=λh=>by
  unfold wP at *
  rw[Ed l [e] [] h]
  simp[oz]
 constructor
 ·intro h
  have h1:wP l=0:=by have:=Hw h l.length;simpa using this
  rw[key h1]at h
  refine⟨h1,?_⟩
  split at h
  ·assumption
  ·exact h
 ·rintro⟨h,h2⟩
  rw[key h,if_pos h2]
theorem Gi (e:cZ):∀ (l:List cZ) (p:Int),iI p (l++[e])=(iI p l&&decide ((l.getLast?.map (·.ep)).getD p≤e.ep)&&decide (e.ep≤2147483647))
 | [],p=>by simp only[List.nil_append,iI,Bool.and_true,Bool.true_and];rfl
 | x::xs,p=>by
  rw[List.cons_append,lQ,lQ,Gi e xs x.ep]
  have:((x::xs).getLast?.map (·.ep)).getD p=(xs.getLast?.map (·.ep)).getD x.ep:=by
   cases xs with
   | nil=>rfl
   | cons y ys=>rw[List.getLast?_cons_cons];cases h:(y::ys).getLast? with
    | none=>simp at h
    | some z=>rfl
  rw[this]
  simp only[Bool.and_assoc]
theorem abX {α:Type} {P:List α→Prop} (h0:P []) (h1:∀ l e,P l→P (l++[e])) (l:List α):P l:=by
 have key:∀ r:List α,P r.reverse:=by
  intro r
  induction r with
  | nil=>exact h0
  | cons x r ih=>rw[List.reverse_cons];exact h1 _ _ ih
 have:=key l.reverse
 rwa [List.reverse_reverse]at this
theorem Si:∀ (l:List cZ),wP l=0→(∀e∈l,fJ e=true)∧iI 1 l=true∧l.length≤4096:=by
 refine abX ?_ ?_
 ·intro _;exact⟨by simp,rfl,by simp⟩
 ·intro l e ih h
  obtain⟨h1,h2⟩:=KZ.1 h
  obtain⟨i1,i2,i3⟩:=ih h1
  obtain⟨a1,a2,a3⟩:=Ej.1 h2
  refine⟨?_,?_,by simp;omega⟩
  ·intro x hx
   rw[List.mem_append,List.mem_singleton]at hx
   rcases hx with hx|rfl
   ·exact i1 x hx
   ·exact a1
  ·rw[Gi,i2,Bool.true_and,Bool.and_eq_true,decide_eq_true_eq,decide_eq_true_eq]
   have hr:=a1
   simp only[fJ,Bool.and_eq_true]at hr
   have UH:=hr.1.1.1.1.1.1.1.1.1
   simp only[rZ,Bool.and_eq_true,decide_eq_true_eq]at UH
   refine⟨?_,UH.2⟩
   unfold vk at a3
   cases hl:l.getLast? with
   | none=>simp;exact UH.1
   | some x=>rw[hl]at a3;simp at a3;simpa using a3
theorem abY {l:List cZ} (h:wP l=0):vZ l=true:=by
 obtain⟨h1,h2,h3⟩:=Si l h
 unfold vZ
 rw[h2,Bool.true_and,decide_eq_true_eq];omega
theorem abZ {l:List cZ} (h:wP l=0):l.length≤4096:=(Si l h).2.2
theorem La (l:List cZ) (e:cZ):gZ (l++[e])=e.ep:=by unfold gZ;simp
theorem Y4 {l:List cZ} {e:cZ} (h0:1≤e.ep):vk l e=decide (e.ep<gZ l):=by
 unfold vk gZ
 cases l.getLast? with
 | none=>simp;omega
 | some x=>rfl
theorem Y5 {e:cZ} (h:fJ e=true):1≤e.ep∧e.ep≤2147483647:=by
 simp only[fJ,Bool.and_eq_true]at h
 have UH:=h.1.1.1.1.1.1.1.1.1
 simp only[rZ,Bool.and_eq_true,decide_eq_true_eq]at UH
 exact UH
theorem Oy:∀ (es:List cZ) (l:List cZ),wP l=0→uT (gZ l) es=true→l.length+es.length≤4096→wP (l++es)=0
 | [],l,h,_,_=>by simpa using h
 | x::xs,l,h,he,hl=>by
  rw[Ei]at he
  simp only[Bool.and_eq_true,decide_eq_true_eq]at he
  obtain⟨⟨h1,h2⟩,h3⟩:=he
  simp only[List.length_cons]at hl
  have hx:bY l x=0:=Ej.2 ⟨h2,by omega,by rw[Y4 (Y5 h2).1];simp;omega⟩
  have:=Oy xs (l++[x]) (KZ.2 ⟨h,hx⟩) (by rw[La];exact h3) (by simp;omega)
  simpa using this
structure aI.dH (s:aI):Prop where
 ok:wP s.log=0
 self:rZ s.self 0 3=true
 least:rZ s.least 1 4=true
 role:s.role=1∨s.role=2∨s.role=3
 epoch:0≤s.epoch∧s.epoch≤2147483647
 fl:0≤s.flushed∧s.flushed≤s.log.length
 hi:0≤s.high∧s.high≤s.log.length
 isr:fP s.isr=true
 Y6:fP s.counts=true
theorem aI.dH.BN {s:aI} (h:s.dH):vZ s.log=true:=abY h.ok
theorem aI.dH.len {s:aI} (h:s.dH):s.log.length≤4096:=abZ h.ok
theorem aI.dH.ne {s:aI} (h:s.dH):s.least≠0:=by have:=h.least;simp[rZ]at this;omega
theorem aI.dH.bks {s:aI} (h:s.dH):Bks s.counts:=nN h.Y6
theorem aI.dH.NY {s:aI} (h:s.dH):s.isr.length≤4∧s.counts.length≤4:=⟨qj h.isr,qj h.Y6⟩
theorem Y7 {self least:Int} (h:pF self least=true):(aI.lI self least).dH:=by
 simp only[pF,Bool.and_eq_true]at h
 exact⟨rfl,h.1,h.2,.inl rfl,by simp[aI.lI],by simp[aI.lI],by simp[aI.lI],rfl,rfl⟩
theorem EP (self:Int) (known:Nat→Int) (l:List Int):∀ n:Int,oN self known l n≤n:=by
 induction l with
 | nil=>intro n;exact Int.le_refl _
 | cons b l ih=>
  intro n
  unfold oN at *
  rw[List.foldl_cons]
  refine Int.le_trans (ih _) ?_
  split
  ·exact Int.le_refl _
  ·rw[jE];omega
theorem Vx (s:aI):s.high≤s.iT.high∧(s.iT.high≤s.high∨s.iT.high≤s.flushed):=by
 unfold aI.iT
 split
 ·have:=EP s.self s.known s.counts s.flushed
  simp only[nO]
  omega
 ·exact⟨Int.le_refl _,.inl (Int.le_refl _)⟩
theorem Oz (s:aI):s.iT.isr=s.isr∧s.iT.counts=s.counts∧s.iT.version=s.version∧s.iT.qM=s.qM∧s.iT.known=s.known:=by unfold aI.iT;split<;>exact⟨rfl,rfl,rfl,rfl,rfl⟩
theorem wR {s:aI} (h:s.dH):s.iT.dH:=by
 obtain⟨a1,a2,a3,a4,a5,a6⟩:=Hy s
 obtain⟨b1,b2,-⟩:=Oz s
 obtain⟨c1,c2⟩:=Vx s
 have h1:=h.hi
 have h2:=h.fl
 refine⟨by rw[a1];exact h.ok,by rw[a3];exact h.self,by rw[a4];exact h.least,by rw[a6];exact h.role,by rw[a2];exact h.epoch,by rw[a5,a1];exact h.fl,?_,by rw[b1];exact h.isr,by rw[b2];exact h.Y6⟩
 rw[a1]
 rcases c2 with c2|c2<;>omega
theorem Vy {s:aI} (h:s.dH):s.flush.dH:=by
 unfold aI.flush
 exact wR ⟨h.ok,h.self,h.least,h.role,h.epoch,⟨by simp,by simp⟩,h.hi,h.isr,h.Y6⟩
theorem ab1 {s:aI} (h:s.dH) (e:cZ):(s.app e).dH:=by
 unfold aI.app
 split
 ·rename_i h0
  have hc:mG s.log (s.xG e)=0:=by
   unfold aI.oI at h0
   split at h0
   ·cases h0
   ·split at h0
    ·cases h0
    ·split at h0
     ·cases h0
     ·split at h0
      ·rename_i hc;exact absurd h0 hc
      ·rename_i hc;simpa using hc
  have ha:bY s.log (s.xG e)=0:=by
   unfold mG at hc
   by_cases ha:bY s.log (s.xG e)=0
   ·exact ha
   ·rw[if_pos ha]at hc;exact hc
  have hf:=h.fl
  have hh:=h.hi
  exact⟨KZ.2 ⟨h.ok,ha⟩,h.self,h.least,h.role,h.epoch,by simp;omega,by simp;omega,h.isr,h.Y6⟩
 ·exact h
theorem Vz {s:aI} (h:s.dH) (f:pW) (most:Int):(s.serve f most).dH:=by
 unfold aI.serve
 split
 ·exact h
 ·split
  ·exact wR ⟨h.ok,h.self,h.least,h.role,h.epoch,h.fl,h.hi,h.isr,h.Y6⟩
  ·exact h
theorem Y8 {s:aI} (h:s.dH) (p:iM):(s.take p).dH:=by
 have hf:=h.fl
 have hh:=h.hi
 unfold aI.take
 split
 ·exact h
 ·rename_i h0
  have h0:s.lD p=0:=by simpa using h0
  split
  ·have hc:0≤s.tZ p∧s.tZ p≤s.log.length:=by
    unfold aI.tZ
    rw[nO,jE]
    have hab:dO s.log p.jv≤s.log.length:=by unfold dO;exact(List.takeWhile_sublist _).length_le
    omega
   refine⟨Hw h.ok _,h.self,h.least,h.role,h.epoch,?_,?_,h.isr,h.Y6⟩
   ·simp only[List.length_take,jE];omega
   ·simp only[List.length_take,jE];omega
  ·rename_i awe
   unfold aI.lD at h0
   split at h0
   ·cases h0
   ·rename_i hr
    split at h0
    ·cases h0
    ·split at h0
     ·cases h0
     ·rename_i tH
      split at h0
      ·cases h0
      ·rename_i iR
       have hr:p.right=true:=by simpa using hr
       have tH:s.zS p=true:=by simpa using tH
       simp only[iM.right,Bool.and_eq_true]at hr
       simp only[aI.zS,Bool.and_eq_true,beq_iff_eq]at tH
       have he:=hr.1.1.1.1.1.1
       rw[tH.2]at he
       refine⟨Oy _ _ h.ok he (by omega),h.self,h.least,h.role,h.epoch,by simp;omega,?_,h.isr,h.Y6⟩
       simp only[List.length_append,nO,jE];omega
theorem VA {s:aI} (h:s.dH) {v:dL} (hv:v.BN=true):(s.Dp v).dH:=by
 have hb:fP v.isr=true:=by simp only[dL.BN,Bool.and_eq_true]at hv;exact hv.1.1.2
 exact⟨h.ok,h.self,h.least,h.role,h.epoch,h.fl,h.hi,hb,hb⟩
theorem VB {s:aI} (h:s.dH) (v:dL):(s.learn v).1.dH:=by
 unfold aI.learn
 split
 ·rename_i hv
  have FI:=hv
  simp only[dL.BN,Bool.and_eq_true]at FI
  have hve:=FI.1.1.1.1.2
  simp only[rZ,Bool.and_eq_true,decide_eq_true_eq]at hve
  have hb:=FI.1.1.2
  have adx:(s.Fq v).dH:=⟨h.ok,h.self,h.least,.inr (.inl rfl),hve,h.fl,h.hi,rfl,rfl⟩
  split
  ·exact h
  ·split
   ·unfold aI.pU
    split
    ·split
     ·exact wR (VA h hv)
     ·exact h
    ·split
     ·split
      ·exact⟨h.ok,h.self,h.least,.inr (.inl rfl),h.epoch,h.fl,h.hi,h.isr,h.Y6⟩
      ·exact h
     ·exact h
   ·simp only
    split
    ·exact⟨h.ok,h.self,h.least,.inl rfl,hve,h.fl,h.hi,rfl,rfl⟩
    ·split
     ·unfold aI.uZ
      exact wR ⟨h.ok,h.self,h.least,.inr (.inr rfl),hve,h.fl,h.hi,hb,hb⟩
     ·exact adx
 ·exact h
theorem VE {s:aI} (h:s.dH) (dY:Int):(s.crash dY).1.dH:=by
 have hf:=h.fl
 have hh:=h.hi
 unfold aI.crash
 split
 ·exact h
 ·refine⟨Hw h.ok _,h.self,h.least,.inl rfl,h.epoch,?_,?_,rfl,rfl⟩
  ·simp only[List.length_take,jE];omega
  ·simp only[List.length_take,jE];omega
structure gB where
 aK:Int
 parts:Int
 ids:Int
 deriving DecidableEq,Inhabited
structure bW where
 session:Int
 num:Int
 state:Int
 parts:List Int
 offset:Int
 next:Int
 deriving DecidableEq,Inhabited
structure aH where
 form:gB
 lives:List Bool
 views:List dL
 eY:List bW
abbrev bQ:Int:=2147483647
def gB.right (f:gB):Bool:=rZ f.aK 1 4&&rZ f.parts 1 4&&rZ f.ids 1 4
def qU (n:Int):List Int:=(List.range n.toNat).map Int.ofNat
def dL.zero:dL:=⟨-1,0,0,[]⟩
def bW.zero:bW:=⟨0,0,1,[],0,0⟩
def aH.new (f:gB):aH:=⟨f,List.replicate f.aK.toNat true,List.replicate f.parts.toNat ⟨-1,0,0,qU f.aK⟩,List.replicate f.ids.toNat bW.zero⟩
namespace aH
variable (m : aH)
def aV (b:Int):Bool:=decide (0≤b)&&decide (b<m.form.aK)
def part (p:Int):Bool:=decide (0≤p)&&decide (p<m.form.parts)
def id (n:Int):Bool:=decide (0≤n)&&decide (n<m.form.ids)
def sG (b:Int):Bool:=m.lives.getD b.toNat false
def view (p:Int):dL:=m.views.getD p.toNat dL.zero
def ay (i:Int):bW:=m.eY.getD i.toNat bW.zero
def nP (p:Int) (v:dL):aH:={m with views:=m.views.set p.toNat v}
def kC (i:Int) (w:bW):aH:={m with eY:=m.eY.set i.toNat w}
def qo (b:Int) (is:Bool):aH:={m with lives:=m.lives.set b.toNat is}
def oJ (p b:Int) (unclean:Bool):Int:=
 if(m.part p&&m.aV b)=false then 2 else if m.sG b=false then 201 else if(unclean||decide (b∈(m.view p).isr))=false then 202
 else if bQ≤(m.view p).epoch∨bQ≤(m.view p).version then 204 else 0
def qp (p b:Int):dL:=⟨b,(m.view p).epoch+1,(m.view p).version+1,if b∈(m.view p).isr then(m.view p).isr else [b]⟩
def oK (p b:Int) (unclean:Bool):aH:=if m.oJ p b unclean=0 then m.nP p (m.qp p b) else m
def fenced (b:Int) (v:dL):Option dL:=
 let leads:=v.leader==b
 let leaves:=decide (b∈v.isr)&&decide (1<v.isr.length)
 if(leads||leaves)=false then some v else
 if bQ≤v.version∨leads=true∧bQ≤v.epoch then none else
 some ⟨if leads then-1 else v.leader,if leads then v.epoch+1 else v.epoch,v.version+1,if leaves then v.isr.filter (· ≠b) else v.isr⟩
def iV (b:Int):Int:=if m.aV b=false then 2 else if m.views.all (λv=>(fenced b v).isSome)=false then 204 else 0
def fence (b:Int):aH:=if m.iV b=0 then{m.qo b false with views:=m.views.map λv=>(fenced b v).getD v} else m
def nR (b:Int):Int:=if m.aV b=false then 2 else 0
def lV (b:Int):aH:=if m.nR b=0 then m.qo b true else m
def jZ (n:Int) (l:List Int):Bool:=l.all (λb=>decide (0≤b)&&decide (b<n))&&decide (l.Pairwise (· < ·))
def nS (p leader epoch version:Int) (isr:List Int):Int:=
 if(m.part p&&m.aV leader)=false then 2 else if(jZ m.form.aK isr&&decide (leader∈isr))=false then 2
 else if(m.view p).leader≠leader∨(m.view p).epoch≠epoch∨(m.view p).version≠version then 200 else if isr.all m.sG=false then 201
 else if bQ≤(m.view p).version then 204 else 0
def alter (p leader epoch version:Int) (isr:List Int):aH:=
 if m.nS p leader epoch version isr=0 then m.nP p {m.view p with isr:=isr,version:=(m.view p).version+1} else m
def busy (i:Int):Bool:=(m.ay i).state==3||(m.ay i).state==4
def mP (i:Int):Int:=if m.id i=false then 2 else if m.busy i=true then 203 else if bQ≤(m.ay i).session then 204 else if(m.ay i).state=2 then 203 else 0
def lI (i:Int):aH:=
 if m.id i=false∨m.busy i=true∨bQ≤(m.ay i).session then m
 else m.kC i {m.ay i with session:=(m.ay i).session+1,state:=if(m.ay i).state=2 then 4 else(m.ay i).state}
def mQ (i:Int):Int:=if m.mP i=0 then(m.ay i).session+1 else 0
def kK (i num p:Int):Int:=
 if(m.id i&&m.part p)=false then 2 else if(m.ay i).num≠num∨p∉(m.ay i).parts∨m.busy i=false then 200 else 0
def nT (i p:Int):bW:=
 let l:=(m.ay i).parts.filter (· ≠p)
 if l=[] then{m.ay i with parts:=l,offset:=if(m.ay i).state=3 then(m.ay i).next else(m.ay i).offset,state:=1,next:=0}
 else{m.ay i with parts:=l}
def fO (i num p:Int):aH:=if m.kK i num p=0 then m.kC i (m.nT i p) else m
end aH
end Go.Ws
namespace Go.Ws
open Go Go.RowKit Go.Proofs
set_option maxHeartbeats 4000000
set_option maxRecDepth 100000
set_option linter.unusedVariables false
set_option linter.unusedSimpArgs false
structure rJ (f:gB) (v:dL):Prop where
 uZ: -1≤v.leader∧v.leader<f.aK
 epoch:0≤v.epoch∧v.epoch≤bQ
 version:0≤v.version∧v.version≤bQ
 isr:∀ b∈v.isr,0≤b∧b<f.aK
 rise:v.isr.Pairwise (· < ·)
 some:v.isr≠[]
structure kU (f:gB) (w:bW):Prop where
 session:0≤w.session∧w.session≤bQ
 num:0≤w.num∧w.num≤bQ
 state:1≤w.state∧w.state≤4
 parts:∀ p∈w.parts,0≤p∧p<f.parts
 rise:w.parts.Pairwise (· < ·)
 offset:0≤w.offset∧w.offset≤bQ
 next:0≤w.next∧w.next≤bQ
structure aH.dH (m:aH):Prop where
 right:m.form.right=true
 lives:m.lives.length=m.form.aK.toNat
 xQ:m.views.length=m.form.parts.toNat
 DT:m.eY.length=m.form.ids.toNat
 views:∀ v∈m.views,rJ m.form v
 eY:∀ w∈m.eY,kU m.form w
theorem gB.dX {f:gB} (h:f.right=true):(1≤f.aK∧f.aK≤4)∧(1≤f.parts∧f.parts≤4)∧(1≤f.ids∧f.ids≤4):=by
 simp only[gB.right,rZ,Bool.and_eq_true,decide_eq_true_eq]at h
 omega
theorem uU {n x:Int}:x∈qU n↔0≤x∧x<n:=by
 unfold qU
 rw[List.mem_map]
 constructor
 ·rintro⟨k,hk,rfl⟩
  have:=List.mem_range.1 hk
  constructor
  ·exact Int.natCast_nonneg k
  ·show (k:Int)<n;omega
 ·rintro⟨h0,h1⟩
  exact⟨x.toNat,List.mem_range.2 (by omega),by show ((x.toNat:Nat):Int)=x;omega⟩
theorem Y9 (n:Int):(qU n).Pairwise (· < ·):=by
 unfold qU
 rw[List.pairwise_map]
 exact List.Pairwise.imp (λh=>by show ((_:Nat):Int)<((_:Nat):Int);omega) List.pairwise_lt_range
section
variable {m : aH}
theorem OA {f:gB} (h:f.right=true):(aH.new f).dH:=by
 have hr:=gB.dX h
 refine⟨h,by simp[aH.new],by simp[aH.new],by simp[aH.new],?_,?_⟩
 ·intro v hv
  obtain⟨-,rfl⟩:=List.mem_replicate.1 hv
  refine⟨⟨by show (-1:Int)≤ -1;omega,by show (-1:Int)<f.aK;omega⟩,⟨Int.le_refl _,by show (0:Int)≤_;decide⟩,⟨Int.le_refl _,by show (0:Int)≤_;decide⟩,λb hb=>uU.1 hb,Y9 _,λe=>?_⟩
  have h0:(0:Int)∈qU f.aK:=uU.2 ⟨Int.le_refl _,by omega⟩
  have e':qU f.aK=[]:=e
  rw[e']at h0;cases h0
 ·intro w hw
  obtain⟨-,rfl⟩:=List.mem_replicate.1 hw
  exact⟨by decide,by decide,by decide,(λp hp=>by cases hp),List.Pairwise.nil,by decide,by decide⟩
theorem aH.dH.nP (h:m.dH) (p:Int) {v:dL} (hv:rJ m.form v):(m.nP p v).dH:=
 ⟨h.right,h.lives,by show (m.views.set _ _).length=_;rw[List.length_set];exact h.xQ,h.DT,λx hx=>(List.mem_or_eq_of_mem_set hx).elim (h.views x) (λe=>e▸hv),h.eY⟩
theorem aH.dH.kC (h:m.dH) (i:Int) {w:bW} (hw:kU m.form w):(m.kC i w).dH:=
 ⟨h.right,h.lives,h.xQ,by show (m.eY.set _ _).length=_;rw[List.length_set];exact h.DT,h.views,λx hx=>(List.mem_or_eq_of_mem_set hx).elim (h.eY x) (λe=>e▸hw)⟩
theorem aH.dH.qo (h:m.dH) (b:Int) (is:Bool):(m.qo b is).dH:=
 ⟨h.right,by show (m.lives.set _ _).length=_;rw[List.length_set];exact h.lives,h.xQ,h.DT,h.views,h.eY⟩
theorem fV {p:Int} (h:m.part p=true):0≤p∧p<m.form.parts:=by simpa [aH.part] using h
theorem dV {b:Int} (h:m.aV b=true):0≤b∧b<m.form.aK:=by simpa [aH.aV] using h
theorem akw {i:Int} (h:m.id i=true):0≤i∧i<m.form.ids:=by simpa [aH.id] using h
theorem mY {α:Type} {l:List α} {k:Nat} {d:α} (h:k<l.length):l.getD k d∈l:=by
 rw[List.getD_eq_getElem?_getD,List.getElem?_eq_getElem h];exact List.getElem_mem h
theorem aH.dH.view (h:m.dH) {p:Int} (hp:m.part p=true):rJ m.form (m.view p):=by
 have:=fV hp
 have:=h.xQ
 exact h.views _ (mY (by omega))
theorem aH.dH.ay (h:m.dH) {i:Int} (hi:m.id i=true):kU m.form (m.ay i):=by
 have:=akw hi
 have:=h.DT
 exact h.eY _ (mY (by omega))
theorem ER (h:m.dH) (p b:Int) (unclean:Bool):(m.oK p b unclean).dH:=by
 unfold aH.oK
 split
 ·rename_i bT
  unfold aH.oJ at bT
  split at bT
  ·cases bT
  ·rename_i h1
   have MZ:m.part p=true∧m.aV b=true:=by simpa using h1
   split at bT
   ·cases bT
   ·split at bT
    ·cases bT
    ·split at bT
     ·cases bT
     ·rename_i h4
      have hb:=dV MZ.2
      have hv:=h.view MZ.1
      refine h.nP p ⟨⟨by show (-1:Int)≤b;omega,hb.2⟩,⟨by show (0:Int)≤(m.view p).epoch+1;have:=hv.epoch;omega,by show (m.view p).epoch+1≤bQ;omega⟩,⟨by show (0:Int)≤(m.view p).version+1;have:=hv.version;omega,by show (m.view p).version+1≤bQ;omega⟩,?_,?_,?_⟩
      ·show ∀x∈(if b∈(m.view p).isr then(m.view p).isr else [b]),_
       split
       ·exact hv.isr
       ·intro x hx;obtain rfl:x=b:=by simpa using hx
        exact hb
      ·show (if b∈(m.view p).isr then(m.view p).isr else [b]).Pairwise (· < ·)
       split
       ·exact hv.rise
       ·exact List.pairwise_singleton _ _
      ·show (if b∈(m.view p).isr then(m.view p).isr else [b])≠[]
       split
       ·exact hv.some
       ·exact List.cons_ne_nil _ _
 ·exact h
theorem Lc {l:List Int} {b:Int} (hr:l.Pairwise (· < ·)) (h:1<l.length):l.filter (· ≠b)≠[]:=by
 intro e
 have jB:∀ x∈l,x=b:=by
  intro x hx
  by_cases DJ:x=b
  ·exact DJ
  ·have:x∈l.filter (· ≠b):=List.mem_filter.2 ⟨hx,by simpa using DJ⟩
   rw[e]at this;cases this
 match l,h with
 | x::y::t,_=>
  have h1:=jB x (by simp)
  have h2:=jB y (by simp)
  have:=(List.pairwise_cons.1 hr).1 y (by simp)
  omega
theorem OB {f:gB} {b:Int} {v v':dL} (hb:1≤f.aK) (hv:rJ f v) (h:aH.fenced b v=some v'):rJ f v':=by
 unfold aH.fenced at h
 simp only at h
 split at h
 ·cases h;exact hv
 ·split at h
  ·cases h
  ·rename_i hn
   have h1:=hv.uZ
   have h2:=hv.epoch
   have h3:=hv.version
   have aU:¬ bQ≤v.version:=λe=>hn (.inl e)
   cases h
   refine⟨?_,?_,?_,?_,?_,?_⟩
   ·show-1≤(if(v.leader==b)=true then(-1:Int) else v.leader)∧(if(v.leader==b)=true then(-1:Int) else v.leader)<f.aK
    split<;>omega
   ·show 0≤(if(v.leader==b)=true then v.epoch+1 else v.epoch)∧(if(v.leader==b)=true then v.epoch+1 else v.epoch)≤bQ
    split
    ·rename_i hl
     have:¬ bQ≤v.epoch:=λe=>hn (.inr ⟨hl,e⟩)
     omega
    ·omega
   ·show 0≤v.version+1∧v.version+1≤bQ
    omega
   ·show ∀x∈(if(decide (b∈v.isr)&&decide (1<v.isr.length))=true then v.isr.filter (· ≠b) else v.isr),_
    split
    ·intro x hx;exact hv.isr x (List.mem_filter.1 hx).1
    ·exact hv.isr
   ·show (if(decide (b∈v.isr)&&decide (1<v.isr.length))=true then v.isr.filter (· ≠b) else v.isr).Pairwise (· < ·)
    split
    ·exact List.Pairwise.filter _ hv.rise
    ·exact hv.rise
   ·show (if(decide (b∈v.isr)&&decide (1<v.isr.length))=true then v.isr.filter (· ≠b) else v.isr)≠[]
    split
    ·rename_i hl
     simp only[Bool.and_eq_true,decide_eq_true_eq]at hl
     exact Lc hv.rise hl.2
    ·exact hv.some
theorem Ld (h:m.dH) (b:Int):(m.fence b).dH:=by
 have hr:=gB.dX h.right
 unfold aH.fence
 split
 ·have h1:=h.qo b false
  refine⟨h1.right,h1.lives,by show (m.views.map _).length=_;rw[List.length_map];exact h.xQ,h1.DT,?_,h1.eY⟩
  intro v hv
  obtain⟨x,hx,rfl⟩:=List.mem_map.1 hv
  show rJ m.form _
  cases hf:aH.fenced b x with
  | none=>exact h.views x hx
  | some y=>exact OB hr.1.1 (h.views x hx) hf
 ·exact h
theorem Nr (h:m.dH) (b:Int):(m.lV b).dH:=by
 unfold aH.lV
 split
 ·exact h.qo b true
 ·exact h
theorem Le (h:m.dH) (p leader epoch version:Int) (isr:List Int):(m.alter p leader epoch version isr).dH:=by
 unfold aH.alter
 split
 ·rename_i bT
  unfold aH.nS at bT
  split at bT
  ·cases bT
  ·rename_i h1
   have MZ:m.part p=true∧m.aV leader=true:=by simpa using h1
   split at bT
   ·cases bT
   ·rename_i h2
    have Yd:aH.jZ m.form.aK isr=true∧leader∈isr:=by simpa using h2
    split at bT
    ·cases bT
    ·split at bT
     ·cases bT
     ·split at bT
      ·cases bT
      ·rename_i h5
       have hv:=h.view MZ.1
       have hri:=Yd.1
       simp only[aH.jZ,Bool.and_eq_true,List.all_eq_true,decide_eq_true_eq]at hri
       refine h.nP p ⟨hv.uZ,hv.epoch,⟨by show 0≤(m.view p).version+1;have:=hv.version;omega,by show (m.view p).version+1≤bQ;omega⟩,λx hx=>hri.1 x hx,hri.2,λe=>?_⟩
       have e':isr=[]:=e
       rw[e']at Yd;cases Yd.2
 ·exact h
theorem VF (h:m.dH) (i:Int):(m.lI i).dH:=by
 unfold aH.lI
 split
 ·exact h
 ·rename_i hn
  have hi:m.id i=true:=by
   cases hb:m.id i with
   | true=>rfl
   | false=>exact absurd (.inl hb) hn
  have hw:=h.ay hi
  have hs:¬ bQ≤(m.ay i).session:=λe=>hn (.inr (.inr e))
  refine h.kC i ⟨⟨by show 0≤(m.ay i).session+1;have:=hw.session;omega,by show (m.ay i).session+1≤bQ;omega⟩,hw.num,?_,hw.parts,hw.rise,hw.offset,hw.next⟩
  show 1≤(if(m.ay i).state=2 then(4:Int) else(m.ay i).state)∧(if(m.ay i).state=2 then(4:Int) else(m.ay i).state)≤4
  have:=hw.state
  split<;>omega
theorem IY (h:m.dH) (i num p:Int):(m.fO i num p).dH:=by
 unfold aH.fO
 split
 ·rename_i bT
  unfold aH.kK at bT
  split at bT
  ·cases bT
  ·rename_i h1
   have MZ:m.id i=true∧m.part p=true:=by simpa using h1
   have hw:=h.ay MZ.1
   refine h.kC i ?_
   unfold aH.nT
   simp only
   split
   ·refine⟨hw.session,hw.num,⟨by show (1:Int)≤1;decide,by show (1:Int)≤4;decide⟩,λq hq=>hw.parts q (List.mem_filter.1 hq).1,List.Pairwise.filter _ hw.rise,?_,⟨by show (0:Int)≤0;decide,by show (0:Int)≤bQ;decide⟩⟩
    show 0≤(if(m.ay i).state=3 then(m.ay i).next else(m.ay i).offset)∧(if(m.ay i).state=3 then(m.ay i).next else(m.ay i).offset)≤bQ
    split
    ·exact hw.next
    ·exact hw.offset
   ·exact⟨hw.session,hw.num,hw.state,λq hq=>hw.parts q (List.mem_filter.1 hq).1,List.Pairwise.filter _ hw.rise,hw.offset,hw.next⟩
 ·exact h
end
end Go.Ws
