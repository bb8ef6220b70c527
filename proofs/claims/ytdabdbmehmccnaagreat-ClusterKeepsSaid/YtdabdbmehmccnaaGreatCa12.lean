/- Lemmas for the statements of this layer (joined texts); no condition. -/
import Derived.Test.YtdabdbmehmccnaaGreatCa11
namespace Go.Ws
open Go Go.RowKit Go.Proofs
set_option maxHeartbeats 4000000
set_option maxRecDepth 100000
set_option linter.unusedVariables false
set_option linter.unusedSimpArgs false
theorem eP.mono {w w':World} {b:Nat} {F G:Nat→Prop} {c:aO} (h:eP w b F c w') (hF:∀ k,k<w.heap.size→F k→G k) (hF2:∀ k,F k→G k∨w.heap.size≤k):eP w b G c w':=
 ⟨bF.mono h.1 hF,h.2.mono λk hk=>by
  rcases hk with hk|hk
  ·exact hF2 k hk
  ·exact .inr hk⟩
theorem iO.Fp {w:World} {b:Nat} {F:Nat→Prop} {c:aO} (h:iO w b F c):iO w b (λk=>F k∧k<w.heap.size) c:=by
 obtain⟨A,h,h2⟩:=h
 exact⟨A,h,λk hk=>⟨h2 k hk,h.lt k hk⟩⟩
theorem En (b dY p:Int):∀ (l:List Int) (c:aO),aO.jw b dY (l++[p]) c=(aO.jw b dY l c).aP p b (((aO.jw b dY l c).rep p b).crash dY).1
 | [],c=>rfl
 | q::l,c=>by
  show aO.jw b dY (l++[p]) _=_
  rw[En b dY p l];rfl
theorem Eo (b dY:Int):∀ (l:List Int) (c:aO),(aO.jw b dY l c).ctl=c.ctl
 | [],c=>rfl
 | q::l,c=>by
  show (aO.jw b dY l _).ctl=_
  rw[Eo b dY l];rfl
theorem V9 {w:World} {b:Nat} {F:Nat→Prop} {c:aO} (x:bV) (h:iO w b F c):gK Tryz.prog 51 #[.pointer (some ⟨b,0,none⟩),x.v] w λr w'=>r=.int .i64 (if c.ctl.aV x.a=false∨x.b<0 then 2 else 0)∧eP w b F (if c.ctl.aV x.a=false∨x.b<0 then c else aO.jw x.a x.b (qU c.ctl.form.parts) c) w':=by
 have HH:=Zh h
 obtain⟨kind,xa,xb,xc⟩:=x
 dsimp only
 by_cases hb:c.ctl.aV xa=false
 ·have HB:=Zh hb
  rw[if_pos (.inl hb),if_pos (.inl hb)]
  clear h hb
  refine Fi (n:=39) Tryz.func51 ?_;intro A hd hA;simp only[ix,Nat.reduceAdd]
  repeat'(first|refine aN Tryz.func67 (HB.out▸iP xa (HH.out.ah (by simp))) ?_|refine aF ?_|refine mg ?_|refine jF ?_|refine au ?_|refine ak (λK hK=>?_)|refine aj ?_|refine aC ?_|(refine dI (λx K hK=>?_);go_simp;refine hK _ _ (aB.alloc _ _) ?_;clear hK K;refine aZ x ?_;generalize (World.ah _ x).heap.size=bn;intro yn aU bD bC bG aS;clear x)|refine bH ?_|go_step)
  exact aA hd ⟨rfl,HH.out.jc (by simp)⟩
 ·have hb:c.ctl.aV xa=true:=by simpa using hb
  by_cases hk:xb<0
  ·have HB:=Zh hb
   rw[if_pos (.inr hk),if_pos (.inr hk)]
   clear h hb
   refine Fi (n:=39) Tryz.func51 ?_;intro A hd hA;simp only[ix,Nat.reduceAdd]
   repeat'(first|refine aN Tryz.func67 (HB.out▸iP xa (HH.out.ah (by simp))) ?_|refine dw ?_|refine aF ?_|refine au ?_|refine ak (λK hK=>?_)|refine aj ?_|refine aC ?_|(refine dI (λx K hK=>?_);go_simp;refine hK _ _ (aB.alloc _ _) ?_;clear hK K;refine aZ x ?_;generalize (World.ah _ x).heap.size=bn;intro yn aU bD bC bG aS;clear x)|refine bH ?_|go_step)
   exact aA hd ⟨rfl,HH.out.jc (by simp)⟩
  ·rw[if_neg (by simp[hb,hk]),if_neg (by simp[hb,hk])]
   obtain⟨i,rfl⟩:∃ i:Nat,xa=i:=⟨xa.toNat,by have:=dV hb;omega⟩
   have hi:i<c.ctl.form.aK.toNat:=by have:=dV hb;omega
   obtain⟨NP,hNP⟩:∃ n:Nat,c.ctl.form.parts=n:=⟨c.ctl.form.parts.toNat,by have:=gB.dX h.bU.ctl.right;omega⟩
   have BM:qU c.ctl.form.parts=(List.range NP).map Int.ofNat:=by unfold qU;rw[hNP];simp
   rw[BM]
   have HB:=Zh hb
   have HNP:=Zh hNP
   have HGC:=Zh h.bU
   obtain⟨hlt,c0,c1,c2,bm0,-⟩:=h.cells
   rw[hNP]at c1
   clear h hb BM
   refine Fi (n:=39) Tryz.func51 ?_;intro A hd hA;simp only[ix,Nat.reduceAdd]
   (repeat'(first|refine ak (λK hK=>?_)|refine aj ?_|fail));(refine dI (λx K hK=>?_);go_simp;refine hK _ _ (aB.alloc _ _) ?_;clear hK K;refine aZ x ?_;generalize (World.ah _ x).heap.size=b3;intro yn aU bD bC bG aS;clear x);have qJ:=Zh (cO.new aS.out);have pI:=Zh yn.ext;have qQ:(World.heap w).size≤b3:=aU;generalize World.ah w yn=W0 at *;clear aU bD bC bG aS yn
   have xI:=qJ
   obtain⟨y0,rfl⟩:=pI.out.get
   have Xt:w.heap.size≤b3:=qQ
   have z1:=xI.out.cell (k:=1) (by simp)
   have z2:=xI.out.cell (k:=2) (by simp)
   simp at z1 z2
   have O8:=xI.out.lt
   have LH:Hid (eP (w.ah y0) b (λk=>F k∧k<w.heap.size) c (w.ah y0)):=Zh ((HH.out.Fp.ah y0.ext).jc (aB.refl _))
   clear qJ pI qQ
   repeat'(first|refine aN Tryz.func67 (HB.out▸iP (i:Int) (HH.out.ah (by simp))) ?_|refine dw ?_|refine aF ?_|refine au ?_|refine ak (λK hK=>?_)|refine aj ?_|refine aG ?_|refine aJ ?_|refine bJ ?_|go_step)
   refine dJ [0,3,20,21] (λn vs w'=>∃ p:Nat,p+n=NP∧vs=[.pointer (some ⟨b,0,none⟩),.pointer (some ⟨b3,0,none⟩),.int .i64 NP,.int .i64 p]∧eP (w.ah y0) b (λk=>F k∧k<w.heap.size) (aO.jw (i:Int) xb ((List.range p).map Int.ofNat) c) w') NP hd hA (by decide) ⟨0,by omega,by simp[jW],by simpa [aO.jw] using LH.out⟩ ?_
   clear hd hA A LH;intro n vs A w' hd hA _ ⟨p,hp,jk,bP⟩;subst jk
   have jG:=Zh bP
   clear bP
   simp only[List.zip_cons_cons,List.zip_nil_right,List.zip_nil_left]
   by_cases Dt:p<NP
   ·have BP:(p:Int)<(NP:Int):=by omega
    have Am:=Eo (i:Int) xb ((List.range p).map Int.ofNat) c
    have Px:=En (i:Int) xb (p:Int) ((List.range p).map Int.ofNat) c
    rw[Fa]at Px
    have LX:=Zh Px
    generalize QS:aO.jw (i:Int) xb ((List.range p).map Int.ofNat) c=cc at *
    obtain⟨A1,h1,QD⟩:=jG.out.2
    have Jp:p<cc.ctl.form.parts.toNat:=by rw[Am,HNP.out];omega
    have ou:i<cc.ctl.form.aK.toNat:=by rw[Am];exact hi
    obtain⟨u,ps,q,hu,wK,ho,ht,FM,iR,jy,gu⟩:=h1.rep (p:=p) (i:=i) Jp ou
    obtain⟨g,cg,iZ,Dq,jT,Ib,iK⟩:=dQ.at (enc:=Yq) (k:=1) (λ_=>rfl) h1.outer hu
    obtain⟨g2,cg2,Iw,VW,Uz,Zv,sV⟩:=dQ.at (enc:=ps1) (k:=1) (λ_=>rfl) ho FM
    obtain⟨akZ,-,-,-,-,e4,-⟩:=h1.cells
    rw[iZ]at e4
    have d0:=iK 0 _ rfl
    have d1:=sV 0 _ rfl
    rw[Nat.mul_one,Nat.add_zero]at d0 d1
    rw[Iw]at d0
    have n1:p<A1.rows.length:=(Ge hu).1
    have n2:i<ps.length:=(Ge FM).1
    have n3:(p:Int)<A1.rows.length:=by omega
    have n4:(i:Int)<ps.length:=by omega
    have m1:=(bI jG.out.1 (o:=1) O8 (λh=>by have:=h.2;omega)).trans z1
    have m2:=(bI jG.out.1 (o:=2) O8 (λh=>by have:=h.2;omega)).trans z2
    have YI:b3<w'.heap.size:=Nat.lt_of_lt_of_le O8 jG.out.1.size
    have HA:=Zh h1
    have HF1:=Zh QD
    have J3:=Zh wK
    have J4:=Zh FM
    have qy:=Zh jy
    have oW:=Zh gu
    have Zx:=Zh Jp
    have Lp:=Zh ou
    clear h1 QD hu wK ho ht FM iR jy gu iK sV iZ Iw Am Px QS Jp ou
    repeat'(first|refine aF ?_|refine au ?_|refine ak (λK hK=>?_)|refine aj ?_|refine aG ?_|refine aJ ?_|refine bH ?_|go_step)
    refine dA (by kernel_rfl) (by kernel_rfl) ?_
    repeat'(first|refine aF ?_|fail)
    refine aX Tryz.func114 (Zd qy.out oW.out.bU.ne oW.out.bU.len oW.out.bU.fl.1 oW.out.bU.fl.2 xb) (λr w2 hR=>?_)
    obtain⟨rfl,hM,AU⟩:=hR
    have bP:=HA.out.Jb HF1.out (aB.refl _) Zx.out Lp.out J3.out J4.out hM AU (Ag oW.out xb)
    have JC:=jG.out.then bP
    rw[←LX.out]at JC
    have JD:=Zh JC
    clear bP JC hM AU
    repeat'(first|refine aF ?_|refine aQ ?_|refine au ?_|refine aj ?_|go_step)
    exact⟨_,_,rfl,hd,hA,n-1,by omega,p+1,by omega,by simp[jW],JD.out⟩
   ·obtain rfl:p=NP:=by omega
    repeat'(first|refine aF ?_|refine au ?_|refine ak (λK hK=>?_)|refine aj ?_|refine aC ?_|refine dS ?_|refine bJ ?_|go_step)
    exact aA hd ⟨rfl,(jG.out.mono (λk _ h=>h.1) (λk h=>.inl h.1)).ext y0.ext⟩
theorem Zy {w:World} {b:Nat} {F:Nat→Prop} {c:aO} (x:bV) (h:iO w b F c):gK Tryz.prog 48 #[.pointer (some ⟨b,0,none⟩),x.v] w λr w'=>r=.int .i64 (if(c.ctl.part x.a&&c.ctl.aV x.b)=false then 2 else 0)∧eP w b F (if(c.ctl.part x.a&&c.ctl.aV x.b)=false then c else c.put {eu.zero with kind:=1,to:=x.b,part:=x.a,view:=c.ctl.view x.a}) w':=by
 by_cases hq:(c.ctl.part x.a&&c.ctl.aV x.b)=false
 ·rw[if_pos hq,if_pos hq]
  have HH:=Zh h
  have HQ:=Zh hq
  clear h hq
  refine Fi (n:=36) Tryz.func48 ?_;intro A hd hA;simp only[ix,Nat.reduceAdd]
  repeat'(first|refine aN Tryz.func111 (OO x (HH.out.ah (by simp)) HQ.out) ?_|refine aF ?_|refine au ?_|refine ak (λK hK=>?_)|refine aj ?_|refine aC ?_|(refine dI (λx K hK=>?_);go_simp;refine hK _ _ (aB.alloc _ _) ?_;clear hK K;refine aZ x ?_;generalize (World.ah _ x).heap.size=bn;intro yn aU bD bC bG aS;clear x)|refine bH ?_|go_step)
  exact aA hd ⟨rfl,HH.out.jc (by simp)⟩
 ·rw[if_neg hq,if_neg hq]
  have jM:c.ctl.part x.a=true∧c.ctl.aV x.b=true:=by simpa using hq
  obtain⟨kind,xa,xb,xc⟩:=x
  dsimp only at jM
  obtain⟨p,rfl⟩:∃ p:Nat,xa=p:=⟨xa.toNat,by have:=fV jM.1;omega⟩
  obtain⟨i,rfl⟩:∃ i:Nat,xb=i:=⟨xb.toNat,by have:=dV jM.2;omega⟩
  have BP:=fV jM.1
  have JL:=dV jM.2
  have HH:=Zh h
  obtain⟨A0,h0,hF⟩:=h
  obtain⟨u,ps,q,-,wK,-,-,FM,-,jy,gu⟩:=h0.rep (p:=p) (i:=i) (by omega) (by omega)
  have HA:=Zh h0
  have HF:=Zh hF
  have J3:=Zh wK
  have J4:=Zh FM
  have qy:=Zh jy
  have oW:=Zh gu
  have Jp:p<c.ctl.form.parts.toNat:=by omega
  have ou:i<c.ctl.form.aK.toNat:=by omega
  have Zx:=Zh Jp
  have Lp:=Zh ou
  have CZ:=Zh jM
  clear h0 hF hq wK FM jy gu BP JL Jp ou jM
  dsimp only
  refine Fi (n:=36) Tryz.func48 ?_;intro A hd hA;simp only[ix,Nat.reduceAdd]
  (repeat'(first|refine ak (λK hK=>?_)|refine aj ?_|fail));(refine dI (λx K hK=>?_);go_simp;refine hK _ _ (aB.alloc _ _) ?_;clear hK K;refine aZ x ?_;generalize (World.ah _ x).heap.size=b3;intro yn aU bD bC bG aS;clear x);have qJ:=Zh (cO.new aS.out);have pI:=Zh yn.ext;have qQ:(World.heap w).size≤b3:=aU;generalize World.ah w yn=W0 at *;clear aU bD bC bG aS yn
  have xI:=qJ
  obtain⟨y0,rfl⟩:=pI.out.get
  have Xt:w.heap.size≤b3:=qQ
  have z1:=xI.out.cell (k:=1) (by simp)
  have z2:=xI.out.cell (k:=2) (by simp)
  have z0:=xI.out.cell (k:=0) (by simp)
  have z3:=xI.out.cell (k:=3) (by simp)
  simp at z0 z1 z2 z3
  have O8:=xI.out.lt
  clear qJ pI qQ
  obtain⟨hlt,-,-,-,cm3,-,-⟩:=HA.out.cells
  repeat'(first|refine aN Tryz.func111 (CX ⟨kind,(p:Int),(i:Int),xc⟩ (HA.out.ah (by simp)) rfl rfl CZ.out.1 CZ.out.2 J3.out J4.out) ?_|refine aF ?_|refine au ?_|refine ak (λK hK=>?_)|refine aj ?_|refine aG ?_|refine bJ ?_|go_step)
  refine A8 [0,3,7] (λvs W'=>aB (w.ah y0) W'∧∃ bv u,vs=[.pointer (some ⟨b,0,none⟩),.pointer (some ⟨b3,0,none⟩),.pointer (some ⟨bv,0,none⟩)]∧(w.ah y0).heap.size≤bv∧cO W' bv 45 4 (put (λk=> #[Value.int .i64 0,.int .i64 0,.int .i64 0,.slice none 0 0].getD k undef) 0 [.int .i64 (c.ctl.view (p:Int)).leader,.int .i64 (c.ctl.view (p:Int)).epoch,.int .i64 (c.ctl.view (p:Int)).version,u])∧ig W' u (c.ctl.view (p:Int)).isr) hd hA (by decide) ?_ ?_
  ·refine vg [11] (by kernel_rfl) ?_
   refine iH (i:=0) ?_
   refine iH (i:=1) ?_
   refine iH (i:=2) ?_
   refine iH (i:=3) ?_
   refine iH (i:=4) ?_
   refine iH (i:=5) ?_
   refine dP (i:=6) (rs:=[10]) (dh ?_ (dh ?_ fG))
   ·refine jl (R:=λw0 r w'=>aB w0 w'∧∃ u,r=.tuple #[.agg #[.int .i64 (c.ctl.view (p:Int)).leader,.int .i64 (c.ctl.view (p:Int)).epoch,.int .i64 (c.ctl.view (p:Int)).version,u],.int .i64 0]∧ig w' u (c.ctl.view (p:Int)).isr∧∀ k,u.ownBlock=some k→w0.heap.size≤k) Tryz.func17 (λz=>Gl (HA.out.ctl.ah (Et y0.ext z.ext)) CZ.out.1) (λz r w4 hR=>?_)
    obtain⟨fD,u4,rfl,uP,J5⟩:=hR
    refine⟨fD,?_⟩
    replace fD:=Et z.ext fD
    obtain⟨A4,m4,c4,rfl⟩:=aT uP
    refine iH (i:=7) ?_
    refine iH (i:=8) ?_
    refine iH (i:=9) ?_
    refine Oc (i:=10) (λq K hK=>?_)
    go_simp;refine hK _ _ _ (aB.alloc _ _) (aB.refl _) ?_;clear hK K;refine qN q ?_;generalize (World.ah _ q).heap.size=bv;intro yb k1 k2 k3 k4 k5;clear q
    have uw:=Zh (cO.new k5.out)
    have UU:(w.ah y0).heap.size≤w4.heap.size:=fD.size
    have qK:(w.ah y0).heap.size≤bv:=Nat.le_trans UU k1
    have JJ:(Value.slice A4 m4 c4).ownBlock≠some bv:=λe=>by have:=uP.lt bv e;omega
    have Il:=Zh (uP.ah yb.ext)
    have lX:=Zh (Et fD yb.ext)
    refine dP (i:=11) (rs:=[]) (dh (mF (off:=0) uw.out (λW6 jP nY=>?_)) fG)
    refine iH (i:=12) ?_
    exact oG (by kernel_rfl) ⟨rfl,_,_,rfl,hd,hA,aB.bK lX.out jP (λk hk=>by subst hk;exact qK),bv,.slice A4 m4 c4,by simp[jW],qK,nY,Il.out.aW jP (λk hk e=>by subst e;exact JJ hk)⟩
   ·refine S_s (λq K hK=>?_)
    go_simp;refine hK _ _ _ (aB.alloc _ _) (aB.refl _) ?_;clear hK K;refine qN q ?_;generalize (World.ah _ q).heap.size=bv;intro yb k1 k2 k3 k4 k5;clear q
    have qK:(w.ah y0).heap.size≤bv:=k1
    have Wh:bv<((w.ah y0).ah yb).heap.size:=k2
    refine dP (i:=6) (rs:=[]) (dh ?_ fG)
    refine jl (R:=λw0 r w'=>aB w0 w'∧∃ u,r=.tuple #[.agg #[.int .i64 (c.ctl.view (p:Int)).leader,.int .i64 (c.ctl.view (p:Int)).epoch,.int .i64 (c.ctl.view (p:Int)).version,u],.int .i64 0]∧ig w' u (c.ctl.view (p:Int)).isr∧∀ k,u.ownBlock=some k→w0.heap.size≤k) Tryz.func17 (λz=>Gl (HA.out.ctl.ah (Et y0.ext (Et yb.ext z.ext))) CZ.out.1) (λz r w4 hR=>?_)
    obtain⟨fD,u4,rfl,uP,J5⟩:=hR
    refine⟨fD,?_⟩
    replace fD:=Et z.ext fD
    obtain⟨A4,m4,c4,rfl⟩:=aT uP
    refine iH (i:=7) ?_
    refine iH (i:=8) ?_
    refine iH (i:=9) ?_
    have uw:=Zh ((cO.new k5.out).ah fD)
    have Kr:=z.ext.size
    have JJ:(Value.slice A4 m4 c4).ownBlock≠some bv:=λe=>by have:=J5 bv e;omega
    have Il:=Zh uP
    have lX:=Zh (Et yb.ext fD)
    refine dP (i:=11) (rs:=[]) (dh (mF (off:=0) uw.out (λW6 jP nY=>?_)) fG)
    refine iH (i:=12) ?_
    exact oG (by kernel_rfl) ⟨rfl,_,_,rfl,hd,hA,aB.bK lX.out jP (λk hk=>by subst hk;exact qK),bv,.slice A4 m4 c4,by simp[jW],qK,nY,Il.out.aW jP (λk hk e=>by subst e;exact JJ hk)⟩
  ·clear hd hA A
   intro vs A W' hd hA ⟨xM,bv,u9,jk,qK,vF,OT⟩
   subst jk
   simp only[List.zip_cons_cons,List.zip_nil_right,List.zip_nil_left]
   obtain⟨y9,rfl⟩:=xM.get
   obtain⟨A9,m9,c9,rfl⟩:=aT OT
   have v0:=vF.cell (k:=0) (by omega)
   have v1:=vF.cell (k:=1) (by omega)
   have v2:=vF.cell (k:=2) (by omega)
   have v3:=vF.cell (k:=3) (by omega)
   simp[put]at v0 v1 v2 v3
   have hlv:=vF.lt
   have HO9:=Zh OT
   have HVO:=Zh (HA.out.bU.ctl.view CZ.out.1)
   clear xM vF OT
   refine hK _ _ ?_
   repeat'(first|refine aF ?_|refine ak (λK hK=>?_)|refine aj ?_|fail)
   refine aX Tryz.func106 (Ak (x:=⟨{eu.zero with kind:=1,to:=(i:Int),part:=(p:Int),view:=c.ctl.view (p:Int)},.slice A9 m9 c9,.slice none 0 0,.slice none 0 0⟩) (HH.out.ah (by simp)) ⟨(dQ.Oj HO9.out).rd,Rd.nil _,Rd.nil _,Nat.le_trans (HVO.out.MO (gB.dX HA.out.bU.ctl.right)) (by decide),Nat.zero_le _,Nat.zero_le _⟩ ⟨by show (1:Int)≤1∧(1:Int)≤7;decide,fV CZ.out.1,λ_=>dV CZ.out.2,(λe=>by cases e),Nat.le_trans (HVO.out.MO (gB.dX HA.out.bU.ctl.right)) (by decide),Nat.zero_le _,Nat.zero_le _⟩) (λr w3 hR=>?_)
   obtain⟨rfl,bP⟩:=hR
   have jG:=Zh (bP.ext (w:=w) (by simp))
   clear bP
   repeat'(first|refine aF ?_|refine au ?_|refine ak (λK hK=>?_)|refine aj ?_|refine aC ?_|go_step)
   exact aA hd ⟨rfl,jG.out⟩
theorem Tt {w:World} {b:Nat} {F:Nat→Prop} {c:aO} (x:bV) (h:iO w b F c):gK Tryz.prog 59 #[.pointer (some ⟨b,0,none⟩),x.v] w λr w'=>r=.int .i64 (c.qL x.a).2∧eP w b F (c.qL x.a).1 w':=by
 obtain⟨kind,i,xb,xc⟩:=x
 dsimp only
 have HH:=Zh h
 obtain⟨A0,h0,hF⟩:=h
 have HA:=Zh h0
 have HF:=Zh hF
 obtain⟨hlt,-,-,-,cm3,-,-⟩:=h0.cells
 clear h0 hF
 by_cases hid:c.ctl.id i=false
 ·have Tv:=Zh hid
  have pY:c.qL i=(c,2):=by unfold aO.qL;rw[if_pos hid]
  rw[pY]
  clear hid pY
  refine Fi (n:=38) Tryz.func59 ?_;intro A hd hA;simp only[ix,Nat.reduceAdd]
  (repeat'(first|refine ak (λK hK=>?_)|refine aj ?_|fail));(refine dI (λx K hK=>?_);go_simp;refine hK _ _ (aB.alloc _ _) ?_;clear hK K;refine aZ x ?_;generalize (World.ah _ x).heap.size=b3;intro yn aU bD bC bG aS;clear x);have qJ:=Zh (cO.new aS.out);have pI:=Zh yn.ext;have qQ:(World.heap w).size≤b3:=aU;generalize World.ah w yn=W0 at *;clear aU bD bC bG aS yn
  have xI:=qJ
  obtain⟨y0,rfl⟩:=pI.out.get
  have Xt:w.heap.size≤b3:=qQ
  have z1:=xI.out.cell (k:=1) (by simp)
  simp at z1
  have O8:=xI.out.lt
  clear qJ pI qQ
  repeat'(first|refine aF ?_|refine au ?_|refine ak (λK hK=>?_)|go_step)
  refine A8 [0,3,5,6] (λvs W'=>aB (w.ah y0) W'∧∃ bv u,vs=[.pointer (some ⟨b,0,none⟩),.pointer (some ⟨b3,0,none⟩),.pointer (some ⟨bv,0,none⟩),.int .i64 2]∧(w.ah y0).heap.size≤bv∧cO W' bv 148 6 (put (λk=> #[Value.int .i64 0,.int .i64 0,.int .i64 0,.slice none 0 0,.int .i64 0,.int .i64 0].getD k undef) 0 [.int .i64 0,.int .i64 0,.int .i64 0,u,.int .i64 0,.int .i64 0])) hd hA (by decide) ?_ ?_
  ·refine vg [11] (by kernel_rfl) ?_
   refine iH (i:=0) ?_
   refine iH (i:=1) ?_
   refine iH (i:=2) ?_
   refine iH (i:=3) ?_
   refine iH (i:=4) ?_
   refine iH (i:=5) ?_
   refine dP (i:=6) (rs:=[10]) (dh ?_ (dh ?_ fG))
   ·refine jl (R:=λw0 r w'=>aB w0 w'∧r=.tuple #[.agg #[.int .i64 0,.int .i64 0,.int .i64 0,.slice none 0 0,.int .i64 0,.int .i64 0],.int .i64 2]) Tryz.func89 (λz=>zV (HA.out.ctl.ah (Et y0.ext z.ext)) Tv.out) (λz r w4 hR=>?_)
    obtain⟨fD,rfl⟩:=hR
    refine⟨fD,?_⟩
    replace fD:=Et z.ext fD
    refine iH (i:=7) ?_
    refine iH (i:=8) ?_
    refine iH (i:=9) ?_
    refine Oc (i:=10) (λq K hK=>?_)
    go_simp;refine hK _ _ _ (aB.alloc _ _) (aB.refl _) ?_;clear hK K;refine qN q ?_;generalize (World.ah _ q).heap.size=bv;intro yb k1 k2 k3 k4 k5;clear q
    have uw:=Zh (cO.new k5.out)
    have UU:(w.ah y0).heap.size≤w4.heap.size:=fD.size
    have qK:(w.ah y0).heap.size≤bv:=Nat.le_trans UU k1
    have lX:=Zh (Et fD yb.ext)
    refine dP (i:=11) (rs:=[]) (dh (mF (off:=0) uw.out (λW6 jP nY=>?_)) fG)
    refine iH (i:=12) ?_
    exact oG (by kernel_rfl) ⟨rfl,_,_,rfl,hd,hA,aB.bK lX.out jP (λk hk=>by subst hk;exact qK),bv,.slice none 0 0,by simp[jW],qK,nY⟩
   ·refine S_s (λq K hK=>?_)
    go_simp;refine hK _ _ _ (aB.alloc _ _) (aB.refl _) ?_;clear hK K;refine qN q ?_;generalize (World.ah _ q).heap.size=bv;intro yb k1 k2 k3 k4 k5;clear q
    have qK:(w.ah y0).heap.size≤bv:=k1
    have Wh:bv<((w.ah y0).ah yb).heap.size:=k2
    refine dP (i:=6) (rs:=[]) (dh ?_ fG)
    refine jl (R:=λw0 r w'=>aB w0 w'∧r=.tuple #[.agg #[.int .i64 0,.int .i64 0,.int .i64 0,.slice none 0 0,.int .i64 0,.int .i64 0],.int .i64 2]) Tryz.func89 (λz=>zV (HA.out.ctl.ah (Et y0.ext (Et yb.ext z.ext))) Tv.out) (λz r w4 hR=>?_)
    obtain⟨fD,rfl⟩:=hR
    refine⟨fD,?_⟩
    replace fD:=Et z.ext fD
    refine iH (i:=7) ?_
    refine iH (i:=8) ?_
    refine iH (i:=9) ?_
    have uw:=Zh ((cO.new k5.out).ah fD)
    have Kr:=z.ext.size
    have lX:=Zh (Et yb.ext fD)
    refine dP (i:=11) (rs:=[]) (dh (mF (off:=0) uw.out (λW6 jP nY=>?_)) fG)
    refine iH (i:=12) ?_
    exact oG (by kernel_rfl) ⟨rfl,_,_,rfl,hd,hA,aB.bK lX.out jP (λk hk=>by subst hk;exact qK),bv,.slice none 0 0,by simp[jW],qK,nY⟩
  ·clear hd hA A
   intro vs A W' hd hA ⟨xM,bv,u9,jk,qK,vF⟩
   subst jk
   simp only[List.zip_cons_cons,List.zip_nil_right,List.zip_nil_left]
   obtain⟨y9,rfl⟩:=xM.get
   have v2:=vF.cell (k:=2) (by omega)
   simp[put]at v2
   have hlv:=vF.lt
   clear xM
   clear vF
   refine hK _ _ ?_
   repeat'(first|refine aF ?_|refine au ?_|refine ak (λK hK=>?_)|refine aj ?_|refine aC ?_|refine aJ ?_|refine bH ?_|go_step)
   exact aA hd ⟨rfl,HH.out.jc (by simp)⟩
 ·have hid:c.ctl.id i=true:=by simpa using hid
  have Tv:=Zh hid
  by_cases hs:(c.ctl.ay i).state≠2
  ·have pY:c.qL i=(c,5):=by unfold aO.qL;rw[if_neg (by simp[hid]),if_pos hs]
   rw[pY]
   have hsb:((c.ctl.ay i).state != 2)=true:=by simp[hs]
   clear hid pY
   refine Fi (n:=38) Tryz.func59 ?_;intro A hd hA;simp only[ix,Nat.reduceAdd]
   (repeat'(first|refine ak (λK hK=>?_)|refine aj ?_|fail));(refine dI (λx K hK=>?_);go_simp;refine hK _ _ (aB.alloc _ _) ?_;clear hK K;refine aZ x ?_;generalize (World.ah _ x).heap.size=b3;intro yn aU bD bC bG aS;clear x);have qJ:=Zh (cO.new aS.out);have pI:=Zh yn.ext;have qQ:(World.heap w).size≤b3:=aU;generalize World.ah w yn=W0 at *;clear aU bD bC bG aS yn
   have xI:=qJ
   obtain⟨y0,rfl⟩:=pI.out.get
   have Xt:w.heap.size≤b3:=qQ
   have z1:=xI.out.cell (k:=1) (by simp)
   simp at z1
   have O8:=xI.out.lt
   clear qJ pI qQ
   repeat'(first|refine aF ?_|refine au ?_|refine ak (λK hK=>?_)|go_step)
   refine A8 [0,3,5,6] (λvs W'=>aB (w.ah y0) W'∧∃ bv u,vs=[.pointer (some ⟨b,0,none⟩),.pointer (some ⟨b3,0,none⟩),.pointer (some ⟨bv,0,none⟩),.int .i64 0]∧(w.ah y0).heap.size≤bv∧cO W' bv 148 6 (put (λk=> #[Value.int .i64 0,.int .i64 0,.int .i64 0,.slice none 0 0,.int .i64 0,.int .i64 0].getD k undef) 0 [.int .i64 (c.ctl.ay i).session,.int .i64 (c.ctl.ay i).num,.int .i64 (c.ctl.ay i).state,u,.int .i64 (c.ctl.ay i).offset,.int .i64 (c.ctl.ay i).next])∧ig W' u (c.ctl.ay i).parts) hd hA (by decide) ?_ ?_
   ·refine vg [11] (by kernel_rfl) ?_
    refine iH (i:=0) ?_
    refine iH (i:=1) ?_
    refine iH (i:=2) ?_
    refine iH (i:=3) ?_
    refine iH (i:=4) ?_
    refine iH (i:=5) ?_
    refine dP (i:=6) (rs:=[10]) (dh ?_ (dh ?_ fG))
    ·refine jl (R:=λw0 r w'=>aB w0 w'∧∃ u,r=.tuple #[.agg #[.int .i64 (c.ctl.ay i).session,.int .i64 (c.ctl.ay i).num,.int .i64 (c.ctl.ay i).state,u,.int .i64 (c.ctl.ay i).offset,.int .i64 (c.ctl.ay i).next],.int .i64 0]∧ig w' u (c.ctl.ay i).parts∧∀ k,u.ownBlock=some k→w0.heap.size≤k) Tryz.func89 (λz=>lY (HA.out.ctl.ah (Et y0.ext z.ext)) Tv.out) (λz r w4 hR=>?_)
     obtain⟨fD,u4,rfl,uP,J5⟩:=hR
     refine⟨fD,?_⟩
     replace fD:=Et z.ext fD
     obtain⟨A4,m4,c4,rfl⟩:=aT uP
     refine iH (i:=7) ?_
     refine iH (i:=8) ?_
     refine iH (i:=9) ?_
     refine Oc (i:=10) (λq K hK=>?_)
     go_simp;refine hK _ _ _ (aB.alloc _ _) (aB.refl _) ?_;clear hK K;refine qN q ?_;generalize (World.ah _ q).heap.size=bv;intro yb k1 k2 k3 k4 k5;clear q
     have uw:=Zh (cO.new k5.out)
     have UU:(w.ah y0).heap.size≤w4.heap.size:=fD.size
     have qK:(w.ah y0).heap.size≤bv:=Nat.le_trans UU k1
     have lX:=Zh (Et fD yb.ext)
     have JJ:(Value.slice A4 m4 c4).ownBlock≠some bv:=λe=>by have:=uP.lt bv e;omega
     have Il:=Zh (uP.ah yb.ext)
     refine dP (i:=11) (rs:=[]) (dh (mF (off:=0) uw.out (λW6 jP nY=>?_)) fG)
     refine iH (i:=12) ?_
     exact oG (by kernel_rfl) ⟨rfl,_,_,rfl,hd,hA,aB.bK lX.out jP (λk hk=>by subst hk;exact qK),bv,.slice A4 m4 c4,by simp[jW],qK,nY,Il.out.aW jP (λk hk e=>by subst e;exact JJ hk)⟩
    ·refine S_s (λq K hK=>?_)
     go_simp;refine hK _ _ _ (aB.alloc _ _) (aB.refl _) ?_;clear hK K;refine qN q ?_;generalize (World.ah _ q).heap.size=bv;intro yb k1 k2 k3 k4 k5;clear q
     have qK:(w.ah y0).heap.size≤bv:=k1
     have Wh:bv<((w.ah y0).ah yb).heap.size:=k2
     refine dP (i:=6) (rs:=[]) (dh ?_ fG)
     refine jl (R:=λw0 r w'=>aB w0 w'∧∃ u,r=.tuple #[.agg #[.int .i64 (c.ctl.ay i).session,.int .i64 (c.ctl.ay i).num,.int .i64 (c.ctl.ay i).state,u,.int .i64 (c.ctl.ay i).offset,.int .i64 (c.ctl.ay i).next],.int .i64 0]∧ig w' u (c.ctl.ay i).parts∧∀ k,u.ownBlock=some k→w0.heap.size≤k) Tryz.func89 (λz=>lY (HA.out.ctl.ah (Et y0.ext (Et yb.ext z.ext))) Tv.out) (λz r w4 hR=>?_)
     obtain⟨fD,u4,rfl,uP,J5⟩:=hR
     refine⟨fD,?_⟩
     replace fD:=Et z.ext fD
     obtain⟨A4,m4,c4,rfl⟩:=aT uP
     refine iH (i:=7) ?_
     refine iH (i:=8) ?_
     refine iH (i:=9) ?_
     have uw:=Zh ((cO.new k5.out).ah fD)
     have Kr:=z.ext.size
     have lX:=Zh (Et yb.ext fD)
     have JJ:(Value.slice A4 m4 c4).ownBlock≠some bv:=λe=>by have:=J5 bv e;omega
     have Il:=Zh uP
     refine dP (i:=11) (rs:=[]) (dh (mF (off:=0) uw.out (λW6 jP nY=>?_)) fG)
     refine iH (i:=12) ?_
     exact oG (by kernel_rfl) ⟨rfl,_,_,rfl,hd,hA,aB.bK lX.out jP (λk hk=>by subst hk;exact qK),bv,.slice A4 m4 c4,by simp[jW],qK,nY,Il.out.aW jP (λk hk e=>by subst e;exact JJ hk)⟩
   ·clear hd hA A
    intro vs A W' hd hA ⟨xM,bv,u9,jk,qK,vF,OT⟩
    subst jk
    simp only[List.zip_cons_cons,List.zip_nil_right,List.zip_nil_left]
    obtain⟨y9,rfl⟩:=xM.get
    have v2:=vF.cell (k:=2) (by omega)
    simp[put]at v2
    have hlv:=vF.lt
    clear xM
    clear vF OT
    refine hK _ _ ?_
    repeat'(first|refine aF ?_|refine au ?_|refine ak (λK hK=>?_)|refine aj ?_|refine aC ?_|refine aJ ?_|refine bH ?_|refine bJ ?_|go_step)
    exact aA hd ⟨rfl,HH.out.jc (by simp)⟩
  ·have hs:(c.ctl.ay i).state=2:=Classical.byContradiction hs
   have pY:c.qL i=({c with ctl:=c.ctl.lI i},if c.ctl.mP i=203 then 0 else c.ctl.mP i):=by unfold aO.qL;rw[if_neg (by simp[hid]),if_neg (by simp[hs])]
   rw[pY]
   have hsb:((c.ctl.ay i).state != 2)=false:=by simp[hs]
   have HEX:Hid (∀n:Int,c.ctl.mP i=n→(if c.ctl.mP i=203 then(0:Int) else c.ctl.mP i)=if n=203 then 0 else n):=Zh (λn hn=>by rw[hn])
   clear hid pY hs
   refine Fi (n:=38) Tryz.func59 ?_;intro A hd hA;simp only[ix,Nat.reduceAdd]
   (repeat'(first|refine ak (λK hK=>?_)|refine aj ?_|fail));(refine dI (λx K hK=>?_);go_simp;refine hK _ _ (aB.alloc _ _) ?_;clear hK K;refine aZ x ?_;generalize (World.ah _ x).heap.size=b3;intro yn aU bD bC bG aS;clear x);have qJ:=Zh (cO.new aS.out);have pI:=Zh yn.ext;have qQ:(World.heap w).size≤b3:=aU;generalize World.ah w yn=W0 at *;clear aU bD bC bG aS yn
   have xI:=qJ
   obtain⟨y0,rfl⟩:=pI.out.get
   have Xt:w.heap.size≤b3:=qQ
   have z1:=xI.out.cell (k:=1) (by simp)
   simp at z1
   have O8:=xI.out.lt
   clear qJ pI qQ
   repeat'(first|refine aF ?_|refine au ?_|refine ak (λK hK=>?_)|go_step)
   refine A8 [0,3,5,6] (λvs W'=>aB (w.ah y0) W'∧∃ bv u,vs=[.pointer (some ⟨b,0,none⟩),.pointer (some ⟨b3,0,none⟩),.pointer (some ⟨bv,0,none⟩),.int .i64 0]∧(w.ah y0).heap.size≤bv∧cO W' bv 148 6 (put (λk=> #[Value.int .i64 0,.int .i64 0,.int .i64 0,.slice none 0 0,.int .i64 0,.int .i64 0].getD k undef) 0 [.int .i64 (c.ctl.ay i).session,.int .i64 (c.ctl.ay i).num,.int .i64 (c.ctl.ay i).state,u,.int .i64 (c.ctl.ay i).offset,.int .i64 (c.ctl.ay i).next])∧ig W' u (c.ctl.ay i).parts) hd hA (by decide) ?_ ?_
   ·refine vg [11] (by kernel_rfl) ?_
    refine iH (i:=0) ?_
    refine iH (i:=1) ?_
    refine iH (i:=2) ?_
    refine iH (i:=3) ?_
    refine iH (i:=4) ?_
    refine iH (i:=5) ?_
    refine dP (i:=6) (rs:=[10]) (dh ?_ (dh ?_ fG))
    ·refine jl (R:=λw0 r w'=>aB w0 w'∧∃ u,r=.tuple #[.agg #[.int .i64 (c.ctl.ay i).session,.int .i64 (c.ctl.ay i).num,.int .i64 (c.ctl.ay i).state,u,.int .i64 (c.ctl.ay i).offset,.int .i64 (c.ctl.ay i).next],.int .i64 0]∧ig w' u (c.ctl.ay i).parts∧∀ k,u.ownBlock=some k→w0.heap.size≤k) Tryz.func89 (λz=>lY (HA.out.ctl.ah (Et y0.ext z.ext)) Tv.out) (λz r w4 hR=>?_)
     obtain⟨fD,u4,rfl,uP,J5⟩:=hR
     refine⟨fD,?_⟩
     replace fD:=Et z.ext fD
     obtain⟨A4,m4,c4,rfl⟩:=aT uP
     refine iH (i:=7) ?_
     refine iH (i:=8) ?_
     refine iH (i:=9) ?_
     refine Oc (i:=10) (λq K hK=>?_)
     go_simp;refine hK _ _ _ (aB.alloc _ _) (aB.refl _) ?_;clear hK K;refine qN q ?_;generalize (World.ah _ q).heap.size=bv;intro yb k1 k2 k3 k4 k5;clear q
     have uw:=Zh (cO.new k5.out)
     have UU:(w.ah y0).heap.size≤w4.heap.size:=fD.size
     have qK:(w.ah y0).heap.size≤bv:=Nat.le_trans UU k1
     have lX:=Zh (Et fD yb.ext)
     have JJ:(Value.slice A4 m4 c4).ownBlock≠some bv:=λe=>by have:=uP.lt bv e;omega
     have Il:=Zh (uP.ah yb.ext)
     refine dP (i:=11) (rs:=[]) (dh (mF (off:=0) uw.out (λW6 jP nY=>?_)) fG)
     refine iH (i:=12) ?_
     exact oG (by kernel_rfl) ⟨rfl,_,_,rfl,hd,hA,aB.bK lX.out jP (λk hk=>by subst hk;exact qK),bv,.slice A4 m4 c4,by simp[jW],qK,nY,Il.out.aW jP (λk hk e=>by subst e;exact JJ hk)⟩
    ·refine S_s (λq K hK=>?_)
     go_simp;refine hK _ _ _ (aB.alloc _ _) (aB.refl _) ?_;clear hK K;refine qN q ?_;generalize (World.ah _ q).heap.size=bv;intro yb k1 k2 k3 k4 k5;clear q
     have qK:(w.ah y0).heap.size≤bv:=k1
     have Wh:bv<((w.ah y0).ah yb).heap.size:=k2
     refine dP (i:=6) (rs:=[]) (dh ?_ fG)
     refine jl (R:=λw0 r w'=>aB w0 w'∧∃ u,r=.tuple #[.agg #[.int .i64 (c.ctl.ay i).session,.int .i64 (c.ctl.ay i).num,.int .i64 (c.ctl.ay i).state,u,.int .i64 (c.ctl.ay i).offset,.int .i64 (c.ctl.ay i).next],.int .i64 0]∧ig w' u (c.ctl.ay i).parts∧∀ k,u.ownBlock=some k→w0.heap.size≤k) Tryz.func89 (λz=>lY (HA.out.ctl.ah (Et y0.ext (Et yb.ext z.ext))) Tv.out) (λz r w4 hR=>?_)
     obtain⟨fD,u4,rfl,uP,J5⟩:=hR
     refine⟨fD,?_⟩
     replace fD:=Et z.ext fD
     obtain⟨A4,m4,c4,rfl⟩:=aT uP
     refine iH (i:=7) ?_
     refine iH (i:=8) ?_
     refine iH (i:=9) ?_
     have uw:=Zh ((cO.new k5.out).ah fD)
     have Kr:=z.ext.size
     have lX:=Zh (Et yb.ext fD)
     have JJ:(Value.slice A4 m4 c4).ownBlock≠some bv:=λe=>by have:=J5 bv e;omega
     have Il:=Zh uP
     refine dP (i:=11) (rs:=[]) (dh (mF (off:=0) uw.out (λW6 jP nY=>?_)) fG)
     refine iH (i:=12) ?_
     exact oG (by kernel_rfl) ⟨rfl,_,_,rfl,hd,hA,aB.bK lX.out jP (λk hk=>by subst hk;exact qK),bv,.slice A4 m4 c4,by simp[jW],qK,nY,Il.out.aW jP (λk hk e=>by subst e;exact JJ hk)⟩
   ·clear hd hA A
    intro vs A W' hd hA ⟨xM,bv,u9,jk,qK,vF,OT⟩
    subst jk
    simp only[List.zip_cons_cons,List.zip_nil_right,List.zip_nil_left]
    obtain⟨y9,rfl⟩:=xM.get
    have v2:=vF.cell (k:=2) (by omega)
    simp[put]at v2
    have hlv:=vF.lt
    clear xM
    clear vF OT
    refine hK _ _ ?_
    repeat'(first|refine aF ?_|refine au ?_|refine ak (λK hK=>?_)|refine aj ?_|refine aG ?_|refine aJ ?_|refine bJ ?_|go_step)
    refine dn [(0,0),(1,0),(2,0),(3,0),(4,0),(5,0),(6,2),(7,0),(8,0),(9,0),(10,0)] (by kernel_rfl) (by kernel_rfl) ?_
    repeat'(first|refine aF ?_|fail)
    refine aX Tryz.func101 (Zc i (HA.out.ctl.ah (by simp))) (λr w5 hR=>?_)
    obtain⟨rfl,hm⟩:=hR
    have bP:=HA.out.yt HF.out (by simp) hm (DC i)
    have jG:=Zh bP
    clear bP hm
    generalize hn:c.ctl.mP i=n at *
    have HN:=Zh hn
    clear hn
    by_cases ahX:n=203
    ·subst ahX
     repeat'(first|refine aF ?_|refine aQ ?_|refine au ?_|refine ak (λK hK=>?_)|refine aj ?_|refine aC ?_|refine bH ?_|go_step)
     exact aA hd ⟨rfl,jG.out⟩
    ·have Iu:(n==203)=false:=by simp[ahX]
     repeat'(first|refine aF ?_|refine aQ ?_|refine au ?_|refine ak (λK hK=>?_)|refine aj ?_|refine aC ?_|refine aG ?_|refine bJ ?_|go_step)
     exact aA hd ⟨by rw[if_neg ahX],jG.out⟩
section
variable {P : Program} {Q : jo} {w : World} {A : Act} {fl : List (Nat × Value)} {o : Oper} {ops : Array Oper} {α : Type} {enc : α → List Value} {k : Nat} {E : TypeId} {xs ys : List α}
theorem XZ {rest:List (Oper×Nat)} {s x:Operand} {t:TypeId} {d:Nat} {bytes g n c m c':Nat} {a:Addr} (he:LD P enc k t E bytes) (D8:∀ y∈ys,∀u∈enc y,u.oneCell'=true) (nD:dQ enc k E w (.slice (some ⟨g,0,none⟩) n c) xs) (G7:Rd enc k w (.slice (some a) m c') ys) (Bl:n+m≤c)
  (h:∀ W',bF (· =g) w W'→dQ enc k E W' (.slice (some ⟨g,0,none⟩) (n+m) c) (xs++ys)→jh P ops Q rest (fr ((d,.slice (some ⟨g,0,none⟩) (n+m) c)::fl) A) W')
  (ho:o.op=.call {callee:=.builtin .append,args:= #[s,x],argTypes:= #[t,t]}:=by rfl) (hd:o.dst=some d:=by rfl) (hg:o.guard=none:=by rfl)
  (hs:Is ((fr fl A).eval s) (.slice (some ⟨g,0,none⟩) n c):=by go_simp;exact Is.mk _) (hx:Is ((fr fl A).eval x) (.slice (some a) m c'):=by go_simp;exact Is.mk _):
  jh P ops Q ((o,2)::rest) (fr fl A) w:=by
 refine X_v (λX K hK=>?_) hd hg
 obtain⟨z,hi,hz⟩:=he.info
 obtain⟨i,QC,Jm,zq,Dk⟩:=info_parts hi
 have ho1:=nD.ah X.2
 obtain⟨f,hb,hf⟩:=ho1.gy
 obtain⟨hl,ho2⟩:=ho1
 rcases ho2 with⟨h0,_⟩|⟨g',cap,cur,h0,-,rM,Hl,jT,vV,ht⟩
 ·cases h0
 injection h0 with e1 e2 e3
 injection e1 with e1
 injection e1 with e1
 subst e1 e2 e3
 have hm:m=ys.length∧Src (w.ah X) a (ys.flatMap enc):=by
  rcases(G7.ah X.2).mD he.len with⟨A0,c0,e,rfl⟩|⟨b0,o0,c0,e,hsr,-⟩
  ·injection e with e1 e2 e3
   exact⟨e2,λj u hu=>by simp at hu⟩
  ·injection e with e1 e2 e3
   injection e1 with e1
   subst e1
   exact⟨e2,hsr⟩
 obtain⟨hm,hsr⟩:=hm
 have hk0:=he.pos
 have iR:(ys.flatMap enc).length=m *i.size:=by rw[eH he.len,zq,hm]
 have h1:∀ u∈ys.flatMap enc,u.oneCell'=true:=λu hu=>by
  obtain⟨x,UM,hx⟩:=List.mem_flatMap.1 hu
  exact D8 x UM u hx
 have hle:(xs.length+m) *k≤c *k:=Nat.mul_le_mul_right _ Bl
 rw[Nat.add_mul]at hle
 have hr:=run_append_room (P:=P) (w:=w.ah X) t o.type E i he.ty QC g xs.length c cur rM a m c' (ys.flatMap enc) iR hsr h1 Bl (by rw[zq,iR,zq,vV];exact hle)
 unfold uQ
 rw[uG ho hs.eq hx.eq hr]
 have Fg:cur.toList.length=c *k:=by rw[Array.length_toList,vV]
 have hyl:(ys.flatMap enc).length=m *k:=by rw[iR,zq]
 refine hK _ _ (h _ ?_ ?_)
 ·exact bF.trans X.2 (G:=(· =g)) ⟨rfl,rfl,rfl,by rw[setRow_size];exact Nat.le_refl _,λq hq jm=>setRow_other _ _ _ _ (λe=>jm (by first|exact e|exact e.symm))⟩ (λ_ _ h=>h.elim) (λ_ _ h=>h)
 ·have e:xs.length+m=(xs++ys).length:=by rw[List.length_append,hm]
  rw[e]
  refine⟨eH he.len _,.inr ⟨g,c,_,rfl,Nat.zero_le _,setRow_heap _ _ _ _ _ _ rM,by omega,jT,?_,?_⟩⟩
  ·rw[List.size_toArray,List.length_append,List.length_append,List.length_take,List.length_drop,Fg,hyl,zq]
   omega
  ·have e2:(xs++ys).length *k=xs.length *k+m *k:=by rw[←e,Nat.add_mul]
   have UM:cur.toList.take (xs.length *i.size)=xs.flatMap enc:=by rw[zq,ht]
   rw[List.toList_toArray,UM,e2,List.flatMap_append]
   have NU:(xs.flatMap enc++ys.flatMap enc).length=xs.length *k+m *k:=by rw[List.length_append,eH he.len,hyl]
   rw[←NU];exact List.take_left
end
theorem Tz {Q:jo} {A:Act} {fl:List (Nat×Value)} {ops:Array Oper} {o:Oper} {rest:List (Oper×Nat)} {x:Operand} {w:World} {b n c:Nat} {g:Nat→Value} (off m:Nat) (hb:cO w b 104 n g) (hm:0<m) (hom:off+m *30≤n)
  (h:∀ W' seg,bF (· =b) w W'→cO W' b 104 n (put g off seg)→jh Tryz.prog ops Q rest (fr fl A) W')
  (ho:o.op=.call {callee:=.builtin .clear,args:= #[x],argTypes:= #[65]}:=by rfl) (hd:o.dst=none:=by rfl) (hg:o.guard=none:=by rfl)
  (hx:Is ((fr fl A).eval x) (.slice (some ⟨b,off,none⟩) m c):=by go_simp;exact Is.mk _):jh Tryz.prog ops Q ((o,2)::rest) (fr fl A) w:=by
 refine X_w (λX K hK=>?_) hd hg
 obtain⟨cs,hh,hs,rM⟩:=hb.ah X.2
 have hv:∀ w,(zeroValue 104).run Tryz.prog w=.ok (lF.v ⟨eu.zero,.slice none 0 0,.slice none 0 0,.slice none 0 0⟩) w:=λw=>by kernel_rfl
 obtain⟨news,MI⟩:∃ news,news=(Builtin.zeroCells (lF.v ⟨eu.zero,.slice none 0 0,.slice none 0 0,.slice none 0 0⟩).cells m).toList:=⟨_,rfl⟩
 have hzs:(Builtin.zeroCells (lF.v ⟨eu.zero,.slice none 0 0,.slice none 0 0,.slice none 0 0⟩).cells m).size=m *30:=by rw[size_zeroCells];rfl
 have iR:news.length=m *30:=by rw[MI,Array.length_toList,hzs]
 have D8:∀ u∈news,u.oneCell'=true:=by
  intro u hu
  rw[MI,Array.mem_toList_iff]at hu
  unfold Builtin.zeroCells at hu
  obtain⟨i,-,rfl⟩:=Array.mem_map.1 hu
  have h30:∀ j,j<30→((lF.v ⟨eu.zero,.slice none 0 0,.slice none 0 0,.slice none 0 0⟩).cells[j]!).oneCell'=true:=by decide
  exact h30 _ (Nat.mod_lt _ (by decide))
 have qR:=run_storeCells_at Tryz.prog b off 104 news 0 cs (w.ah X) hh (by rw[iR];omega) D8
 have hr:(Builtin.clear_ #[65] o.type #[.slice (some ⟨b,off,none⟩) m c]).run Tryz.prog (w.ah X)=.ok (.tuple #[]) ((w.ah X).setRow b (cs.toList.take (off+0)++news++cs.toList.drop (off+0+news.length)).toArray):=by
  obtain⟨m',rfl⟩:∃ m',m=m'+1:=⟨m-1,by omega⟩
  simp only[Builtin.clear_]
  simp[run_underlying Tryz.underlying65,hv]
  rw[←MI]
  rw[qR]
  simp[Result.andThen_ok,List.append_assoc]
 unfold uQ execOp
 simp only[ho,resolve,invoke,builtin,Sem.run_bind,Sem.run_pure,Result.andThen_ok,List.map_toArray,List.map_cons,List.map_nil,hx.eq,hr]
 refine hK _ _ (h _ news ?_ ?_)
 ·refine bF.trans X.2 (G:=(· =b)) ⟨rfl,rfl,rfl,by rw[setRow_size];exact Nat.le_refl _,λk hk jm=>setRow_other _ _ _ _ (λe=>jm (by first|exact e|exact e.symm))⟩ (λ_ _ h=>h.elim) (λ_ _ h=>h)
 ·refine⟨_,setRow_heap _ _ _ _ _ _ hh,by simp;omega,λk hk=>?_⟩
  simp only[Nat.add_zero,List.getElem?_toArray]
  unfold put
  have Fg:cs.toList.length=n:=by simp[hs]
  by_cases h1:k<off
  ·rw[if_neg (by omega),List.append_assoc,List.getElem?_append_left (by simp;omega),List.getElem?_take,if_pos h1,←rM k hk,Array.getElem?_toList]
  ·by_cases h2:k<off+m *30
   ·rw[if_pos ⟨by omega,by rw[iR];exact h2⟩,List.getElem?_append_left (by simp;omega),List.getElem?_append_right (by simp;omega)]
    have e:k-(cs.toList.take off).length=k-off:=by simp;omega
    rw[e,List.getD_eq_getElem?_getD]
    have hlt:k-off<news.length:=by rw[iR];omega
    rw[List.getElem?_eq_getElem hlt];rfl
   ·rw[if_neg (by rw[iR];omega),List.getElem?_append_right (by simp;omega),List.getElem?_drop,←rM k hk,Array.getElem?_toList]
    congr 1
    simp;omega
theorem Wi {w:World} {g c i j:Nat} {xs:List lF} (nD:dQ xg 30 104 w (.slice (some ⟨g,0,none⟩) xs.length c) xs) (hi:i<xs.length) (hj:j=i+1) (hc:xs.length≤c) (jT:c≤9223372036854775807) (D8:∀ y∈xs,∀u∈xg y,u.oneCell'=true):gK Tryz.prog 178 #[.slice (some ⟨g,0,none⟩) xs.length c,.int .i64 i,.int .i64 j] w λr w'=>r=.slice (some ⟨g,0,none⟩) (xs.length-1) c∧bF (· =g) w w'∧dQ xg 30 104 w' r (xs.eraseIdx i):=by
 have HO:=Zh nD
 have Wj:=Zh D8
 clear nD D8
 have h1:(i:Int)<xs.length:=by omega
 have h3:(j:Int)≤xs.length:=by omega
 have h4:j≤xs.length:=by omega
 have h5:(i:Int)≤j:=by omega
 have h6:i≤j:=by omega
 have h7:xs.length≤c:=hc
 have jm:((i:Int)==(j:Int))=false:=by rw[beq_eq_false_iff_ne];omega
 have hii:i≤c:=by omega
 have aoE:j≤c:=by omega
 have HJ:=Zh hj
 clear hj
 refine Fi (n:=33) Tryz.func178 ?_;intro A hd hA;simp only[ix,Nat.reduceAdd]
 repeat'(first|refine aF ?_|refine au ?_|refine ak (λK hK=>?_)|refine aj ?_|refine aG ?_|refine bJ ?_|go_step)
 have MK:xs.take i++xs.drop j=xs.eraseIdx i:=by rw[HJ.out,List.eraseIdx_eq_take_drop_succ]
 have hln:i+(xs.length-j)=xs.length-1:=by have:=HJ.out;omega
 have HD:=Zh MK
 clear MK
 by_cases hcj:c=j
 ·have hz:xs.length-j=0:=by omega
  have hdn:xs.drop j=[]:=List.drop_eq_nil_of_le (by omega)
  have HDN:=Zh hdn
  have HZ:=Zh hz
  clear hdn hz
  subst hcj
  refine dA (by kernel_rfl) (by kernel_rfl) ?_
  repeat'(first|refine aF ?_|fail)
  refine XZ (a:=⟨g,0,none⟩) (m:=xs.length-c) (c':=0) (xs:=xs.take i) (ys:=xs.drop c) JZ (λy hy=>Wj.out y (List.mem_of_mem_drop hy)) (HO.out.pre (λ_=>rfl) (by omega)) (by rw[HDN.out,HZ.out];exact⟨_,0,rfl,Nat.le_refl _,by unfold maxLen;omega,.inl ⟨.inr rfl,rfl⟩⟩) (by omega) (λW1 fM Ba=>?_)
  rw[HD.out]at Ba
  have aU:i+(xs.length-c)+1=xs.length:=by have:=HJ.out;omega
  have QN:=Zh Ba
  have EO:=Zh fM
  generalize i+(xs.length-c)=n at *
  have hcn:¬ c=n:=by omega
  have hnl:(n:Int)≤xs.length:=by omega
  have ahA:n≤xs.length:=by omega
  have Uw:xs.length-1=n:=by omega
  have HXM:=Zh Uw
  clear Ba fM Uw hln
  repeat'(first|refine aF ?_|refine aQ ?_|refine ak (λK hK=>?_)|refine aj ?_|go_step)
  obtain⟨f,hb,hf⟩:=QN.out.gy
  refine Tz (n *30) (xs.length-n) hb (by omega) (by omega) (λW2 seg kL Fh=>?_)
  have Ey:dQ xg 30 104 W2 (.slice (some ⟨g,0,none⟩) n c) (xs.eraseIdx i):=by
   have hl:(xs.eraseIdx i).length=n:=by rw[List.length_eraseIdx];split<;>omega
   rw[←hl]
   refine dQ.Rl (enc:=xg) (k:=30) (λ_=>rfl) Fh (by omega) jT λq u hu=>?_
   have hq:=(Ge hu).1
   rw[eH (enc:=xg) (k:=30) (λ_=>rfl),hl]at hq
   rw[oH (by omega)]
   exact hf q u hu
  have Zg:=Zh Ey
  have IK:=Zh (bF.trans EO.out kL (H:=(· =g)) (λ_ _ h=>h) (λ_ _ h=>h))
  clear Ey kL Fh hf hb
  repeat'(first|refine aF ?_|refine au ?_|refine ak (λK hK=>?_)|refine aj ?_|refine aC ?_|go_step)
  exact aA hd ⟨by rw[HXM.out],IK.out,Zg.out⟩
 ·refine dA (by kernel_rfl) (by kernel_rfl) ?_
  repeat'(first|refine aF ?_|fail)
  refine XZ (xs:=xs.take i) (ys:=xs.drop j) JZ (λy hy=>Wj.out y (List.mem_of_mem_drop hy)) (HO.out.pre (λ_=>rfl) (by omega)) (by have:=Rd.from (enc:=xg) (k:=30) (dQ.rd (enc:=xg) (k:=30) (λ_=>rfl) HO.out) h4 (λh=>hcj h.symm);exact this) (by omega) (λW1 fM Ba=>?_)
  rw[HD.out]at Ba
  have aU:i+(xs.length-j)+1=xs.length:=by have:=HJ.out;omega
  have QN:=Zh Ba
  have EO:=Zh fM
  generalize i+(xs.length-j)=n at *
  have hcn:¬ c=n:=by omega
  have hnl:(n:Int)≤xs.length:=by omega
  have ahA:n≤xs.length:=by omega
  have Uw:xs.length-1=n:=by omega
  have HXM:=Zh Uw
  clear Ba fM Uw hln
  repeat'(first|refine aF ?_|refine aQ ?_|refine ak (λK hK=>?_)|refine aj ?_|go_step)
  obtain⟨f,hb,hf⟩:=QN.out.gy
  refine Tz (n *30) (xs.length-n) hb (by omega) (by omega) (λW2 seg kL Fh=>?_)
  have Ey:dQ xg 30 104 W2 (.slice (some ⟨g,0,none⟩) n c) (xs.eraseIdx i):=by
   have hl:(xs.eraseIdx i).length=n:=by rw[List.length_eraseIdx];split<;>omega
   rw[←hl]
   refine dQ.Rl (enc:=xg) (k:=30) (λ_=>rfl) Fh (by omega) jT λq u hu=>?_
   have hq:=(Ge hu).1
   rw[eH (enc:=xg) (k:=30) (λ_=>rfl),hl]at hq
   rw[oH (by omega)]
   exact hf q u hu
  have Zg:=Zh Ey
  have IK:=Zh (bF.trans EO.out kL (H:=(· =g)) (λ_ _ h=>h) (λ_ _ h=>h))
  clear Ey kL Fh hf hb
  repeat'(first|refine aF ?_|refine au ?_|refine ak (λK hK=>?_)|refine aj ?_|refine aC ?_|go_step)
  exact aA hd ⟨by rw[HXM.out],IK.out,Zg.out⟩
theorem acy (a:Option Addr) (n c:Nat) (w:World):(binOp .eql 65 (.slice a n c) (.slice none 0 0)).run Tryz.prog w=.ok (.bool a.isNone) w:=by
 cases a<;>rfl
theorem Qo {w:World} {v:Value} {l:List lF} (hl:Rd xg 30 w v l) (hn:l.length≤1000000) (D8:∀ y∈l,∀u∈xg y,u.oneCell'=true):gK Tryz.prog 179 #[v] w λv' w'=>aB w w'∧dQ xg 30 104 w' v' l∧∀ b,v'.ownBlock=some b→w.heap.size≤b:=by
 have zu:=Zh hl
 have Wj:=Zh D8
 obtain⟨A0,c,rfl,hc,jT,HA⟩:=hl
 clear HA D8
 cases A0 with
 | none=>
  have wF:l=[]:=by
   obtain⟨A',c',h1,_,_,h4⟩:=zu.out
   cases h1
   rcases h4 with⟨_,h⟩|⟨b,o,h,_⟩
   ·exact h
   ·cases h
  subst wF
  have g:=λw=>acy none 0 c w
  refine Fi (n:=8) Tryz.func179 ?_;intro A hd hA;simp only[ix,Nat.reduceAdd]
  repeat'(first|refine aF ?_|refine au ?_|refine ak (λK hK=>?_)|refine aj ?_|refine aC ?_|refine bH ?_|go_step)
  exact aA hd ⟨by simp,dQ.nil _,by intro b hb;cases hb⟩
 | some a=>
  have g:=λw=>acy (some a) l.length c w
  refine Fi (n:=8) Tryz.func179 ?_;intro A hd hA;simp only[ix,Nat.reduceAdd]
  repeat'(first|refine aF ?_|refine au ?_|refine ak (λK hK=>?_)|refine aj ?_|refine aG ?_|(refine dI (λx K hK=>?_);go_simp;refine hK _ _ (aB.alloc _ _) ?_;clear hK K;refine aZ x ?_;generalize (World.ah _ x).heap.size=bn;intro yn aU bD bC bG aS;clear x)|refine bJ ?_|go_step)
  refine LG (xs:=[]) (ys:=l) JZ Wj.out (dQ.empty aS.out) (zu.out.ah (by simp)) (by simp;omega) (by unfold maxLen;simp;omega) (λv' W' hM hO hF=>?_)
  repeat'(first|refine aF ?_|refine au ?_|refine aC ?_|go_step)
  refine aA hd ⟨aB.bK yn.2 hM (λb hb=>by cases hb;exact aU),hO,λb hb=>?_⟩
  have hs:w.heap.size≤(w.ah yn).heap.size:=yn.2.size
  rcases hF with h|⟨g,h,hg⟩
  ·rw[h]at hb;cases hb;exact aU
  ·rw[h]at hb;cases hb;omega
theorem qA {w:World} {b:Nat} {F:Nat→Prop} {c:aO} (x:bV) (h:iO w b F c):Pure Tryz.prog 117 #[.pointer (some ⟨b,0,none⟩),x.v] w (if c.iq.length=0 then .tuple #[.int .i64 0,.int .i64 5] else .tuple #[.int .i64 (c.l7 x.a:Nat),.int .i64 0]):=by
 obtain⟨kind,xa,xb,xc⟩:=x
 dsimp only
 obtain⟨A0,h0,hF⟩:=h
 obtain⟨hlt,-,-,-,-,-,c5⟩:=h0.cells
 obtain⟨AB,nB,cB,hB⟩:=aT h0.iq
 have hnB:nB=c.iq.length:=by have h1:=dQ.rd (enc:=xg) (k:=30) (λ_=>rfl) h0.iq;rw[hB]at h1;rw[←h0.bm,List.length_map];exact(h1.length).symm▸rfl
 rw[hB]at c5
 subst hnB
 have VX:=h0.bU.Ql
 have Nc:c.l7 xa=(xa.emod c.iq.length).toNat:=rfl
 clear h0 hF hB
 by_cases h0:c.iq.length=0
 ·rw[if_pos h0]
  have hz:((c.iq.length:Int)==0)=true:=by simp[h0]
  clear h0
  refine Fi (n:=22) Tryz.func117 ?_;intro A hd hA;simp only[ix,Nat.reduceAdd]
  repeat'(first|refine aF ?_|refine au ?_|refine ak (λK hK=>?_)|refine aj ?_|refine aC ?_|(refine dI (λx K hK=>?_);go_simp;refine hK _ _ (aB.alloc _ _) ?_;clear hK K;refine aZ x ?_;generalize (World.ah _ x).heap.size=bn;intro yn aU bD bC bG aS;clear x)|refine bH ?_|go_step)
  exact dB hd ⟨rfl,by simp⟩
 ·rw[if_neg h0]
  generalize hn:c.iq.length=n at *
  have hz:((n:Int)==0)=false:=by rw[beq_eq_false_iff_ne];omega
  have Xp:¬ n=0:=h0
  have hnp:(0:Int)<n:=by omega
  have hr0: -(n:Int)<xa.tmod n∧xa.tmod n<n:=by
   have h1:=Int.tmod_lt_of_pos xa hnp
   have h2:=Int.tmod_lt_of_pos (-xa) hnp
   rw[Int.neg_tmod]at h2
   omega
  have QV:xa.tmod n+n<9223372036854775808:=by omega
  have NV:0≤xa.tmod n+n:=by omega
  have hem:(xa.tmod n+n).tmod n=(((xa.emod n).toNat:Nat):Int):=by
   have jm:(n:Int)≠0:=by omega
   rw[Int.tmod_eq_emod_of_nonneg NV]
   rw[show (((xa.emod n).toNat:Nat):Int)=xa%n from Int.toNat_of_nonneg (Int.emod_nonneg xa jm)]
   rw[Int.add_emod_right]
   have hd:=Int.mul_tdiv_add_tmod xa n
   have:xa.tmod n=xa+n *(-(xa.tdiv n)):=by rw[Int.mul_neg];omega
   rw[this]
   exact Int.add_mul_emod_self_left xa n _
  rw[Nc]
  clear h0 hn Nc hr0
  refine Fi (n:=22) Tryz.func117 ?_;intro A hd hA;simp only[ix,Nat.reduceAdd]
  repeat'(first|refine aF ?_|refine au ?_|refine ak (λK hK=>?_)|refine aj ?_|refine aC ?_|refine aG ?_|(refine dI (λx K hK=>?_);go_simp;refine hK _ _ (aB.alloc _ _) ?_;clear hK K;refine aZ x ?_;generalize (World.ah _ x).heap.size=bn;intro yn aU bD bC bG aS;clear x)|refine bJ ?_|go_step)
  exact dB hd ⟨by rw[←hem],by simp⟩
section
variable {P : Program} {Q : jo} {A : Act} {fl : List (Nat × Value)} {ops : Array Oper} {o : Oper} {w : World}
theorem OU {rest:List (Oper×Nat)} {x:Operand} {t:TypeId} {d b off:Nat} {cs:List Value} {td:TypeDesc} (hb:b<w.heap.size) (hc:∀ j u,cs[j]? =some u→w.cell? ⟨b,off+j,none⟩=some u)
  (h:jh P ops Q rest (fr ((d,.agg cs.toArray)::fl) A) w) (ho:o.op=.load t x:=by rfl) (hd:o.dst=some d:=by rfl) (hg:o.guard=none:=by rfl)
  (hu:P.underlying t=some td:=by kernel_rfl) (Xd:td.isRow=true:=by rfl) (hi:(P.info? t).map (·.size)=some cs.length:=by kernel_rfl)
  (hx:Is ((fr fl A).eval x) (.pointer (some ⟨b,off,none⟩)):=by go_simp;exact Is.mk _):jh P ops Q ((o,0)::rest) (fr fl A) w:=
 aF h hd hg λX=>by
  have:=run_loadAt_mid (P:=P) (w.ah X) b off t cs td (λj v hv=>(bI X.2 hb (λh=>h)).trans (hc j v hv)) hu Xd (by simpa using hi)
  unfold Oper.quietAt execOp
  simp only[ho,hx.eq,this,Sem.run_bind,Result.andThen_ok,Sem.run_pure,Oper.quietUpon]
  exact⟨trivial,trivial⟩
end
theorem X3 {w:World} {b i:Nat} {F:Nat→Prop} {A0:og} {c:aO} {y:lF} (h:iJ w b A0 c) (hF:∀ k,A0.T k≠0→F k) (hy:A0.ms[i]? =some y):gK Tryz.prog 119 #[.pointer (some ⟨b,0,none⟩),.int .i64 i] w λr w'=>r=y.v∧
  ∃A',iJ w' b A' (c.lq i)∧(∀k,A'.T k≠0→F k∨w.heap.size≤k)∧bF F w w'∧zl w' A'.T y:=by
 have HA:=Zh h
 have HF:=Zh hF
 have HY:=Zh hy
 have ou:=h.inner y (List.mem_of_getElem? hy)
 have Lp:=Zh ou
 obtain⟨g,c',iZ,Dq,jT,Ib,iK⟩:=dQ.at (enc:=xg) (k:=30) (λ_=>rfl) h.iq hy
 obtain⟨hlt,-,-,-,-,-,c5⟩:=h.cells
 rw[iZ]at c5
 have xH:=Zh iZ
 have Xm:i<A0.ms.length:=(Ge hy).1
 have VX:A0.ms.length≤256:=by have:=h.bU.Ql;rw[←h.bm,List.length_map]at this;exact this
 have hii:(i:Int)<A0.ms.length:=by omega
 obtain⟨m,uV,uE,uA⟩:=y
 obtain⟨A1,n1,c1,h1⟩:=aT ou.v
 obtain⟨A2,n2,c2,h2⟩:=aT ou.e
 obtain⟨A3,n3,c3,h3⟩:=aT ou.a
 dsimp only at h1 h2 h3
 subst h1 h2 h3
 have D8:∀ q∈A0.ms,∀u∈xg q,u.oneCell'=true:=λq hq=>by
  have h4:=h.inner q hq
  obtain⟨B1,p1,d1,e1⟩:=aT h4.v
  obtain⟨B2,p2,d2,e2⟩:=aT h4.e
  obtain⟨B3,p3,d3,e3⟩:=aT h4.a
  exact XY e1 e2 e3
 have Wj:=Zh D8
 have HC:=Zh iK
 obtain⟨j,hj⟩:∃ j:Nat,j=i+1:=⟨_,rfl⟩
 have hij:(i:Int)+1=(j:Int):=by omega
 have hjr:(j:Int)<9223372036854775808:=by omega
 have HJ:=Zh hj
 clear h hF hy ou iZ D8 iK hj
 refine Fi (n:=26) Tryz.func119 ?_;intro A hd hA;simp only[ix,Nat.reduceAdd]
 (repeat'(first|refine ak (λK hK=>?_)|refine aj ?_|fail));(refine dI (λx K hK=>?_);go_simp;refine hK _ _ (aB.alloc _ _) ?_;clear hK K;refine aZ x ?_;generalize (World.ah _ x).heap.size=b4;intro yn aU bD bC bG aS;clear x);have uq:=Zh (cO.new aS.out);have wB:=Zh yn.ext;have Ll:(World.heap w).size≤b4:=aU;generalize World.ah w yn=W0 at *;clear aU bD bC bG aS yn
 have qF:=uq
 obtain⟨y0,rfl⟩:=wB.out.get
 have hw4:w.heap.size≤b4:=Ll
 clear uq wB Ll
 repeat'(first|refine aF ?_|refine au ?_|refine ak (λK hK=>?_)|refine aj ?_|go_step)
 refine OU (off:=i *30) (cs:=xg ⟨m,.slice A1 n1 c1,.slice A2 n2 c2,.slice A3 n3 c3⟩) (Nat.lt_of_lt_of_le Ib y0.ext.size) (λq u hu=>(bI y0.ext Ib (λh=>h)).trans (HC.out q u hu)) ?_ (hu:=Tryz.underlying104)
 repeat'(first|refine aF ?_|refine au ?_|(refine jr (λyn bn aU bD bC bG aS=>?_))|refine ak (λK hK=>?_)|refine aj ?_|go_step)
 refine aX Tryz.func179 (Qo (l:=A0.ms) (by have h:=dQ.rd (enc:=xg) (k:=30) (λ_=>rfl) HA.out.iq;rw[xH.out]at h;exact h.ah (by simp)) (by omega) Wj.out) (λr w3 hR=>?_)
 obtain⟨jX,zy,yM⟩:=hR
 have pX:=(cO.new aS.out).ah jX
 have auV:b4<bn:=Nat.lt_of_lt_of_le qF.out.lt aU
 have hrf:∀ q,r.ownBlock=some q→bn<q:=λq hq=>Nat.lt_of_lt_of_le bD (yM q hq)
 have hsh:=zy.G6
 rcases hsh with⟨-,he⟩|⟨gc,cc,rfl,VW,Uz,Zv⟩
 ·rw[he]at Xm;simp at Xm
 have hgc:bn<gc:=hrf gc rfl
 have sD:aB w w3:=Et (by simp) jX
 have ak0:=Zh sD
 have Ox:=Zh zy
 have FD:Hid (cO w3 bn 104 30 (λk=>(xg ⟨m,.slice A1 n1 c1,.slice A2 n2 c2,.slice A3 n3 c3⟩).getD k undef)):=Zh (pX.congr (g':=λk=>(xg ⟨m,.slice A1 n1 c1,.slice A2 n2 c2,.slice A3 n3 c3⟩).getD k undef) (λk hk=>match k,hk with|0,_=>rfl|1,_=>rfl|2,_=>rfl|3,_=>rfl|4,_=>rfl|5,_=>rfl|6,_=>rfl|7,_=>rfl|8,_=>rfl|9,_=>rfl|10,_=>rfl|11,_=>rfl|12,_=>rfl|13,_=>rfl|14,_=>rfl|15,_=>rfl|16,_=>rfl|17,_=>rfl|18,_=>rfl|19,_=>rfl|20,_=>rfl|21,_=>rfl|22,_=>rfl|23,_=>rfl|24,_=>rfl|25,_=>rfl|26,_=>rfl|27,_=>rfl|28,_=>rfl|29,_=>rfl|n+30,h=>absurd h (by simp)))
 have auW:w.heap.size≤bn:=Nat.le_trans y0.ext.size aU
 replace qF:=Zh ((qF.out.ah (by simp)).ah jX)
 have HBC:=Zh (HA.out.gy.ah sD)
 clear jX zy yM pX hrf aU bD bC bG aS sD c5
 repeat'(first|refine aF ?_|fail)
 refine aX Tryz.func178 (Wi Ox.out Xm HJ.out VW Uz Wj.out) (λr w4 hR=>?_)
 obtain⟨rfl,wO,uP⟩:=hR
 have auX:w.heap.size≤gc:=by omega
 have ao7:b≠gc:=by omega
 have ahZ:=Zh (aB.bK ak0.out wO (λk hk=>by subst hk;omega))
 replace FD:=Zh (FD.out.aW wO (by omega))
 replace qF:=Zh (qF.out.aW wO (by omega))
 replace HBC:=Zh (HBC.out.aW wO ao7)
 have HO4:=Zh uP
 clear wO uP Ox ak0
 repeat'(first|refine aF ?_|fail)
 refine aY (off:=5) HBC.out (λW6 jP nY=>?_)
 have hgd:(c.lq i).dH:=wE HA.out.bU i
 obtain⟨T',Xl,Pv,QI⟩:=HA.out.acw (aB.refl w) (w2:=w4) (bF.mono ahZ.out.aW (λ_ _ h=>h)) HO4.out (λk hk=>.inr (by have hkg:gc=k:=Option.some.inj hk;omega)) (λq hq=>.inl (List.mem_of_mem_eraseIdx hq)) jP (nY.congr (λq hq=>OQ q hq)) (c':=c.lq i) (by
  unfold aO.lq
  rw[←HA.out.bm,List.eraseIdx_eq_take_drop_succ,List.map_append,List.map_take,List.map_drop]) hgd
 have G9:zl W6 T' ⟨m,.slice A1 n1 c1,.slice A2 n2 c2,.slice A3 n3 c3⟩:=((Lp.out.aW ahZ.out.aW (λ_ _ h=>h)).aW jP (λk hk e=>by subst e;rw[HA.out.tb]at hk;omega)).aaN (λk hk=>by rw[Pv k (by rw[hk];decide)];exact hk)
 have HC':=Zh Xl
 have HT2:=Zh QI
 have Fb:=Zh G9
 have hb5:bn≠b:=by omega
 replace FD:=Zh (FD.out.aW jP hb5)
 have hb4:b4≠b:=by omega
 replace qF:=Zh (qF.out.aW jP hb4)
 have Jv:=Zh (bF.trans ahZ.out jP (H:=λq=>q=b) (λ_ _ h=>h.elim) (λ_ _ h=>h))
 clear Xl Pv QI G9 jP nY hgd
 repeat'(first|refine au ?_|refine ak (λK hK=>?_)|refine aj ?_|go_step)
 refine yR FD.out ?_ (hu:=Tryz.underlying104)
 have zA:(Value.agg ((List.range 30).map λk=>(xg ⟨m,.slice A1 n1 c1,.slice A2 n2 c2,.slice A3 n3 c3⟩).getD k undef).toArray)=(lF.v ⟨m,.slice A1 n1 c1,.slice A2 n2 c2,.slice A3 n3 c3⟩):=rfl
 rw[zA]
 clear zA
 skip
 refine aY (off:=0) qF.out (λW7 hM7 hB7=>?_)
 have au3:w.heap.size≤b4:=hw4
 have hTz:T' b4=0:=Classical.byContradiction λhh=>by
  rcases HT2.out b4 hh with h1|⟨-,h1|h1⟩
  ·have:=HA.out.lt b4 h1;omega
  ·have hg:gc=b4:=Option.some.inj h1;omega
  ·omega
 have hc7:=HC'.out.aW hM7 (λk hk e=>by subst e;exact hk hTz)
 have hf7:=Fb.out.aW hM7 (λk hk e=>by subst e;rw[hTz]at hk;cases hk)
 have ak5:bF (λq=>q=b) w W7:=bF.trans Jv.out hM7 (λ_ _ h=>h) (λq hq e=>by omega)
 have FC:F b:=HF.out b (by rw[HA.out.tb];decide)
 have ah4:=Zh (And.intro hc7 (And.intro hf7 ak5))
 have uK:=Zh hB7
 clear hc7 hf7 ak5 hM7 hB7
 repeat'(first|refine au ?_|refine aC ?_|go_step)
 refine jH (cs:=xg ⟨m,.slice A1 n1 c1,.slice A2 n2 c2,.slice A3 n3 c3⟩) hd ⟨rfl,_,ah4.out.1,λk hk=>?_,bF.mono ah4.out.2.2 (λq _ e=>by subst e;exact FC),ah4.out.2.1⟩ uK.out (λk hk=>Ns k hk) Tryz.underlying104
 rcases HT2.out k hk with h1|⟨h1,-⟩
 ·exact .inl (HF.out k h1)
 ·exact .inr h1
structure uy (w:World) (b b2 b3:Nat) (A0:og) (c:aO) (x:lF):Prop where
 Jc:iJ w b A0 c
 h2:kH w b2 (.pointer (some ⟨b,0,none⟩))
 h3:cO w b3 104 30 (λk=>(xg x).getD k undef)
 n2:A0.T b2=0
 n3:A0.T b3=0
 rd:Ja w x
 tv:∀ k,x.uV.ownBlock=some k→A0.T k=0∨A0.T k=6
structure Gw (w:World) (b5:Nat) (A0:og) (c:aO) (x:lF) (p i q:Nat) (ps:List Nat):Prop where
 h5:kH w b5 (.pointer (some ⟨q,0,none⟩))
 hp:p<c.ctl.form.parts.toNat
 hi:i<c.ctl.form.aK.toNat
 wK:A0.ptrs[p]? =some ps
 hq:ps[i]? =some q
 xp:x.m.part=p
 xi:x.m.to=i
theorem uy.rep {w:World} {b b2 b3 b5:Nat} {A0:og} {c:aO} {x:lF} {p i q:Nat} {ps:List Nat} (h:uy w b b2 b3 A0 c x) (hr:Gw w b5 A0 c x p i q ps):oD w q (λk=>A0.T k=16+4 *p+i) (c.rep x.m.part x.m.to)∧(c.rep x.m.part x.m.to).oU:=by
 obtain⟨u,ps',q',-,acv,-,-,nG,-,h1,h2⟩:=h.Jc.rep hr.hp hr.hi
 rw[hr.wK]at acv
 cases acv
 rw[hr.hq]at nG
 cases nG
 rw[hr.xp,hr.xi];exact⟨h1,h2⟩
theorem eP.ah {w w1 w2:World} {b:Nat} {F:Nat→Prop} {c:aO} (h:eP w b F c w1) (hE:aB w1 w2):eP w b F c w2:=
 ⟨bF.trans h.1 hE (λ_ _ h=>h) (λ_ _ h=>h.elim),h.2.ah hE⟩
section
variable {w : World} {b b2 b3 b5 : Nat} {A0 : og} {c : aO} {x : lF} {p i q : Nat} {ps : List Nat} {F : Nat → Prop}
theorem Jd (h:uy w b b2 b3 A0 c x) (hF:∀ k,A0.T k≠0→F k) (hr:Gw w b5 A0 c x p i q ps):gK Tryz.prog 167 #[.pointer (some ⟨b5,0,none⟩),.pointer (some ⟨b3,0,none⟩)] w λr w'=>r=.int .i64 ((c.rep x.m.part x.m.to).oI x.m.ent)∧eP w b F (c.aP x.m.part x.m.to ((c.rep x.m.part x.m.to).app x.m.ent)) w':=by
 have HC:=Zh h
 have HF:=Zh hF
 obtain⟨Av,cv,hv,-⟩:=h.rd.v.int
 obtain⟨Ae,ce,he,-⟩:=h.rd.e.ent
 obtain⟨Aa,ca,ha,-⟩:=h.rd.a.int
 obtain⟨jy,gu⟩:=h.rep hr
 have HR:=Zh hr
 have qy:=Zh jy
 have oW:=Zh gu
 obtain⟨l5,x5⟩:=hr.h5
 have v24:=h.h3.cell (k:=24) (by omega)
 have v25:=h.h3.cell (k:=25) (by omega)
 have v26:=h.h3.cell (k:=26) (by omega)
 have v27:=h.h3.cell (k:=27) (by omega)
 have v28:=h.h3.cell (k:=28) (by omega)
 have v29:=h.h3.cell (k:=29) (by omega)
 simp at v24 v25 v26 v27 v28 v29
 have l3:=h.h3.lt
 clear h hF hr jy gu
 refine Fi (n:=13) Tryz.func167 ?_;intro A hd hA;simp only[ix,Nat.reduceAdd]
 repeat'(first|refine aF ?_|refine au ?_|refine ak (λK hK=>?_)|refine aj ?_|go_step)
 refine aX Tryz.func120 (KW qy.out oW.out.bU.ne oW.out.bU.ok oW.out.bU.len x.m.ent) (λr w2 hR=>?_)
 obtain⟨rfl,hM,AU⟩:=hR
 have bP:=HC.out.Jc.Jb HF.out (aB.refl _) HR.out.hp HR.out.hi HR.out.wK HR.out.hq hM AU (CV oW.out _)
 rw[←HR.out.xp,←HR.out.xi]at bP
 have jG:=Zh bP
 clear bP hM AU
 repeat'(first|refine aF ?_|refine au ?_|refine ak (λK hK=>?_)|refine aj ?_|refine aC ?_|go_step)
 exact aA hd ⟨rfl,jG.out⟩
theorem TA (h:uy w b b2 b3 A0 c x) (hF:∀ k,A0.T k≠0→F k) (hr:Gw w b5 A0 c x p i q ps):gK Tryz.prog 168 #[.pointer (some ⟨b5,0,none⟩),.pointer (some ⟨b3,0,none⟩)] w λr w'=>r=.int .i64 (((c.rep x.m.part x.m.to).learn x.m.view).2)∧eP w b F (c.aP x.m.part x.m.to ((c.rep x.m.part x.m.to).learn x.m.view).1) w':=by
 have HC:=Zh h
 have HF:=Zh hF
 obtain⟨Av,cv,hv,-⟩:=h.rd.v.int
 obtain⟨Ae,ce,he,-⟩:=h.rd.e.ent
 obtain⟨Aa,ca,ha,-⟩:=h.rd.a.int
 obtain⟨jy,gu⟩:=h.rep hr
 have HR:=Zh hr
 have qy:=Zh jy
 have oW:=Zh gu
 obtain⟨l5,x5⟩:=hr.h5
 have v3:=h.h3.cell (k:=3) (by omega)
 have v4:=h.h3.cell (k:=4) (by omega)
 have v5:=h.h3.cell (k:=5) (by omega)
 have v6:=h.h3.cell (k:=6) (by omega)
 simp at v3 v4 v5 v6
 rw[hv]at v6
 have l3:=h.h3.lt
 clear h hF hr jy gu
 have Xi:VV w (.agg #[.int .i64 x.m.view.leader,.int .i64 x.m.view.epoch,.int .i64 x.m.view.version,.slice Av x.m.view.isr.length cv]) x.m.view:=⟨_,rfl,by have h:=HC.out.rd.v;rw[hv]at h;exact h⟩
 have HVV:=Zh Xi
 have jm:∀ a b c u,Value.agg #[.int .i64 x.m.view.leader,.int .i64 x.m.view.epoch,.int .i64 x.m.view.version,.slice Av x.m.view.isr.length cv]=.agg #[a,b,c,u]→∀ k,u.ownBlock=some k→x.m.view.isr=[]∨¬ A0.T k=16+4 *p+i:=by
  intro a1 a2 a3 u e k hk
  have:u=.slice Av x.m.view.isr.length cv:=by injection e with e;simp at e;exact e.2.2.2.symm
  rw[this,←hv]at hk
  right
  intro e2
  rcases HC.out.tv k hk with h|h<;>omega
 have HNE:=Zh jm
 clear Xi jm hv he ha
 refine Fi (n:=7) Tryz.func168 ?_;intro A hd hA;simp only[ix,Nat.reduceAdd]
 repeat'(first|refine aF ?_|refine au ?_|refine ak (λK hK=>?_)|refine aj ?_|go_step)
 refine aX Tryz.func169 (P6 qy.out oW.out.bU.ne HVV.out HNE.out) (λr w2 hR=>?_)
 obtain⟨rfl,hM,AU⟩:=hR
 have bP:=HC.out.Jc.Jb HF.out (aB.refl _) HR.out.hp HR.out.hi HR.out.wK HR.out.hq hM AU (LM oW.out _)
 rw[←HR.out.xp,←HR.out.xi]at bP
 have jG:=Zh bP
 clear bP hM AU
 repeat'(first|refine aF ?_|refine au ?_|refine aC ?_|go_step)
 exact aA hd ⟨rfl,jG.out⟩
theorem TB (h:uy w b b2 b3 A0 c x) (hF:∀ k,A0.T k≠0→F k) (hr:Gw w b5 A0 c x p i q ps):gK Tryz.prog 172 #[.pointer (some ⟨b5,0,none⟩),.pointer (some ⟨b3,0,none⟩)] w λr w'=>r=.int .i64 ((c.rep x.m.part x.m.to).lD x.m.reply)∧eP w b F (c.aP x.m.part x.m.to ((c.rep x.m.part x.m.to).take x.m.reply)) w':=by
 have HC:=Zh h
 have HF:=Zh hF
 obtain⟨Av,cv,hv,-⟩:=h.rd.v.int
 obtain⟨Ae,ce,he,-⟩:=h.rd.e.ent
 obtain⟨Aa,ca,ha,-⟩:=h.rd.a.int
 obtain⟨jy,gu⟩:=h.rep hr
 have HR:=Zh hr
 have qy:=Zh jy
 have oW:=Zh gu
 obtain⟨l5,x5⟩:=hr.h5
 have v12:=h.h3.cell (k:=12) (by omega)
 have v13:=h.h3.cell (k:=13) (by omega)
 have v14:=h.h3.cell (k:=14) (by omega)
 have v15:=h.h3.cell (k:=15) (by omega)
 have v16:=h.h3.cell (k:=16) (by omega)
 have v17:=h.h3.cell (k:=17) (by omega)
 have v18:=h.h3.cell (k:=18) (by omega)
 have v19:=h.h3.cell (k:=19) (by omega)
 simp at v12 v13 v14 v15 v16 v17 v18 v19
 rw[he]at v18
 have l3:=h.h3.lt
 clear h hF hr jy gu
 have DL:yQ w (.slice Ae x.m.reply.entries.length ce) x.m.reply.entries:=by have h:=HC.out.rd.e;rw[he]at h;exact h
 have HRD:=Zh DL
 clear DL hv he ha
 refine Fi (n:=7) Tryz.func172 ?_;intro A hd hA;simp only[ix,Nat.reduceAdd]
 repeat'(first|refine aF ?_|refine au ?_|refine ak (λK hK=>?_)|refine aj ?_|go_step)
 refine aX Tryz.func173 (abT (p:=x.m.reply) qy.out oW.out.bU.ne oW.out.bU.BN oW.out.bU.len HRD.out HC.out.rd.le) (λr w2 hR=>?_)
 obtain⟨rfl,hM,AU⟩:=hR
 have bP:=HC.out.Jc.Jb HF.out (aB.refl _) HR.out.hp HR.out.hi HR.out.wK HR.out.hq hM AU (Ii oW.out _)
 rw[←HR.out.xp,←HR.out.xi]at bP
 have jG:=Zh bP
 clear bP hM AU
 repeat'(first|refine aF ?_|refine au ?_|refine aC ?_|go_step)
 exact aA hd ⟨rfl,jG.out⟩
theorem TD (h:uy w b b2 b3 A0 c x) (hF:∀ k,A0.T k≠0→F k):gK Tryz.prog 174 #[.pointer (some ⟨b2,0,none⟩),.pointer (some ⟨b3,0,none⟩)] w λr w'=>r=.int .i64 (c.ctl.nS x.m.part x.m.alter.leader x.m.alter.epoch x.m.alter.version x.m.alter.isr)∧eP w b F ({c with ctl:=c.ctl.alter x.m.part x.m.alter.leader x.m.alter.epoch x.m.alter.version x.m.alter.isr}) w':=by
 have HC:=Zh h
 have HF:=Zh hF
 obtain⟨Av,cv,hv,-⟩:=h.rd.v.int
 obtain⟨Ae,ce,he,-⟩:=h.rd.e.ent
 obtain⟨Aa,ca,ha,-⟩:=h.rd.a.int
 obtain⟨l2,x2⟩:=h.h2
 obtain⟨hlt,-,-,-,cm3,-,-⟩:=h.Jc.cells
 have v2:=h.h3.cell (k:=2) (by omega)
 have v20:=h.h3.cell (k:=20) (by omega)
 have v21:=h.h3.cell (k:=21) (by omega)
 have v22:=h.h3.cell (k:=22) (by omega)
 have v23:=h.h3.cell (k:=23) (by omega)
 simp at v2 v20 v21 v22 v23
 rw[ha]at v23
 have l3:=h.h3.lt
 clear h hF
 have DL:BU w (.slice Aa x.m.alter.isr.length ca) x.m.alter.isr:=by have h:=HC.out.rd.a;rw[ha]at h;exact h
 have HRD:=Zh DL
 clear DL hv he ha
 refine Fi (n:=22) Tryz.func174 ?_;intro A hd hA;simp only[ix,Nat.reduceAdd]
 repeat'(first|refine aF ?_|refine au ?_|refine ak (λK hK=>?_)|refine aj ?_|go_step)
 refine dA (by kernel_rfl) (by kernel_rfl) ?_
 repeat'(first|refine aF ?_|fail)
 refine aX Tryz.func175 (VN x.m.part x.m.alter.leader x.m.alter.epoch x.m.alter.version HC.out.Jc.ctl HRD.out (Nat.le_trans HC.out.rd.la (by decide))) (λr w2 hR=>?_)
 obtain⟨rfl,hm⟩:=hR
 have bP:=HC.out.Jc.yt HF.out (aB.refl _) hm (Ad _ _ _ _ _)
 have jG:=Zh bP
 clear bP hm
 repeat'(first|refine aF ?_|refine aQ ?_|refine aC ?_|go_step)
 exact aA hd ⟨rfl,jG.out⟩
theorem TF (h:uy w b b2 b3 A0 c x) (hF:∀ k,A0.T k≠0→F k):gK Tryz.prog 176 #[.pointer (some ⟨b2,0,none⟩),.pointer (some ⟨b3,0,none⟩)] w λr w'=>r=.int .i64 (c.ctl.kK x.m.ent.id x.m.ent.num x.m.part)∧eP w b F ({c with ctl:=c.ctl.fO x.m.ent.id x.m.ent.num x.m.part}) w':=by
 have HC:=Zh h
 have HF:=Zh hF
 obtain⟨Av,cv,hv,-⟩:=h.rd.v.int
 obtain⟨Ae,ce,he,-⟩:=h.rd.e.ent
 obtain⟨Aa,ca,ha,-⟩:=h.rd.a.int
 obtain⟨l2,x2⟩:=h.h2
 obtain⟨hlt,-,-,-,cm3,-,-⟩:=h.Jc.cells
 have v2:=h.h3.cell (k:=2) (by omega)
 have v25:=h.h3.cell (k:=25) (by omega)
 have v26:=h.h3.cell (k:=26) (by omega)
 simp at v2 v25 v26
 have l3:=h.h3.lt
 clear h hF
 clear hv he ha
 refine Fi (n:=16) Tryz.func176 ?_;intro A hd hA;simp only[ix,Nat.reduceAdd]
 repeat'(first|refine aF ?_|refine au ?_|refine ak (λK hK=>?_)|refine aj ?_|go_step)
 refine dA (by kernel_rfl) (by kernel_rfl) ?_
 repeat'(first|refine aF ?_|fail)
 refine aX Tryz.func177 (SE x.m.ent.id x.m.ent.num x.m.part HC.out.Jc.ctl) (λr w2 hR=>?_)
 obtain⟨rfl,hm⟩:=hR
 have bP:=HC.out.Jc.yt HF.out (aB.refl _) hm (yh _ _ _)
 have jG:=Zh bP
 clear bP hm
 repeat'(first|refine aF ?_|refine aQ ?_|refine aC ?_|go_step)
 exact aA hd ⟨rfl,jG.out⟩
theorem TG (h:uy w b b2 b3 A0 c x) (hF:∀ k,A0.T k≠0→F k) (hr:Gw w b5 A0 c x p i q ps):gK Tryz.prog 170 #[.pointer (some ⟨b5,0,none⟩),.pointer (some ⟨b3,0,none⟩),.pointer (some ⟨b2,0,none⟩)] w λr w'=>r=.int .i64 ((c.rep x.m.part x.m.to).ji x.m.fetch 4)∧eP w b F (if(c.rep x.m.part x.m.to).ji x.m.fetch 4=0∧c.ctl.aV x.m.fetch.mD=true then(c.aP x.m.part x.m.to ((c.rep x.m.part x.m.to).serve x.m.fetch 4)).put {eu.zero with kind:=3,to:=x.m.fetch.mD,part:=x.m.part,reply:=(c.rep x.m.part x.m.to).reply x.m.fetch 4} else c.aP x.m.part x.m.to ((c.rep x.m.part x.m.to).serve x.m.fetch 4)) w':=by
 have HC:=Zh h
 have HF:=Zh hF
 obtain⟨Av,cv,hv,-⟩:=h.rd.v.int
 obtain⟨Ae,ce,he,-⟩:=h.rd.e.ent
 obtain⟨Aa,ca,ha,-⟩:=h.rd.a.int
 obtain⟨jy,gu⟩:=h.rep hr
 have HR:=Zh hr
 have qy:=Zh jy
 have oW:=Zh gu
 obtain⟨l5,x5⟩:=hr.h5
 obtain⟨l2,x2⟩:=h.h2
 obtain⟨hlt,-,-,-,cm3,-,-⟩:=h.Jc.cells
 have v2:=h.h3.cell (k:=2) (by omega)
 have v7:=h.h3.cell (k:=7) (by omega)
 have v8:=h.h3.cell (k:=8) (by omega)
 have v9:=h.h3.cell (k:=9) (by omega)
 have v10:=h.h3.cell (k:=10) (by omega)
 have v11:=h.h3.cell (k:=11) (by omega)
 simp at v2 v7 v8 v9 v10 v11
 have l3:=h.h3.lt
 clear h hF hr jy gu
 clear hv he ha
 refine Fi (n:=32) Tryz.func170 ?_;intro A hd hA;simp only[ix,Nat.reduceAdd]
 repeat'(first|refine aF ?_|refine au ?_|refine ak (λK hK=>?_)|refine aj ?_|go_step)
 refine aX Tryz.func171 (Y1 qy.out oW.out.bU.ne oW.out.bU.BN oW.out.bU.len oW.out.bU.bks x.m.fetch 4) (λr w2 hR=>?_)
 obtain⟨⟨u,rfl,hu,huf⟩,hM,AU⟩:=hR
 have bP:=HC.out.Jc.Jb (F:=λk=>A0.T k≠0) (λ_ h=>h) (aB.refl _) HR.out.hp HR.out.hi HR.out.wK HR.out.hq hM AU (LQ oW.out _ _)
 rw[←HR.out.xp,←HR.out.xi]at bP
 have JC:=bP.mono (G:=F) (λk _ h=>HF.out k h) (λk h=>.inl (HF.out k h))
 have jG:=Zh bP
 have JD:=Zh JC
 have bD:=HC.out.n2
 have bC:=HC.out.n3
 have y2:=(bI hM (o:=0) l2 (by omega)).trans x2
 have y7:=(bI hM (o:=7) l3 (by omega)).trans v7
 have yp:=(bI hM (o:=2) l3 (by omega)).trans v2
 have k2:b2<w2.heap.size:=Nat.lt_of_lt_of_le l2 hM.size
 have k3:b3<w2.heap.size:=Nat.lt_of_lt_of_le l3 hM.size
 obtain⟨Au,nu,cu,rfl⟩:=aT hu
 have HU:=Zh hu
 clear bP JC AU hu huf hM bD bC v2 v7 v8 v9 v10 v11 x2 x5 l2 l3 l5 cm3 hlt
 generalize bT:(c.rep x.m.part x.m.to).ji x.m.fetch 4=no at *
 generalize Na:c.aP x.m.part x.m.to ((c.rep x.m.part x.m.to).serve x.m.fetch 4)=c1 at *
 have Am:c1.ctl=c.ctl:=by rw[←Na];rfl
 have Gx:=Zh Am
 have gY:=Zh Na
 clear bT Na Am
 by_cases h0:no=0
 ·subst h0
  by_cases D5:c.ctl.aV x.m.fetch.mD=true
  ·rw[if_pos ⟨rfl,D5⟩]
   have HBR:=Zh D5
   have HPB:Hid (c1.ctl.aV x.m.fetch.mD=true):=Zh (by rw[Gx.out];exact D5)
   clear D5
   repeat'(first|refine fU Tryz.func67 (λ_=>HPB.out▸iP x.m.fetch.mD (JD.out.2.ah (by simp))) ?_|refine dw ?_|refine aF ?_|refine au ?_|(refine jr (λyn bn aU bD bC bG aS=>?_))|refine ak (λK hK=>?_)|refine aj ?_|refine bH ?_|go_step)
   refine aX Tryz.func106 (Ak (x:=⟨{eu.zero with kind:=3,to:=x.m.fetch.mD,part:=x.m.part,reply:=(c.rep x.m.part x.m.to).reply x.m.fetch 4},.slice none 0 0,.slice Au nu cu,.slice none 0 0⟩) (jG.out.2.ah (by simp)) ⟨Rd.nil _,(dQ.rd (enc:=cZ.cs) (k:=6) cZ.len HU.out).ah (by simp),Rd.nil _,Nat.zero_le _,Nat.le_trans (Ik _ _) (by decide),Nat.zero_le _⟩ ⟨by show (1:Int)≤3∧(3:Int)≤7;decide,by rw[Gx.out,HR.out.xp];have:=HR.out.hp;show (0:Int)≤p∧(p:Int)<c.ctl.form.parts;omega,λ_=>by rw[Gx.out];exact dV HBR.out,(λe=>by cases e),Nat.zero_le _,Nat.le_trans (Ik _ _) (by decide),Nat.zero_le _⟩) (λr w3 hR=>?_)
   obtain⟨rfl,bP⟩:=hR
   have ak1:=((jG.out.then (bP.ext (by simp))).mono (G:=F) (λk _ h=>HF.out k h) (λk h=>.inl (HF.out k h)))
   have ao9:=Zh ak1
   clear bP ak1
   repeat'(first|refine aF ?_|refine au ?_|refine ak (λK hK=>?_)|refine aj ?_|refine aC ?_|go_step)
   exact aA hd ⟨rfl,by rw[if_pos ⟨rfl,HBR.out⟩];exact ao9.out⟩
  ·have D5:c.ctl.aV x.m.fetch.mD=false:=by simpa using D5
   have apa:=Zh D5
   have HPB:Hid (c1.ctl.aV x.m.fetch.mD=false):=Zh (by rw[Gx.out];exact D5)
   clear D5
   repeat'(first|refine fU Tryz.func67 (λ_=>HPB.out▸iP x.m.fetch.mD (JD.out.2.ah (by simp))) ?_|refine dw ?_|refine aF ?_|refine au ?_|(refine jr (λyn bn aU bD bC bG aS=>?_))|refine ak (λK hK=>?_)|refine aj ?_|refine aC ?_|refine aG ?_|refine bJ ?_|go_step)
   exact aA hd ⟨rfl,by rw[if_neg (λe=>by rw[apa.out]at e;cases e.2)];exact JD.out.ah (by simp)⟩
 ·have Iu:(no==0)=false:=by simp[h0]
  repeat'(first|(refine pq ?_)|refine aF ?_|refine mg ?_|refine au ?_|(refine jr (λyn bn aU bD bC bG aS=>?_))|refine ak (λK hK=>?_)|refine aj ?_|refine aC ?_|refine aG ?_|refine bJ ?_|go_step)
  exact aA hd ⟨rfl,by rw[if_neg (λe=>h0 e.1)];exact JD.out.ah (by simp)⟩
end
section
variable {P : Program} {Q : jo} {A : Act} {fl : List (Nat × Value)} {ops : Array Oper} {o : Oper} {w : World} {b : Nat} {κ β : Type} [DecidableEq κ] {bZ : κ → Value} {dG : β → Value} {f : κ → Option β} {t kt et : TypeId}
theorem lT {rest:List (Oper×Nat)} {m x y:Operand} (hm:eU bZ dG w b f) (hK:NS P kt bZ) (ht:P.underlying t=some (.map kt et)) (k:κ) (v:β)
  (h:∀ W',bF (· =b) w W'→eU bZ dG W' b (yu f k (some v))→jh P ops Q rest (fr fl A) W')
  (ho:o.op=.insert t m x y:=by rfl) (hd:o.dst=none:=by rfl) (hg:o.guard=none:=by rfl)
  (BI:Is ((fr fl A).eval m) (.map (some b)):=by go_simp;exact Is.mk _) (hx:Is ((fr fl A).eval x) (bZ k):=by go_simp;exact Is.mk _) (hy:Is ((fr fl A).eval y) (dG v):=by go_simp;exact Is.mk _):
  jh P ops Q ((o,2)::rest) (fr fl A) w:=by
 refine X_w (λX K hKK=>?_) hd hg
 obtain⟨ob,hr,hM⟩:=eU.adi (P:=P) (w:=w.ah X) hK ht (hm.ah X.2) k v
 unfold uQ execOp
 simp only[ho,BI.eq,hx.eq,hy.eq,Sem.run_bind,hr,Result.andThen_ok,Sem.run_pure]
 exact hKK undef _ (h _ (bF.trans X.2 (zH _ _ _) (λ_ _ h=>h.elim) (λ_ _ h=>h)) hM)
end
theorem uy.ah {w w':World} {b b2 b3:Nat} {A:og} {c:aO} {x:lF} (h:uy w b b2 b3 A c x) (hE:aB w w'):uy w' b b2 b3 A c x:=
 ⟨h.Jc.ah hE,h.h2.ah hE,h.h3.ah hE,h.n2,h.n3,h.rd.ah hE,h.tv⟩
theorem Gw.ah {w w':World} {b5:Nat} {A:og} {c:aO} {x:lF} {p i q:Nat} {ps:List Nat} (h:Gw w b5 A c x p i q ps) (hE:aB w w'):Gw w' b5 A c x p i q ps:=
 ⟨h.h5.ah hE,h.hp,h.hi,h.wK,h.hq,h.xp,h.xi⟩
theorem LY {m:eu}:aO.AX m=true↔m.kind=4∨m.kind=6:=by simp[aO.AX]
theorem OV {w:World} {b:Nat} {F:Nat→Prop} {A0:og} {c:aO} {x:lF} (h:iJ w b A0 c) (hF:∀ k,A0.T k≠0→F k) (DL:Ja w x) (htv:∀ k,x.uV.ownBlock=some k→A0.T k=0∨A0.T k=6) (lU:Gt c.ctl.form x.m):
  gK Tryz.prog 118 #[.pointer (some ⟨b,0,none⟩),x.v] w λr w'=>r=.int .i64 (c.lC x.m).2∧eP w b F (c.lC x.m).1 w':=by
 obtain⟨m,uV,uE,uA⟩:=x
 obtain⟨Av,cv,hv,-⟩:=DL.v.int
 obtain⟨Ae,ce,he,-⟩:=DL.e.ent
 obtain⟨Aa,ca,ha,-⟩:=DL.a.int
 dsimp only at hv he ha
 subst hv he ha
 have HA:=Zh h
 have HF:=Zh hF
 have HRD:=Zh DL
 have HTV:=Zh htv
 have QM:=Zh lU
 have zM:=Zh h.lt
 clear h hF DL htv lU
 refine Fi (n:=36) Tryz.func118 ?_;intro A hd hA;simp only[ix,Nat.reduceAdd]
 (repeat'(first|refine ak (λK hK=>?_)|refine aj ?_|fail));(refine dI (λx K hK=>?_);go_simp;refine hK _ _ (aB.alloc _ _) ?_;clear hK K;refine aZ x ?_;generalize (World.ah _ x).heap.size=b2;intro yn aU bD bC bG aS;clear x);have Qn:=Zh (cO.new aS.out);have LW:=Zh yn.ext;have Tq:(World.heap w).size≤b2:=aU;generalize World.ah w yn=W0 at *;clear aU bD bC bG aS yn
 (skip);(refine dI (λx K hK=>?_);go_simp;refine hK _ _ (aB.alloc _ _) ?_;clear hK K;refine aZ x ?_;generalize (World.ah _ x).heap.size=b3;intro yn aU bD bC bG aS;clear x);have qJ:=Zh (cO.new aS.out);have pI:=Zh yn.ext;have qQ:(World.heap W0).size≤b3:=aU;generalize World.ah W0 yn=W1 at *;clear aU bD bC bG aS yn
 (repeat'(first|refine aF ?_|refine au ?_|refine ak (λK hK=>?_)|refine aj ?_|go_step));(refine dI (λx K hK=>?_);go_simp;refine hK _ _ (aB.alloc _ _) ?_;clear hK K;refine aZ x ?_;generalize (World.ah _ x).heap.size=b5;intro yn aU bD bC bG aS;clear x);have ak2:=Zh (cO.new aS.out);have ae0:=Zh yn.ext;have ae1:(World.heap W1).size≤b5:=aU;generalize World.ah W1 yn=W2 at *;clear aU bD bC bG aS yn
 have Jo:=LW.out.size
 have JK:=pI.out.size
 have Ym:w.heap.size≤b2:=Tq
 have Xt:w.heap.size≤b3:=Nat.le_trans Jo qQ
 have hw5:w.heap.size≤b5:=Nat.le_trans Jo (Nat.le_trans JK ae1)
 have h35:b3<b5:=Nat.lt_of_lt_of_le qJ.out.lt ae1
 have h25:b2<b5:=Nat.lt_of_lt_of_le Qn.out.lt (Nat.le_trans JK ae1)
 have HE:=Zh (Et LW.out (Et pI.out ae0.out))
 have FD:=ak2
 have hT0:∀ k,w.heap.size≤k→A0.T k=0:=λk hk=>by
  cases hTk:A0.T k with
  | zero=>rfl
  | succ n=>have:=zM.out k (by omega);omega
 have LZ:uy W2 b b2 b3 A0 c ⟨m,.slice Av m.view.isr.length cv,.slice Ae m.reply.entries.length ce,.slice Aa m.alter.isr.length ca⟩:=
  ⟨HA.out.ah HE.out,(kH.of Qn.out Nat.zero_lt_one rfl).ah (Et pI.out ae0.out),((qJ.out.ah ae0.out).congr (λk hk=>match k,hk with|0,_=>rfl|1,_=>rfl|2,_=>rfl|3,_=>rfl|4,_=>rfl|5,_=>rfl|6,_=>rfl|7,_=>rfl|8,_=>rfl|9,_=>rfl|10,_=>rfl|11,_=>rfl|12,_=>rfl|13,_=>rfl|14,_=>rfl|15,_=>rfl|16,_=>rfl|17,_=>rfl|18,_=>rfl|19,_=>rfl|20,_=>rfl|21,_=>rfl|22,_=>rfl|23,_=>rfl|24,_=>rfl|25,_=>rfl|26,_=>rfl|27,_=>rfl|28,_=>rfl|29,_=>rfl|n+30,h=>absurd h (by simp))),hT0 _ Ym,hT0 _ Xt,HRD.out.ah HE.out,HTV.out⟩
 have Jz:=Zh LZ
 obtain⟨l2,z2⟩:=LZ.h2
 have v0:=LZ.h3.cell (k:=0) (by omega)
 have v1:=LZ.h3.cell (k:=1) (by omega)
 have v2:=LZ.h3.cell (k:=2) (by omega)
 simp at v0 v1 v2
 have l3:=LZ.h3.lt
 clear LZ Qn qJ ak2 LW pI ae0 Tq qQ ae1 Jo JK
 by_cases hme:aO.AX m=true
 ·have bP:m.to= -1:=QM.out.tom hme
  rw[bP]at v1
  have hkk:=LY.1 hme
  have BA:=HF
  clear bP hme HF FD Ym Xt hw5 h25 h35
  repeat'(first|refine aF ?_|refine au ?_|refine ak (λK hK=>?_)|refine aj ?_|refine aG ?_|refine bJ ?_|go_step)
  skip
  refine dI (λx K hK=>?_);go_simp;refine hK _ _ (aB.alloc _ _) ?_;clear hK K;refine Q8 x ?_;generalize (World.ah _ x).heap.size=mm;intro ym Pg hm2 hm3;clear x
  have HM0:Hid (eU ki (id:Value→Value) (W2.ah ym) mm (λ_=>none)):=Zh ⟨[],0,⟨hm3.out,by simp,by simp,by simp⟩,λk=>rfl⟩
  clear hm3 hm2
  repeat'(first|refine aF ?_|fail)
  refine lT (bZ:=ki) (dG:=(id:Value→Value)) (HM0.out.ah (by simp)) (dU Tryz.underlying94) Tryz.underlying227 1 (.func (.func 168) #[] #[.pointer (some ⟨b5,0,none⟩),.pointer (some ⟨b3,0,none⟩)]) (λW' qB zn=>?_)
  replace qB:=aB.bK (F:=(· =mm)) (by simp:aB W2 _) qB (λi h=>by subst h;exact Pg)
  obtain⟨y0,rfl⟩:=qB.get
  clear qB HM0
  have EO:=Zh zn
  clear zn
  repeat'(first|refine aF ?_|fail)
  refine lT (bZ:=ki) (dG:=(id:Value→Value)) (EO.out.ah (by simp)) (dU Tryz.underlying94) Tryz.underlying227 2 (.func (.func 170) #[] #[.pointer (some ⟨b5,0,none⟩),.pointer (some ⟨b3,0,none⟩),.pointer (some ⟨b2,0,none⟩)]) (λW' qB zn=>?_)
  replace qB:=aB.bK (F:=(· =mm)) (by simp:aB W2 _) qB (λi h=>by subst h;exact Pg)
  obtain⟨y1,rfl⟩:=qB.get
  clear qB EO
  have IK:=Zh zn
  clear zn
  repeat'(first|refine aF ?_|fail)
  refine lT (bZ:=ki) (dG:=(id:Value→Value)) (IK.out.ah (by simp)) (dU Tryz.underlying94) Tryz.underlying227 3 (.func (.func 172) #[] #[.pointer (some ⟨b5,0,none⟩),.pointer (some ⟨b3,0,none⟩)]) (λW' qB zn=>?_)
  replace qB:=aB.bK (F:=(· =mm)) (by simp:aB W2 _) qB (λi h=>by subst h;exact Pg)
  obtain⟨y2,rfl⟩:=qB.get
  clear qB IK
  have FB:=Zh zn
  clear zn
  repeat'(first|refine aF ?_|fail)
  refine lT (bZ:=ki) (dG:=(id:Value→Value)) (FB.out.ah (by simp)) (dU Tryz.underlying94) Tryz.underlying227 5 (.func (.func 167) #[] #[.pointer (some ⟨b5,0,none⟩),.pointer (some ⟨b3,0,none⟩)]) (λW' qB zn=>?_)
  replace qB:=aB.bK (F:=(· =mm)) (by simp:aB W2 _) qB (λi h=>by subst h;exact Pg)
  obtain⟨y3,rfl⟩:=qB.get
  clear qB FB
  have xO:=Zh zn
  clear zn
  repeat'(first|refine aF ?_|fail)
  refine lT (bZ:=ki) (dG:=(id:Value→Value)) (xO.out.ah (by simp)) (dU Tryz.underlying94) Tryz.underlying227 7 (.func (.func 167) #[] #[.pointer (some ⟨b5,0,none⟩),.pointer (some ⟨b3,0,none⟩)]) (λW' qB zn=>?_)
  replace qB:=aB.bK (F:=(· =mm)) (by simp:aB W2 _) qB (λi h=>by subst h;exact Pg)
  obtain⟨y4,rfl⟩:=qB.get
  clear qB xO
  have uo:=Zh zn
  clear zn
  repeat'(first|refine aF ?_|fail)
  refine lT (bZ:=ki) (dG:=(id:Value→Value)) (uo.out.ah (by simp)) (dU Tryz.underlying94) Tryz.underlying227 4 (.func (.func 174) #[] #[.pointer (some ⟨b2,0,none⟩),.pointer (some ⟨b3,0,none⟩)]) (λW' qB zn=>?_)
  replace qB:=aB.bK (F:=(· =mm)) (by simp:aB W2 _) qB (λi h=>by subst h;exact Pg)
  obtain⟨y5,rfl⟩:=qB.get
  clear qB uo
  have Jv:=Zh zn
  clear zn
  repeat'(first|refine aF ?_|fail)
  refine lT (bZ:=ki) (dG:=(id:Value→Value)) (Jv.out.ah (by simp)) (dU Tryz.underlying94) Tryz.underlying227 6 (.func (.func 176) #[] #[.pointer (some ⟨b2,0,none⟩),.pointer (some ⟨b3,0,none⟩)]) (λW' qB zn=>?_)
  replace qB:=aB.bK (F:=(· =mm)) (by simp:aB W2 _) qB (λi h=>by subst h;exact Pg)
  obtain⟨y6,rfl⟩:=qB.get
  clear qB Jv
  have Vt:=Zh zn
  clear zn
  obtain⟨f,hf⟩:∃ f,f=(yu (yu (yu (yu (yu (yu (yu (λ_=>none) (1:Int) (some (.func (.func 168) #[] #[.pointer (some ⟨b5,0,none⟩),.pointer (some ⟨b3,0,none⟩)]:Value))) (2:Int) (some (.func (.func 170) #[] #[.pointer (some ⟨b5,0,none⟩),.pointer (some ⟨b3,0,none⟩),.pointer (some ⟨b2,0,none⟩)]:Value))) (3:Int) (some (.func (.func 172) #[] #[.pointer (some ⟨b5,0,none⟩),.pointer (some ⟨b3,0,none⟩)]:Value))) (5:Int) (some (.func (.func 167) #[] #[.pointer (some ⟨b5,0,none⟩),.pointer (some ⟨b3,0,none⟩)]:Value))) (7:Int) (some (.func (.func 167) #[] #[.pointer (some ⟨b5,0,none⟩),.pointer (some ⟨b3,0,none⟩)]:Value))) (4:Int) (some (.func (.func 174) #[] #[.pointer (some ⟨b2,0,none⟩),.pointer (some ⟨b3,0,none⟩)]:Value))) (6:Int) (some (.func (.func 176) #[] #[.pointer (some ⟨b2,0,none⟩),.pointer (some ⟨b3,0,none⟩)]:Value))):=⟨_,rfl⟩
  have HMf:Hid (eU ki (id:Value→Value) (W2.ah y6) mm f):=Zh (hf▸Vt.out)
  have HF:=Zh hf
  clear hf Vt
  have hf4:f 4=some (.func (.func 174) #[] #[.pointer (some ⟨b2,0,none⟩),.pointer (some ⟨b3,0,none⟩)]):=by rw[HF.out];simp[yu]
  have hf6:f 6=some (.func (.func 176) #[] #[.pointer (some ⟨b2,0,none⟩),.pointer (some ⟨b3,0,none⟩)]):=by rw[HF.out];simp[yu]
  rcases(show m.kind=4∨m.kind=6 by omega) with hk4|hk6
  ·have e:c.lC m=({c with ctl:=c.ctl.alter m.part m.alter.leader m.alter.epoch m.alter.version m.alter.isr},c.ctl.nS m.part m.alter.leader m.alter.epoch m.alter.version m.alter.isr):=by unfold aO.lC;simp[hk4]
   have Zz:=Zh e
   rw[hk4]at v0
   have HK:=Zh hf4
   clear e hk4 hf4 hf6
   repeat'(first|refine aF ?_|fail)
   refine wM (bZ:=ki) (dG:=(id:Value→Value)) (z:=.nilFunc) (HMf.out.ah (by simp)) (dU Tryz.underlying94) Tryz.underlying227 4 ?_
   rw[HK.out]
   simp only[Option.getD_some,id_eq,Bool.false_eq_true,if_false]
   refine dM (lv:=[]) (first:= #[]) (captured:= #[.pointer (some ⟨b2,0,none⟩),.pointer (some ⟨b3,0,none⟩)]) Tryz.func174 (TD (Jz.out.ah (by simp)) BA.out) (λr w2 hR=>?_)
   obtain⟨rfl,bP⟩:=hR
   have jG:=Zh (bP.ext (Et HE.out (by simp)))
   clear bP
   repeat'(first|refine aF ?_|refine au ?_|refine aC ?_|go_step)
   exact aA hd (by rw[Zz.out];exact⟨rfl,jG.out⟩)
  ·have e:c.lC m=({c with ctl:=c.ctl.fO m.ent.id m.ent.num m.part},c.ctl.kK m.ent.id m.ent.num m.part):=by unfold aO.lC;simp[hk6]
   have Zz:=Zh e
   rw[hk6]at v0
   have HK:=Zh hf6
   clear e hk6 hf4 hf6
   repeat'(first|refine aF ?_|fail)
   refine wM (bZ:=ki) (dG:=(id:Value→Value)) (z:=.nilFunc) (HMf.out.ah (by simp)) (dU Tryz.underlying94) Tryz.underlying227 6 ?_
   rw[HK.out]
   simp only[Option.getD_some,id_eq,Bool.false_eq_true,if_false]
   refine dM (lv:=[]) (first:= #[]) (captured:= #[.pointer (some ⟨b2,0,none⟩),.pointer (some ⟨b3,0,none⟩)]) Tryz.func176 (TF (Jz.out.ah (by simp)) BA.out) (λr w2 hR=>?_)
   obtain⟨rfl,bP⟩:=hR
   have jG:=Zh (bP.ext (Et HE.out (by simp)))
   clear bP
   repeat'(first|refine aF ?_|refine au ?_|refine aC ?_|go_step)
   exact aA hd (by rw[Zz.out];exact⟨rfl,jG.out⟩)
 ·have hnm:aO.AX m=false:=by simpa using hme
  obtain⟨ht1,ht2⟩:=QM.out.to hnm
  have JF:=QM.out.kind
  have hp1:=QM.out.part
  have hkk:¬ (m.kind=4∨m.kind=6):=λe=>hme (LY.2 e)
  dsimp only at JF hp1 ht1 ht2
  obtain⟨p,hp⟩:∃ p:Nat,m.part=p:=⟨m.part.toNat,by omega⟩
  obtain⟨i,hi⟩:∃ i:Nat,m.to=i:=⟨m.to.toNat,by omega⟩
  have Jp:p<c.ctl.form.parts.toNat:=by omega
  have ou:i<c.ctl.form.aK.toNat:=by omega
  obtain⟨u,ps,q,hu,wK,ho,ht,FM,iR,-,-⟩:=Jz.out.Jc.rep Jp ou
  obtain⟨g,cg,iZ,Dq,jT,Ib,iK⟩:=dQ.at (enc:=Yq) (k:=1) (λ_=>rfl) Jz.out.Jc.outer hu
  obtain⟨g2,cg2,Iw,VW,Uz,Zv,sV⟩:=dQ.at (enc:=ps1) (k:=1) (λ_=>rfl) ho FM
  obtain⟨hlt,-,-,-,c3,c4,-⟩:=Jz.out.Jc.cells
  rw[iZ]at c4
  have d0:=iK 0 _ rfl
  have d1:=sV 0 _ rfl
  rw[Nat.mul_one,Nat.add_zero]at d0 d1
  rw[Iw]at d0
  have h1:p<A0.rows.length:=(Ge hu).1
  have h2:i<ps.length:=(Ge FM).1
  have h3:(p:Int)<A0.rows.length:=by omega
  have h4:(i:Int)<ps.length:=by omega
  rw[hp]at v2
  rw[hi]at v1
  have J3:=Zh wK
  have J4:=Zh FM
  have HP:=Zh hp
  have HI:=Zh hi
  have HK1:=Zh (And.intro JF hkk)
  have Zx:=Zh (And.intro Jp ou)
  have HWW:=Zh (And.intro hw5 (And.intro (Nat.ne_of_lt h25) (Nat.ne_of_lt h35)))
  clear hnm ht1 ht2 JF hp1 hkk hp hi Jp ou hu wK ho ht FM iR iK sV iZ Iw hme Ym Xt hw5 h25 h35
  repeat'(first|refine aF ?_|refine au ?_|refine ak (λK hK=>?_)|refine aj ?_|refine bH ?_|go_step)
  refine dA (by kernel_rfl) (by kernel_rfl) ?_
  repeat'(first|refine aF ?_|fail)
  refine aY (off:=0) (FD.out.ah (by simp)) (λW3 jd ru=>?_)
  have jX:aB w W3:=aB.bK (F:=(· =b5)) HE.out jd (λk h=>by subst h;exact HWW.out.1)
  have hco:uy W3 b b2 b3 A0 c ⟨m,.slice Av m.view.isr.length cv,.slice Ae m.reply.entries.length ce,.slice Aa m.alter.isr.length ca⟩:=
   ⟨HA.out.ah jX,Jz.out.h2.aW jd HWW.out.2.1,Jz.out.h3.aW jd HWW.out.2.2,Jz.out.n2,Jz.out.n3,HRD.out.ah jX,Jz.out.tv⟩
  have htr:Gw W3 b5 A0 c ⟨m,.slice Av m.view.isr.length cv,.slice Ae m.reply.entries.length ce,.slice Aa m.alter.isr.length ca⟩ p i q ps:=
   ⟨kH.of ru (by decide) rfl,Zx.out.1,Zx.out.2,J3.out,J4.out,HP.out,HI.out⟩
  have v3:=hco.h3.cell (k:=0) (by omega)
  simp at v3
  replace l2:=hco.h2.1
  replace l3:=hco.h3.lt
  clear Jz HE
  have Jz:=Zh hco
  have HTR:=Zh htr
  have HE:=Zh jX
  have BA:=HF
  obtain⟨⟨JF,hk2⟩,hkk⟩:=HK1.out
  clear hco htr jX jd ru FD HF HK1 Dq jT Ib VW Uz Zv hlt c3 c4 d0 d1 h1 h2 h3 h4 v0 v1 v2 J3 J4 HP HI Zx HWW z2
  have v0:=v3
  clear v3
  repeat'(first|refine aF ?_|refine aQ ?_|refine au ?_|refine ak (λK hK=>?_)|refine aj ?_|go_step)
  refine dI (λx K hK=>?_);go_simp;refine hK _ _ (aB.alloc _ _) ?_;clear hK K;refine Q8 x ?_;generalize (World.ah _ x).heap.size=mm;intro ym Pg hm2 hm3;clear x
  have HM0:Hid (eU ki (id:Value→Value) (W3.ah ym) mm (λ_=>none)):=Zh ⟨[],0,⟨hm3.out,by simp,by simp,by simp⟩,λk=>rfl⟩
  clear hm3 hm2
  repeat'(first|refine aF ?_|fail)
  refine lT (bZ:=ki) (dG:=(id:Value→Value)) (HM0.out.ah (by simp)) (dU Tryz.underlying94) Tryz.underlying227 1 (.func (.func 168) #[] #[.pointer (some ⟨b5,0,none⟩),.pointer (some ⟨b3,0,none⟩)]) (λW' qB zn=>?_)
  replace qB:=aB.bK (F:=(· =mm)) (by simp:aB W3 _) qB (λi h=>by subst h;exact Pg)
  obtain⟨y0,rfl⟩:=qB.get
  clear qB HM0
  have EO:=Zh zn
  clear zn
  repeat'(first|refine aF ?_|fail)
  refine lT (bZ:=ki) (dG:=(id:Value→Value)) (EO.out.ah (by simp)) (dU Tryz.underlying94) Tryz.underlying227 2 (.func (.func 170) #[] #[.pointer (some ⟨b5,0,none⟩),.pointer (some ⟨b3,0,none⟩),.pointer (some ⟨b2,0,none⟩)]) (λW' qB zn=>?_)
  replace qB:=aB.bK (F:=(· =mm)) (by simp:aB W3 _) qB (λi h=>by subst h;exact Pg)
  obtain⟨y1,rfl⟩:=qB.get
  clear qB EO
  have IK:=Zh zn
  clear zn
  repeat'(first|refine aF ?_|fail)
  refine lT (bZ:=ki) (dG:=(id:Value→Value)) (IK.out.ah (by simp)) (dU Tryz.underlying94) Tryz.underlying227 3 (.func (.func 172) #[] #[.pointer (some ⟨b5,0,none⟩),.pointer (some ⟨b3,0,none⟩)]) (λW' qB zn=>?_)
  replace qB:=aB.bK (F:=(· =mm)) (by simp:aB W3 _) qB (λi h=>by subst h;exact Pg)
  obtain⟨y2,rfl⟩:=qB.get
  clear qB IK
  have FB:=Zh zn
  clear zn
  repeat'(first|refine aF ?_|fail)
  refine lT (bZ:=ki) (dG:=(id:Value→Value)) (FB.out.ah (by simp)) (dU Tryz.underlying94) Tryz.underlying227 5 (.func (.func 167) #[] #[.pointer (some ⟨b5,0,none⟩),.pointer (some ⟨b3,0,none⟩)]) (λW' qB zn=>?_)
  replace qB:=aB.bK (F:=(· =mm)) (by simp:aB W3 _) qB (λi h=>by subst h;exact Pg)
  obtain⟨y3,rfl⟩:=qB.get
  clear qB FB
  have xO:=Zh zn
  clear zn
  repeat'(first|refine aF ?_|fail)
  refine lT (bZ:=ki) (dG:=(id:Value→Value)) (xO.out.ah (by simp)) (dU Tryz.underlying94) Tryz.underlying227 7 (.func (.func 167) #[] #[.pointer (some ⟨b5,0,none⟩),.pointer (some ⟨b3,0,none⟩)]) (λW' qB zn=>?_)
  replace qB:=aB.bK (F:=(· =mm)) (by simp:aB W3 _) qB (λi h=>by subst h;exact Pg)
  obtain⟨y4,rfl⟩:=qB.get
  clear qB xO
  have uo:=Zh zn
  clear zn
  repeat'(first|refine aF ?_|fail)
  refine lT (bZ:=ki) (dG:=(id:Value→Value)) (uo.out.ah (by simp)) (dU Tryz.underlying94) Tryz.underlying227 4 (.func (.func 174) #[] #[.pointer (some ⟨b2,0,none⟩),.pointer (some ⟨b3,0,none⟩)]) (λW' qB zn=>?_)
  replace qB:=aB.bK (F:=(· =mm)) (by simp:aB W3 _) qB (λi h=>by subst h;exact Pg)
  obtain⟨y5,rfl⟩:=qB.get
  clear qB uo
  have Jv:=Zh zn
  clear zn
  repeat'(first|refine aF ?_|fail)
  refine lT (bZ:=ki) (dG:=(id:Value→Value)) (Jv.out.ah (by simp)) (dU Tryz.underlying94) Tryz.underlying227 6 (.func (.func 176) #[] #[.pointer (some ⟨b2,0,none⟩),.pointer (some ⟨b3,0,none⟩)]) (λW' qB zn=>?_)
  replace qB:=aB.bK (F:=(· =mm)) (by simp:aB W3 _) qB (λi h=>by subst h;exact Pg)
  obtain⟨y6,rfl⟩:=qB.get
  clear qB Jv
  have Vt:=Zh zn
  clear zn
  obtain⟨f,hf⟩:∃ f,f=(yu (yu (yu (yu (yu (yu (yu (λ_=>none) (1:Int) (some (.func (.func 168) #[] #[.pointer (some ⟨b5,0,none⟩),.pointer (some ⟨b3,0,none⟩)]:Value))) (2:Int) (some (.func (.func 170) #[] #[.pointer (some ⟨b5,0,none⟩),.pointer (some ⟨b3,0,none⟩),.pointer (some ⟨b2,0,none⟩)]:Value))) (3:Int) (some (.func (.func 172) #[] #[.pointer (some ⟨b5,0,none⟩),.pointer (some ⟨b3,0,none⟩)]:Value))) (5:Int) (some (.func (.func 167) #[] #[.pointer (some ⟨b5,0,none⟩),.pointer (some ⟨b3,0,none⟩)]:Value))) (7:Int) (some (.func (.func 167) #[] #[.pointer (some ⟨b5,0,none⟩),.pointer (some ⟨b3,0,none⟩)]:Value))) (4:Int) (some (.func (.func 174) #[] #[.pointer (some ⟨b2,0,none⟩),.pointer (some ⟨b3,0,none⟩)]:Value))) (6:Int) (some (.func (.func 176) #[] #[.pointer (some ⟨b2,0,none⟩),.pointer (some ⟨b3,0,none⟩)]:Value))):=⟨_,rfl⟩
  have HMf:Hid (eU ki (id:Value→Value) (W3.ah y6) mm f):=Zh (hf▸Vt.out)
  have HF:=Zh hf
  clear hf Vt
  have NW:f 1=some (.func (.func 168) #[] #[.pointer (some ⟨b5,0,none⟩),.pointer (some ⟨b3,0,none⟩)]):=by rw[HF.out];simp[yu]
  have Ph:f 2=some (.func (.func 170) #[] #[.pointer (some ⟨b5,0,none⟩),.pointer (some ⟨b3,0,none⟩),.pointer (some ⟨b2,0,none⟩)]):=by rw[HF.out];simp[yu]
  have MN:f 3=some (.func (.func 172) #[] #[.pointer (some ⟨b5,0,none⟩),.pointer (some ⟨b3,0,none⟩)]):=by rw[HF.out];simp[yu]
  have hf5:f 5=some (.func (.func 167) #[] #[.pointer (some ⟨b5,0,none⟩),.pointer (some ⟨b3,0,none⟩)]):=by rw[HF.out];simp[yu]
  have hf7:f 7=some (.func (.func 167) #[] #[.pointer (some ⟨b5,0,none⟩),.pointer (some ⟨b3,0,none⟩)]):=by rw[HF.out];simp[yu]
  rcases(show m.kind=1∨m.kind=2∨m.kind=3∨m.kind=5∨m.kind=7 by omega) with JF|hk2|hk3|hk5|hk7
  ·have e:c.lC m=(c.aP m.part m.to ((c.rep m.part m.to).learn m.view).1,((c.rep m.part m.to).learn m.view).2):=by unfold aO.lC;simp[JF]
   have Zz:=Zh e
   rw[JF]at v0
   have HK:=Zh NW
   clear e JF NW Ph MN hf5 hf7
   repeat'(first|refine aF ?_|fail)
   refine wM (bZ:=ki) (dG:=(id:Value→Value)) (z:=.nilFunc) (HMf.out.ah (by simp)) (dU Tryz.underlying94) Tryz.underlying227 1 ?_
   rw[HK.out]
   simp only[Option.getD_some,id_eq,Bool.false_eq_true,if_false]
   refine dM (lv:=[]) (first:= #[]) (captured:= #[.pointer (some ⟨b5,0,none⟩),.pointer (some ⟨b3,0,none⟩)]) Tryz.func168 (TA (Jz.out.ah (by simp)) BA.out (HTR.out.ah (by simp))) (λr w2 hR=>?_)
   obtain⟨rfl,bP⟩:=hR
   have jG:=Zh (bP.ext (Et HE.out (by simp)))
   clear bP
   repeat'(first|refine aF ?_|refine au ?_|refine aC ?_|go_step)
   exact aA hd (by rw[Zz.out];exact⟨rfl,jG.out⟩)
  ·have e:c.lC m=(if(c.rep m.part m.to).ji m.fetch 4=0∧c.ctl.aV m.fetch.mD=true then(c.aP m.part m.to ((c.rep m.part m.to).serve m.fetch 4)).put {eu.zero with kind:=3,to:=m.fetch.mD,part:=m.part,reply:=(c.rep m.part m.to).reply m.fetch 4} else c.aP m.part m.to ((c.rep m.part m.to).serve m.fetch 4),(c.rep m.part m.to).ji m.fetch 4):=by unfold aO.lC;simp[hk2]
   have Zz:=Zh e
   rw[hk2]at v0
   have HK:=Zh Ph
   clear e hk2 NW Ph MN hf5 hf7
   repeat'(first|refine aF ?_|fail)
   refine wM (bZ:=ki) (dG:=(id:Value→Value)) (z:=.nilFunc) (HMf.out.ah (by simp)) (dU Tryz.underlying94) Tryz.underlying227 2 ?_
   rw[HK.out]
   simp only[Option.getD_some,id_eq,Bool.false_eq_true,if_false]
   refine dM (lv:=[]) (first:= #[]) (captured:= #[.pointer (some ⟨b5,0,none⟩),.pointer (some ⟨b3,0,none⟩),.pointer (some ⟨b2,0,none⟩)]) Tryz.func170 (TG (Jz.out.ah (by simp)) BA.out (HTR.out.ah (by simp))) (λr w2 hR=>?_)
   obtain⟨rfl,bP⟩:=hR
   have jG:=Zh (bP.ext (Et HE.out (by simp)))
   clear bP
   repeat'(first|refine aF ?_|refine au ?_|refine aC ?_|go_step)
   exact aA hd (by rw[Zz.out];exact⟨rfl,jG.out⟩)
  ·have e:c.lC m=(c.aP m.part m.to ((c.rep m.part m.to).take m.reply),(c.rep m.part m.to).lD m.reply):=by unfold aO.lC;simp[hk3]
   have Zz:=Zh e
   rw[hk3]at v0
   have HK:=Zh MN
   clear e hk3 NW Ph MN hf5 hf7
   repeat'(first|refine aF ?_|fail)
   refine wM (bZ:=ki) (dG:=(id:Value→Value)) (z:=.nilFunc) (HMf.out.ah (by simp)) (dU Tryz.underlying94) Tryz.underlying227 3 ?_
   rw[HK.out]
   simp only[Option.getD_some,id_eq,Bool.false_eq_true,if_false]
   refine dM (lv:=[]) (first:= #[]) (captured:= #[.pointer (some ⟨b5,0,none⟩),.pointer (some ⟨b3,0,none⟩)]) Tryz.func172 (TB (Jz.out.ah (by simp)) BA.out (HTR.out.ah (by simp))) (λr w2 hR=>?_)
   obtain⟨rfl,bP⟩:=hR
   have jG:=Zh (bP.ext (Et HE.out (by simp)))
   clear bP
   repeat'(first|refine aF ?_|refine au ?_|refine aC ?_|go_step)
   exact aA hd (by rw[Zz.out];exact⟨rfl,jG.out⟩)
  ·have e:c.lC m=(c.aP m.part m.to ((c.rep m.part m.to).app m.ent),(c.rep m.part m.to).oI m.ent):=by unfold aO.lC;simp[hk5]
   have Zz:=Zh e
   rw[hk5]at v0
   have HK:=Zh hf5
   clear e hk5 NW Ph MN hf5 hf7
   repeat'(first|refine aF ?_|fail)
   refine wM (bZ:=ki) (dG:=(id:Value→Value)) (z:=.nilFunc) (HMf.out.ah (by simp)) (dU Tryz.underlying94) Tryz.underlying227 5 ?_
   rw[HK.out]
   simp only[Option.getD_some,id_eq,Bool.false_eq_true,if_false]
   refine dM (lv:=[]) (first:= #[]) (captured:= #[.pointer (some ⟨b5,0,none⟩),.pointer (some ⟨b3,0,none⟩)]) Tryz.func167 (Jd (Jz.out.ah (by simp)) BA.out (HTR.out.ah (by simp))) (λr w2 hR=>?_)
   obtain⟨rfl,bP⟩:=hR
   have jG:=Zh (bP.ext (Et HE.out (by simp)))
   clear bP
   repeat'(first|refine aF ?_|refine au ?_|refine aC ?_|go_step)
   exact aA hd (by rw[Zz.out];exact⟨rfl,jG.out⟩)
  ·have e:c.lC m=(c.aP m.part m.to ((c.rep m.part m.to).app m.ent),(c.rep m.part m.to).oI m.ent):=by unfold aO.lC;simp[hk7]
   have Zz:=Zh e
   rw[hk7]at v0
   have HK:=Zh hf7
   clear e hk7 NW Ph MN hf5 hf7
   repeat'(first|refine aF ?_|fail)
   refine wM (bZ:=ki) (dG:=(id:Value→Value)) (z:=.nilFunc) (HMf.out.ah (by simp)) (dU Tryz.underlying94) Tryz.underlying227 7 ?_
   rw[HK.out]
   simp only[Option.getD_some,id_eq,Bool.false_eq_true,if_false]
   refine dM (lv:=[]) (first:= #[]) (captured:= #[.pointer (some ⟨b5,0,none⟩),.pointer (some ⟨b3,0,none⟩)]) Tryz.func167 (Jd (Jz.out.ah (by simp)) BA.out (HTR.out.ah (by simp))) (λr w2 hR=>?_)
   obtain⟨rfl,bP⟩:=hR
   have jG:=Zh (bP.ext (Et HE.out (by simp)))
   clear bP
   repeat'(first|refine aF ?_|refine au ?_|refine aC ?_|go_step)
   exact aA hd (by rw[Zz.out];exact⟨rfl,jG.out⟩)
end Go.Ws
