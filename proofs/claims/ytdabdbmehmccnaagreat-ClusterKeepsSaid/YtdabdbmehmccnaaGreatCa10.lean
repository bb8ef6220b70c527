/- Lemmas for the statements of this layer (joined texts); no condition. -/
import Derived.Test.YtdabdbmehmccnaaGreatCa01
import Derived.Test.YtdabdbmehmccnaaGreatCa02
import Derived.Test.YtdabdbmehmccnaaGreatCa03
import Derived.Test.YtdabdbmehmccnaaGreatCa04
import Derived.Test.YtdabdbmehmccnaaGreatCa05
import Derived.Test.YtdabdbmehmccnaaGreatCa07
import Derived.Test.YtdabdbmehmccnaaGreatCa09
namespace Go.Ws
open Go Go.RowKit Go.Proofs
set_option maxHeartbeats 4000000
set_option maxRecDepth 100000
set_option linter.unusedVariables false
set_option linter.unusedSimpArgs false
theorem VP {w:World} {b:Nat} {F:Nat→Prop} {m:aH} (x:Int) (h:gX w b F m):gK Tryz.prog 109 #[.pointer (some ⟨b,0,none⟩),.int .i64 x] w λr w'=>r=.int .i64 (m.iV x)∧wS w b F (m.fence x) w':=by
 have HH:=Zh h
 by_cases hp:m.aV x=true
 ·obtain⟨j,rfl⟩:∃ j:Nat,x=j:=⟨x.toNat,by simp only[aH.aV,Bool.and_eq_true,decide_eq_true_eq]at hp;omega⟩
  have HP:=Zh hp
  have HG:=Zh h.bU
  clear h hp
  obtain⟨a,hA,hF⟩:=HH.out
  have HA:=Zh hA
  have HF:=Zh hF
  clear hA hF
  refine Fi (n:=119) Tryz.func109 ?_;intro A hd hA;simp only[ix,Nat.reduceAdd]
  repeat'(first|refine aF ?_|refine au ?_|refine ak (λK hK=>?_)|refine aj ?_|go_step)
  refine aX Tryz.func63 (dK (c:=false) (λw' hE=>(HH.out.ah (Et (aB.refl _) hE)).some)) (λr w1 hR=>?_)
  obtain⟨hE,f1,rfl,hC⟩:=hR
  have HE:=Zh (hE)
  have gY:=Zh hC
  clear hE hC
  repeat'(first|refine aF ?_|fail)
  refine aX Tryz.func155 (iw (j:Int) (HH.out.ah HE.out)) (λr w1 hR=>?_)
  obtain⟨hE,f2,rfl,hC⟩:=hR
  replace HE:=Zh (Et HE.out hE)
  replace gY:=Zh (gY.out.ah hE)
  have kG:=Zh hC
  clear hE hC
  repeat'(first|refine aN Tryz.func62 (dD (xs:=[(f1,false,1),(f2,!m.aV (j:Int),2)]) (n:=0) (dW _ aS rfl (by unfold maxLen;simp)) (dF.cons (gY.out.ah (by simp)) (dF.cons (kG.out.ah (by simp)) dF.nil)) (by simp[fA,HP.out])) ?_|refine aF ?_|refine au ?_|refine ak (λK hK=>?_)|refine aj ?_|refine aG ?_|(refine dI (λx K hK=>?_);go_simp;refine hK _ _ (aB.alloc _ _) ?_;clear hK K;refine aZ x ?_;generalize (World.ah _ x).heap.size=bn;intro yn aU bD bC bG aS;clear x)|refine bJ ?_|go_step)
  clear gY kG
  refine aX Tryz.func60 (OG (HH.out.ah (Et HE.out (by simp)))) (λr w3 hR=>?_)
  obtain⟨bc,rfl,jX,qK,ac,hC,hCF⟩:=hR
  have sD:aB w w3:=Et HE.out (Et (by simp) jX)
  have hCT:∀ q,ac.T q≠0→w.heap.size≤q:=λq hq=>Nat.le_trans (Et HE.out (by simp)).size (hCF q hq)
  obtain⟨AV,nV,cV,hV⟩:=aT hC.views
  have hnV:nV=m.views.length:=by have h1:=dQ.rd (enc:=Pm) (k:=4) (λ_=>rfl) hC.views;rw[hV]at h1;have h2:=congrArg List.length hC.vm;rw[List.length_map]at h2;rw[←h2];exact(h1.length).symm▸rfl
  subst hnV
  obtain⟨aoO,-,-,-,-,cc4,-⟩:=hC.cells
  rw[hV]at cc4
  have hvl:m.views.length≤4:=by have:=HG.out.xQ;have:=gB.dX HG.out.right;omega
  have LH:Hid (aB w w3∧∃ ar,fB w3 bc ar m.form m.lives∧ar.vs.map (·.1)=qx m (j:Int) 0∧(∀q,ar.T q≠0→w.heap.size≤q)∧ar.uV=.slice AV m.views.length cV∧∀ v∈m.views.take 0,(aH.fenced (j:Int) v).isSome=true):=
   Zh ⟨sD,ac,⟨hC.gy,hC.lives,hC.views,hC.lu,hC.isr,hC.parts,hC.tb,hC.tL,hC.tV,hC.tW,hC.lt⟩,by rw[Qh];exact hC.vm,hCT,hV,by simp⟩
  clear hC hCF hCT jX sD aU bD bC bG aS hV HE qK
  repeat'(first|refine aF ?_|refine au ?_|refine ak (λK hK=>?_)|refine aj ?_|refine aJ ?_|go_step)
  refine dJ [0,1,6,28,29] (λn vs w'=>∃ k:Nat,k+n=m.views.length∧vs=[.pointer (some ⟨b,0,none⟩),.int .i64 (j:Int),.slice AV m.views.length cV,.int .i64 m.views.length,.int .i64 k]∧(aB w w'∧∃ ar,fB w' bc ar m.form m.lives∧ar.vs.map (·.1)=qx m (j:Int) k∧(∀q,ar.T q≠0→w.heap.size≤q)∧ar.uV=.slice AV m.views.length cV∧∀ v∈m.views.take k,(aH.fenced (j:Int) v).isSome=true)) m.views.length hd hA (by decide) ⟨0,by omega,by simp[jW],LH.out⟩ ?_
  clear hd hA A LH cc4 aoO;intro n vs A w' hd hA _ ⟨k,hk,jk,xP,ar,lJ,hrv,OH,hrU,hrs⟩;subst jk
  obtain⟨y,rfl⟩:=xP.get
  clear xP
  have fK:=Zh lJ
  have OI:=Zh hrv
  have DW:=Zh OH
  have MV:=Zh hrU
  have XV:=Zh hrs
  clear lJ hrv OH hrU hrs
  simp only[List.zip_cons_cons,List.zip_nil_right,List.zip_nil_left]
  by_cases Dt:k<m.views.length
  ·have sZ:(k:Int)<m.views.length:=by omega
   have Jt:ar.vs.length=m.views.length:=by
    have h2:=congrArg List.length OI.out
    rw[List.length_map]at h2
    rw[h2];simp[qx];omega
   obtain⟨v,hv⟩:∃ v,m.views[k]? =some v:=⟨_,List.getElem?_eq_getElem Dt⟩
   have kS:k<ar.vs.length:=by omega
   obtain⟨u,hx⟩:∃ u,ar.vs[k]? =some (v,u):=by
    obtain⟨xr,hxr⟩:∃ x,ar.vs[k]? =some x:=⟨_,List.getElem?_eq_getElem kS⟩
    have h1:(ar.vs.map (·.1))[k]? =some xr.1:=by rw[List.getElem?_map,hxr];rfl
    rw[OI.out,CS Dt,hv]at h1
    cases h1
    exact⟨xr.2,hxr⟩
   obtain⟨g,c,iZ,Dq,jT,hw⟩:=fK.out.views.Bf hx
   rw[MV.out]at iZ
   have aoP:AV=some ⟨g,0,none⟩:=by injection iZ
   have aoQ:cV=c:=by injection iZ
   subst aoP aoQ
   obtain⟨lg,e0,e1,e2,e3⟩:=hw
   dsimp only at e0 e1 e2 e3
   obtain⟨vM,yw⟩:=fK.out.isr k _ hx
   dsimp only at vM yw
   have jq:=Zh vM
   have JV:=Zh yw
   have HV:=Zh hv
   have HU:=Zh hx
   have lU:rJ m.form v:=HG.out.views v (List.mem_of_getElem? hv)
   have QM:=Zh lU
   have Zk:=fK.out.tV g (by rw[MV.out];rfl)
   have UM:v.epoch<2147483647→v.epoch+1<9223372036854775808:=λ_=>by omega
   have UM:v.epoch+1<9223372036854775808:=by have:=lU.epoch;unfold bQ at this;omega
   have hx2:0≤v.epoch:=lU.epoch.1
   have Xh:v.version+1<9223372036854775808:=by have:=lU.version;unfold bQ at this;omega
   have hx4:0≤v.version:=lU.version.1
   obtain⟨Au,nu,cu,hus⟩:=aT vM
   have hnu:nu=v.isr.length:=by have h1:=dQ.rd (enc:=xK) (k:=1) (λ_=>rfl) vM;rw[hus]at h1;exact(h1.length).symm▸rfl
   subst hnu
   subst hus
   clear vM yw hv hx iZ lU
   repeat'(first|refine aF ?_|refine au ?_|refine ak (λK hK=>?_)|refine aj ?_|refine aG ?_|refine aJ ?_|refine bH ?_|go_step)
   refine aX Tryz.func158 (qP v.isr _ (j:Int) _ (dQ.Oj jq.out).rd) (λr w9 hR=>?_)
   obtain⟨OC,ix,rfl,Yn⟩:=hR
   obtain⟨y9,rfl⟩:=OC.get
   have SG:=Zh Yn
   clear OC Yn
   by_cases hl:v.leader=(j:Int)
   ·by_cases ou:(j:Int)∈v.isr
    ·by_cases h1:1<v.isr.length
     ·by_cases he:bQ≤v.version∨bQ≤v.epoch
      ·have NZ:(v.leader==(j:Int))=true:=by simp[hl]
       obtain⟨q,rfl,IZ⟩:∃ q:Nat,ix=q∧v.isr[q]? =some (j:Int):=by
        rcases SG.out with h|h
        ·exact absurd ou h.2
        ·exact h
       have NC:=Zh IZ
       clear IZ
       have hq0:(0:Int)≤(q:Int):=by omega
       have Po:(1:Int)<v.isr.length:=by omega
       have Un:2147483647≤v.version∨2147483647≤v.epoch:=by unfold bQ at he;omega
       have zB:Hid (aH.fenced (j:Int) v=none):=Zh (by
        unfold aH.fenced
        have hlv:(decide ((j:Int)∈v.isr)&&decide (1<v.isr.length))=true:=by simp[ou,h1]
        simp only[NZ,hlv]
        rw[if_neg (by decide),if_pos (by unfold bQ;rcases Un with h|h;exact .inl h;exact .inr ⟨by first|trivial|rfl,h⟩)])
       clear ou h1
       by_cases he3:2147483647≤v.version
       ·repeat'(first|refine dw ?_|refine aF ?_|refine mg ?_|refine jF ?_|refine au ?_|refine ak (λK hK=>?_)|refine aj ?_|refine aC ?_|refine aG ?_|refine bH ?_|refine bJ ?_|go_step)
        have bT:m.iV (j:Int)=204:=by
         unfold aH.iV
         rw[if_neg (by simp[HP.out]),if_pos]
         rw[Bool.eq_false_iff]
         intro jB
         have:=List.all_eq_true.1 jB v (List.mem_of_getElem? HV.out)
         rw[zB.out]at this;cases this
        have bP:m.fence (j:Int)=m:=by simp[aH.fence,bT]
        rw[bT,bP]
        exact aA hd ⟨rfl,HH.out.jc (Et y.ext y9.ext)⟩
       ·have he4:2147483647≤v.epoch:=by omega
        repeat'(first|refine dw ?_|refine aF ?_|refine mg ?_|refine au ?_|refine ak (λK hK=>?_)|refine aj ?_|refine aC ?_|refine aG ?_|refine bH ?_|refine bJ ?_|go_step)
        have bT:m.iV (j:Int)=204:=by
         unfold aH.iV
         rw[if_neg (by simp[HP.out]),if_pos]
         rw[Bool.eq_false_iff]
         intro jB
         have:=List.all_eq_true.1 jB v (List.mem_of_getElem? HV.out)
         rw[zB.out]at this;cases this
        have bP:m.fence (j:Int)=m:=by simp[aH.fence,bT]
        rw[bT,bP]
        exact aA hd ⟨rfl,HH.out.jc (Et y.ext y9.ext)⟩
      ·have NZ:(v.leader==(j:Int))=true:=by simp[hl]
       obtain⟨q,rfl,IZ⟩:∃ q:Nat,ix=q∧v.isr[q]? =some (j:Int):=by
        rcases SG.out with h|h
        ·exact absurd ou h.2
        ·exact h
       have NC:=Zh IZ
       clear IZ
       have hq0:(0:Int)≤(q:Int):=by omega
       have Po:(1:Int)<v.isr.length:=by omega
       have Un:¬ 2147483647≤v.version:=by unfold bQ at he;omega
       have he2:¬ 2147483647≤v.epoch:=by unfold bQ at he;omega
       have zB:Hid (aH.fenced (j:Int) v=some ⟨-1,v.epoch+1,v.version+1,v.isr.filter (· ≠(j:Int))⟩):=Zh (by
        unfold aH.fenced
        have hlv:(decide ((j:Int)∈v.isr)&&decide (1<v.isr.length))=true:=by simp[ou,h1]
        simp only[NZ,hlv]
        rw[if_neg (by decide),if_neg (by unfold bQ;rintro(h|⟨-,h⟩);exact Un h;exact he2 h)]
        rfl)
       have Lp:=Zh ou
       obtain⟨gp,cp,BM,hcp,Zj,-,-⟩:=dQ.at (enc:=xK) (k:=1) (λ_=>rfl) jq.out NC.out
       have ahF:Au=some ⟨gp,0,none⟩:=by injection BM
       have ahG:cu=cp:=by injection BM
       subst ahF ahG
       have hql:q<v.isr.length:=(Ge NC.out).1
       obtain⟨j2,hj2⟩:∃ j2:Nat,j2=q+1:=⟨_,rfl⟩
       have hqj:(q:Int)+1=(j2:Int):=by omega
       have hjr:(j2:Int)<9223372036854775808:=by omega
       have HJ2:=Zh hj2
       have Ic:=JV.out gp rfl
       have rM:gp≠g:=λe=>by rw[e]at Ic;omega
       clear hj2 BM
       clear ou h1
       replace fK:=Zh (fK.out.ah (by simp:aB (w.ah y) ((w.ah y).ah y9)))
       replace jq:=Zh (jq.out.ah (by simp:aB (w.ah y) ((w.ah y).ah y9)))
       have HYE:Hid (aB w ((w.ah y).ah y9)):=Zh (by simp)
       repeat'(first|refine dw ?_|refine aF ?_|refine mg ?_|refine au ?_|refine ak (λK hK=>?_)|refine aj ?_|refine aG ?_|refine bH ?_|refine bJ ?_|go_step)
       have HO:Hid (dQ Pm 4 45 ((w.ah y).ah y9) (.slice (some ⟨g,0,none⟩) ar.vs.length cV) (ar.vs.set k (v,.slice (some ⟨gp,0,none⟩) v.isr.length cu))):=Zh (by have h:=fK.out.views;rw[MV.out,←Jt]at h;rw[uJ HU.out];exact h)
       have HM:Hid (bF (λq'=>q'=g∨q'=gp) ((w.ah y).ah y9) ((w.ah y).ah y9)):=Zh (bF.refl _ _)
       clear lg e0 e1 e2 e3
       obtain⟨g',c',jf,-,-,hw⟩:=HO.out.Bf (List.getElem?_set_self kS)
       simp only[List.length_set]at jf
       cases jf
       obtain⟨lg,e0,e1,e2,e3⟩:=hw
       try dsimp only at e0 e1 e2 e3
       refine kN (v:=.int .i64 (-1)) k 0 (v,.slice (some ⟨gp,0,none⟩) v.isr.length cu) ((⟨-1,v.epoch,v.version,v.isr⟩:dL),.slice (some ⟨gp,0,none⟩) v.isr.length cu) HO.out (List.getElem?_set_self kS) (λ_=>rfl) (by simp[Value.cells]) (by intro j' u' h;have hj:j'<4:=(Ge h).1;rcases(show j'=0∨j'=1∨j'=2∨j'=3 by omega) with rfl|rfl|rfl|rfl<;>simpa [Value.cells] using h) (λWN hM hO=>?_)
       clear lg e0 e1 e2 e3
       rw[List.set_set]at hO
       replace HO:=Zh hO
       replace HM:=Zh (bF.trans HM.out hM (H:=λq'=>q'=g∨q'=gp) (λ_ _ h=>h) (λq _ h=>.inl h))
       replace jq:=Zh (jq.out.aW hM (λq' nG e=>by have h:=JV.out q' nG;subst e;omega))
       clear hM hO
       obtain⟨g',c',jf,-,-,hw⟩:=HO.out.Bf (List.getElem?_set_self kS)
       simp only[List.length_set]at jf
       cases jf
       obtain⟨lg,e0,e1,e2,e3⟩:=hw
       try dsimp only at e0 e1 e2 e3
       repeat'(first|refine aF ?_|refine au ?_|refine aj ?_|go_step)
       refine kN (v:=.int .i64 (v.epoch+1)) k 1 ((⟨-1,v.epoch,v.version,v.isr⟩:dL),.slice (some ⟨gp,0,none⟩) v.isr.length cu) ((⟨-1,v.epoch+1,v.version,v.isr⟩:dL),.slice (some ⟨gp,0,none⟩) v.isr.length cu) HO.out (List.getElem?_set_self kS) (λ_=>rfl) (by simp[Value.cells]) (by intro j' u' h;have hj:j'<4:=(Ge h).1;rcases(show j'=0∨j'=1∨j'=2∨j'=3 by omega) with rfl|rfl|rfl|rfl<;>simpa [Value.cells] using h) (λWN hM hO=>?_)
       clear lg e0 e1 e2 e3
       rw[List.set_set]at hO
       replace HO:=Zh hO
       replace HM:=Zh (bF.trans HM.out hM (H:=λq'=>q'=g∨q'=gp) (λ_ _ h=>h) (λq _ h=>.inl h))
       replace jq:=Zh (jq.out.aW hM (λq' nG e=>by have h:=JV.out q' nG;subst e;omega))
       clear hM hO
       obtain⟨g',c',jf,-,-,hw⟩:=HO.out.Bf (List.getElem?_set_self kS)
       simp only[List.length_set]at jf
       cases jf
       obtain⟨lg,e0,e1,e2,e3⟩:=hw
       try dsimp only at e0 e1 e2 e3
       repeat'(first|refine aF ?_|refine au ?_|refine ak (λK hK=>?_)|refine aj ?_|refine bH ?_|go_step)
       refine aX Tryz.func159 (ET jq.out hql HJ2.out hcp Zj) (λr VD hR=>?_)
       obtain⟨rfl,hMD,hOD⟩:=hR
       have HPD:=Zh hOD
       replace HO:=Zh (HO.out.aW hMD (λq' nG e=>by have hbq:g=q':=Option.some.inj nG;omega))
       replace HM:=Zh (bF.trans HM.out hMD (H:=λq'=>q'=g∨q'=gp) (λ_ _ h=>h) (λq' _ h=>.inr h))
       clear lg e0 e1 e2 e3
       clear hMD hOD jq
       obtain⟨g',c',jf,-,-,hw⟩:=HO.out.Bf (List.getElem?_set_self kS)
       simp only[List.length_set]at jf
       cases jf
       obtain⟨lg,e0,e1,e2,e3⟩:=hw
       try dsimp only at e0 e1 e2 e3
       repeat'(first|refine aF ?_|fail)
       refine kN (v:=.slice (some ⟨gp,0,none⟩) (v.isr.length-1) cu) k 3 ((⟨-1,v.epoch+1,v.version,v.isr⟩:dL),.slice (some ⟨gp,0,none⟩) v.isr.length cu) ((⟨-1,v.epoch+1,v.version,v.isr.eraseIdx q⟩:dL),(Value.slice (some ⟨gp,0,none⟩) (v.isr.length-1) cu)) HO.out (List.getElem?_set_self kS) (λ_=>rfl) (by simp[Value.cells]) (by intro j' u' h;have hj:j'<4:=(Ge h).1;rcases(show j'=0∨j'=1∨j'=2∨j'=3 by omega) with rfl|rfl|rfl|rfl<;>simpa [Value.cells] using h) (λWN hM hO=>?_)
       clear lg e0 e1 e2 e3
       rw[List.set_set]at hO
       replace HO:=Zh hO
       replace HM:=Zh (bF.trans HM.out hM (H:=λq'=>q'=g∨q'=gp) (λ_ _ h=>h) (λq _ h=>.inl h))
       replace HPD:=Zh (HPD.out.aW hM (λq' nG e=>by have hbq:gp=q':=Option.some.inj nG;omega))
       clear hM hO
       obtain⟨g',c',jf,-,-,hw⟩:=HO.out.Bf (List.getElem?_set_self kS)
       simp only[List.length_set]at jf
       cases jf
       obtain⟨lg,e0,e1,e2,e3⟩:=hw
       try dsimp only at e0 e1 e2 e3
       repeat'(first|refine aF ?_|refine au ?_|refine aj ?_|go_step)
       refine kN (v:=.int .i64 (v.version+1)) k 2 ((⟨-1,v.epoch+1,v.version,v.isr.eraseIdx q⟩:dL),(Value.slice (some ⟨gp,0,none⟩) (v.isr.length-1) cu)) ((⟨-1,v.epoch+1,v.version+1,v.isr.eraseIdx q⟩:dL),(Value.slice (some ⟨gp,0,none⟩) (v.isr.length-1) cu)) HO.out (List.getElem?_set_self kS) (λ_=>rfl) (by simp[Value.cells]) (by intro j' u' h;have hj:j'<4:=(Ge h).1;rcases(show j'=0∨j'=1∨j'=2∨j'=3 by omega) with rfl|rfl|rfl|rfl<;>simpa [Value.cells] using h) (λWN hM hO=>?_)
       clear lg e0 e1 e2 e3
       rw[List.set_set]at hO
       replace HO:=Zh hO
       replace HM:=Zh (bF.trans HM.out hM (H:=λq'=>q'=g∨q'=gp) (λ_ _ h=>h) (λq _ h=>.inl h))
       replace HPD:=Zh (HPD.out.aW hM (λq' nG e=>by have hbq:gp=q':=Option.some.inj nG;omega))
       clear hM hO
       obtain⟨g',c',jf,-,-,hw⟩:=HO.out.Bf (List.getElem?_set_self kS)
       simp only[List.length_set]at jf
       cases jf
       obtain⟨lg,e0,e1,e2,e3⟩:=hw
       try dsimp only at e0 e1 e2 e3
       repeat'(first|refine aF ?_|refine au ?_|refine aj ?_|go_step)
       have CU:=fK.out.Sj (i:=k) (x:=((⟨-1,v.epoch+1,v.version+1,v.isr.eraseIdx q⟩:dL),(Value.slice (some ⟨gp,0,none⟩) (v.isr.length-1) cu))) (by omega) HM.out (λq' _ h3 h8 hg=>by rcases hg with rfl|rfl;exact h3 Zk;exact h8 Ic) (by rw[MV.out,←Jt];exact HO.out) HPD.out (λq' nG=>JV.out q' nG)
       have Ku:=Zh CU
       have iU:=aB.bK HYE.out HM.out (λq' hg=>DW.out q' (by rcases hg with rfl|rfl<;>omega))
       have rO:=Zh iU
       clear CU iU
       have hfv:(aH.fenced (j:Int) v).getD v=⟨-1,v.epoch+1,v.version+1,v.isr.eraseIdx q⟩:=by rw[zB.out];(have h:=qE v.isr q (j:Int) QM.out.rise NC.out;rw[h];rfl)
       refine⟨_,_,rfl,hd,hA,n-1,by omega,k+1,by omega,by simp[jW],rO.out,_,Ku.out,?_,DW.out,MV.out,?_⟩
       ·show (ar.vs.set k _).map (·.1)=_
        rw[List.map_set,OI.out,←rW HV.out,hfv]
       ·intro v' FI
        rw[gV HV.out,List.mem_append,List.mem_singleton]at FI
        rcases FI with h|rfl
        ·exact XV.out v' h
        ·rw[zB.out];rfl
     ·by_cases he:bQ≤v.version∨bQ≤v.epoch
      ·have NZ:(v.leader==(j:Int))=true:=by simp[hl]
       obtain⟨q,rfl,IZ⟩:∃ q:Nat,ix=q∧v.isr[q]? =some (j:Int):=by
        rcases SG.out with h|h
        ·exact absurd ou h.2
        ·exact h
       have NC:=Zh IZ
       clear IZ
       have hq0:(0:Int)≤(q:Int):=by omega
       have Po:¬ (1:Int)<v.isr.length:=by omega
       have Un:2147483647≤v.version∨2147483647≤v.epoch:=by unfold bQ at he;omega
       have zB:Hid (aH.fenced (j:Int) v=none):=Zh (by
        unfold aH.fenced
        have hlv:(decide ((j:Int)∈v.isr)&&decide (1<v.isr.length))=false:=by simp[ou,h1]
        simp only[NZ,hlv]
        rw[if_neg (by decide),if_pos (by unfold bQ;rcases Un with h|h;exact .inl h;exact .inr ⟨by first|trivial|rfl,h⟩)])
       clear ou h1
       by_cases he3:2147483647≤v.version
       ·repeat'(first|refine dw ?_|refine aF ?_|refine mg ?_|refine jF ?_|refine au ?_|refine ak (λK hK=>?_)|refine aj ?_|refine aC ?_|refine aG ?_|refine bH ?_|refine bJ ?_|go_step)
        have bT:m.iV (j:Int)=204:=by
         unfold aH.iV
         rw[if_neg (by simp[HP.out]),if_pos]
         rw[Bool.eq_false_iff]
         intro jB
         have:=List.all_eq_true.1 jB v (List.mem_of_getElem? HV.out)
         rw[zB.out]at this;cases this
        have bP:m.fence (j:Int)=m:=by simp[aH.fence,bT]
        rw[bT,bP]
        exact aA hd ⟨rfl,HH.out.jc (Et y.ext y9.ext)⟩
       ·have he4:2147483647≤v.epoch:=by omega
        repeat'(first|refine dw ?_|refine aF ?_|refine mg ?_|refine au ?_|refine ak (λK hK=>?_)|refine aj ?_|refine aC ?_|refine aG ?_|refine bH ?_|refine bJ ?_|go_step)
        have bT:m.iV (j:Int)=204:=by
         unfold aH.iV
         rw[if_neg (by simp[HP.out]),if_pos]
         rw[Bool.eq_false_iff]
         intro jB
         have:=List.all_eq_true.1 jB v (List.mem_of_getElem? HV.out)
         rw[zB.out]at this;cases this
        have bP:m.fence (j:Int)=m:=by simp[aH.fence,bT]
        rw[bT,bP]
        exact aA hd ⟨rfl,HH.out.jc (Et y.ext y9.ext)⟩
      ·have NZ:(v.leader==(j:Int))=true:=by simp[hl]
       obtain⟨q,rfl,IZ⟩:∃ q:Nat,ix=q∧v.isr[q]? =some (j:Int):=by
        rcases SG.out with h|h
        ·exact absurd ou h.2
        ·exact h
       have NC:=Zh IZ
       clear IZ
       have hq0:(0:Int)≤(q:Int):=by omega
       have Po:¬ (1:Int)<v.isr.length:=by omega
       have Un:¬ 2147483647≤v.version:=by unfold bQ at he;omega
       have he2:¬ 2147483647≤v.epoch:=by unfold bQ at he;omega
       have zB:Hid (aH.fenced (j:Int) v=some ⟨-1,v.epoch+1,v.version+1,v.isr⟩):=Zh (by
        unfold aH.fenced
        have hlv:(decide ((j:Int)∈v.isr)&&decide (1<v.isr.length))=false:=by simp[ou,h1]
        simp only[NZ,hlv]
        rw[if_neg (by decide),if_neg (by unfold bQ;rintro(h|⟨-,h⟩);exact Un h;exact he2 h)]
        rfl)
       clear ou h1
       replace fK:=Zh (fK.out.ah (by simp:aB (w.ah y) ((w.ah y).ah y9)))
       replace jq:=Zh (jq.out.ah (by simp:aB (w.ah y) ((w.ah y).ah y9)))
       have HYE:Hid (aB w ((w.ah y).ah y9)):=Zh (by simp)
       repeat'(first|refine dw ?_|refine aF ?_|refine mg ?_|refine au ?_|refine ak (λK hK=>?_)|refine aj ?_|refine aG ?_|refine bH ?_|refine bJ ?_|go_step)
       have HO:Hid (dQ Pm 4 45 ((w.ah y).ah y9) (.slice (some ⟨g,0,none⟩) ar.vs.length cV) (ar.vs.set k (v,.slice Au v.isr.length cu))):=Zh (by have h:=fK.out.views;rw[MV.out,←Jt]at h;rw[uJ HU.out];exact h)
       have HM:Hid (bF (λq'=>q'=g) ((w.ah y).ah y9) ((w.ah y).ah y9)):=Zh (bF.refl _ _)
       clear lg e0 e1 e2 e3
       obtain⟨g',c',jf,-,-,hw⟩:=HO.out.Bf (List.getElem?_set_self kS)
       simp only[List.length_set]at jf
       cases jf
       obtain⟨lg,e0,e1,e2,e3⟩:=hw
       try dsimp only at e0 e1 e2 e3
       refine kN (v:=.int .i64 (-1)) k 0 (v,.slice Au v.isr.length cu) ((⟨-1,v.epoch,v.version,v.isr⟩:dL),.slice Au v.isr.length cu) HO.out (List.getElem?_set_self kS) (λ_=>rfl) (by simp[Value.cells]) (by intro j' u' h;have hj:j'<4:=(Ge h).1;rcases(show j'=0∨j'=1∨j'=2∨j'=3 by omega) with rfl|rfl|rfl|rfl<;>simpa [Value.cells] using h) (λWN hM hO=>?_)
       clear lg e0 e1 e2 e3
       rw[List.set_set]at hO
       replace HO:=Zh hO
       replace HM:=Zh (bF.trans HM.out hM (H:=λq'=>q'=g) (λ_ _ h=>h) (λq _ h=>h))
       replace jq:=Zh (jq.out.aW hM (λq' nG e=>by have h:=JV.out q' nG;subst e;omega))
       clear hM hO
       obtain⟨g',c',jf,-,-,hw⟩:=HO.out.Bf (List.getElem?_set_self kS)
       simp only[List.length_set]at jf
       cases jf
       obtain⟨lg,e0,e1,e2,e3⟩:=hw
       try dsimp only at e0 e1 e2 e3
       repeat'(first|refine aF ?_|refine au ?_|refine aj ?_|go_step)
       refine kN (v:=.int .i64 (v.epoch+1)) k 1 ((⟨-1,v.epoch,v.version,v.isr⟩:dL),.slice Au v.isr.length cu) ((⟨-1,v.epoch+1,v.version,v.isr⟩:dL),.slice Au v.isr.length cu) HO.out (List.getElem?_set_self kS) (λ_=>rfl) (by simp[Value.cells]) (by intro j' u' h;have hj:j'<4:=(Ge h).1;rcases(show j'=0∨j'=1∨j'=2∨j'=3 by omega) with rfl|rfl|rfl|rfl<;>simpa [Value.cells] using h) (λWN hM hO=>?_)
       clear lg e0 e1 e2 e3
       rw[List.set_set]at hO
       replace HO:=Zh hO
       replace HM:=Zh (bF.trans HM.out hM (H:=λq'=>q'=g) (λ_ _ h=>h) (λq _ h=>h))
       replace jq:=Zh (jq.out.aW hM (λq' nG e=>by have h:=JV.out q' nG;subst e;omega))
       clear hM hO
       obtain⟨g',c',jf,-,-,hw⟩:=HO.out.Bf (List.getElem?_set_self kS)
       simp only[List.length_set]at jf
       cases jf
       obtain⟨lg,e0,e1,e2,e3⟩:=hw
       try dsimp only at e0 e1 e2 e3
       repeat'(first|refine aF ?_|refine au ?_|refine ak (λK hK=>?_)|refine aj ?_|refine aG ?_|refine bJ ?_|go_step)
       refine kN (v:=.int .i64 (v.version+1)) k 2 ((⟨-1,v.epoch+1,v.version,v.isr⟩:dL),.slice Au v.isr.length cu) ((⟨-1,v.epoch+1,v.version+1,v.isr⟩:dL),.slice Au v.isr.length cu) HO.out (List.getElem?_set_self kS) (λ_=>rfl) (by simp[Value.cells]) (by intro j' u' h;have hj:j'<4:=(Ge h).1;rcases(show j'=0∨j'=1∨j'=2∨j'=3 by omega) with rfl|rfl|rfl|rfl<;>simpa [Value.cells] using h) (λWN hM hO=>?_)
       clear lg e0 e1 e2 e3
       rw[List.set_set]at hO
       replace HO:=Zh hO
       replace HM:=Zh (bF.trans HM.out hM (H:=λq'=>q'=g) (λ_ _ h=>h) (λq _ h=>h))
       replace jq:=Zh (jq.out.aW hM (λq' nG e=>by have h:=JV.out q' nG;subst e;omega))
       clear hM hO
       obtain⟨g',c',jf,-,-,hw⟩:=HO.out.Bf (List.getElem?_set_self kS)
       simp only[List.length_set]at jf
       cases jf
       obtain⟨lg,e0,e1,e2,e3⟩:=hw
       try dsimp only at e0 e1 e2 e3
       repeat'(first|refine aF ?_|refine au ?_|refine aj ?_|go_step)
       have CU:=fK.out.Sj (i:=k) (x:=((⟨-1,v.epoch+1,v.version+1,v.isr⟩:dL),.slice Au v.isr.length cu)) (by omega) HM.out (λq' _ h3 h8 hg=>by subst hg;exact h3 Zk) (by rw[MV.out,←Jt];exact HO.out) jq.out JV.out
       have Ku:=Zh CU
       have iU:=aB.bK HYE.out HM.out (λq' hg=>DW.out q' (by subst hg;omega))
       have rO:=Zh iU
       clear CU iU
       have hfv:(aH.fenced (j:Int) v).getD v=⟨-1,v.epoch+1,v.version+1,v.isr⟩:=by rw[zB.out];rfl
       refine⟨_,_,rfl,hd,hA,n-1,by omega,k+1,by omega,by simp[jW],rO.out,_,Ku.out,?_,DW.out,MV.out,?_⟩
       ·show (ar.vs.set k _).map (·.1)=_
        rw[List.map_set,OI.out,←rW HV.out,hfv]
       ·intro v' FI
        rw[gV HV.out,List.mem_append,List.mem_singleton]at FI
        rcases FI with h|rfl
        ·exact XV.out v' h
        ·rw[zB.out];rfl
    ·by_cases he:bQ≤v.version∨bQ≤v.epoch
     ·have NZ:(v.leader==(j:Int))=true:=by simp[hl]
      obtain rfl:ix= -1:=by
       rcases SG.out with h|⟨q,-,h⟩
       ·exact h.1
       ·exact absurd (List.mem_of_getElem? h) ou
      have Un:2147483647≤v.version∨2147483647≤v.epoch:=by unfold bQ at he;omega
      have zB:Hid (aH.fenced (j:Int) v=none):=Zh (by
       unfold aH.fenced
       have hlv:(decide ((j:Int)∈v.isr)&&decide (1<v.isr.length))=false:=by simp[ou]
       simp only[NZ,hlv]
       rw[if_neg (by decide),if_pos (by unfold bQ;rcases Un with h|h;exact .inl h;exact .inr ⟨by first|trivial|rfl,h⟩)])
      clear ou
      by_cases he3:2147483647≤v.version
      ·repeat'(first|refine aF ?_|refine mg ?_|refine jF ?_|refine au ?_|refine ak (λK hK=>?_)|refine aj ?_|refine aC ?_|refine aG ?_|refine bH ?_|refine bJ ?_|go_step)
       have bT:m.iV (j:Int)=204:=by
        unfold aH.iV
        rw[if_neg (by simp[HP.out]),if_pos]
        rw[Bool.eq_false_iff]
        intro jB
        have:=List.all_eq_true.1 jB v (List.mem_of_getElem? HV.out)
        rw[zB.out]at this;cases this
       have bP:m.fence (j:Int)=m:=by simp[aH.fence,bT]
       rw[bT,bP]
       exact aA hd ⟨rfl,HH.out.jc (Et y.ext y9.ext)⟩
      ·have he4:2147483647≤v.epoch:=by omega
       repeat'(first|refine dw ?_|refine aF ?_|refine mg ?_|refine jF ?_|refine au ?_|refine ak (λK hK=>?_)|refine aj ?_|refine aC ?_|refine aG ?_|refine bH ?_|refine bJ ?_|go_step)
       have bT:m.iV (j:Int)=204:=by
        unfold aH.iV
        rw[if_neg (by simp[HP.out]),if_pos]
        rw[Bool.eq_false_iff]
        intro jB
        have:=List.all_eq_true.1 jB v (List.mem_of_getElem? HV.out)
        rw[zB.out]at this;cases this
       have bP:m.fence (j:Int)=m:=by simp[aH.fence,bT]
       rw[bT,bP]
       exact aA hd ⟨rfl,HH.out.jc (Et y.ext y9.ext)⟩
     ·have NZ:(v.leader==(j:Int))=true:=by simp[hl]
      obtain rfl:ix= -1:=by
       rcases SG.out with h|⟨q,-,h⟩
       ·exact h.1
       ·exact absurd (List.mem_of_getElem? h) ou
      have Un:¬ 2147483647≤v.version:=by unfold bQ at he;omega
      have he2:¬ 2147483647≤v.epoch:=by unfold bQ at he;omega
      have zB:Hid (aH.fenced (j:Int) v=some ⟨-1,v.epoch+1,v.version+1,v.isr⟩):=Zh (by
       unfold aH.fenced
       have hlv:(decide ((j:Int)∈v.isr)&&decide (1<v.isr.length))=false:=by simp[ou]
       simp only[NZ,hlv]
       rw[if_neg (by decide),if_neg (by unfold bQ;rintro(h|⟨-,h⟩);exact Un h;exact he2 h)]
       rfl)
      clear ou
      replace fK:=Zh (fK.out.ah (by simp:aB (w.ah y) ((w.ah y).ah y9)))
      replace jq:=Zh (jq.out.ah (by simp:aB (w.ah y) ((w.ah y).ah y9)))
      have HYE:Hid (aB w ((w.ah y).ah y9)):=Zh (by simp)
      repeat'(first|refine dw ?_|refine aF ?_|refine mg ?_|refine jF ?_|refine au ?_|refine ak (λK hK=>?_)|refine aj ?_|refine aG ?_|refine bH ?_|refine bJ ?_|go_step)
      have HO:Hid (dQ Pm 4 45 ((w.ah y).ah y9) (.slice (some ⟨g,0,none⟩) ar.vs.length cV) (ar.vs.set k (v,.slice Au v.isr.length cu))):=Zh (by have h:=fK.out.views;rw[MV.out,←Jt]at h;rw[uJ HU.out];exact h)
      have HM:Hid (bF (λq'=>q'=g) ((w.ah y).ah y9) ((w.ah y).ah y9)):=Zh (bF.refl _ _)
      clear lg e0 e1 e2 e3
      obtain⟨g',c',jf,-,-,hw⟩:=HO.out.Bf (List.getElem?_set_self kS)
      simp only[List.length_set]at jf
      cases jf
      obtain⟨lg,e0,e1,e2,e3⟩:=hw
      try dsimp only at e0 e1 e2 e3
      refine kN (v:=.int .i64 (-1)) k 0 (v,.slice Au v.isr.length cu) ((⟨-1,v.epoch,v.version,v.isr⟩:dL),.slice Au v.isr.length cu) HO.out (List.getElem?_set_self kS) (λ_=>rfl) (by simp[Value.cells]) (by intro j' u' h;have hj:j'<4:=(Ge h).1;rcases(show j'=0∨j'=1∨j'=2∨j'=3 by omega) with rfl|rfl|rfl|rfl<;>simpa [Value.cells] using h) (λWN hM hO=>?_)
      clear lg e0 e1 e2 e3
      rw[List.set_set]at hO
      replace HO:=Zh hO
      replace HM:=Zh (bF.trans HM.out hM (H:=λq'=>q'=g) (λ_ _ h=>h) (λq _ h=>h))
      replace jq:=Zh (jq.out.aW hM (λq' nG e=>by have h:=JV.out q' nG;subst e;omega))
      clear hM hO
      obtain⟨g',c',jf,-,-,hw⟩:=HO.out.Bf (List.getElem?_set_self kS)
      simp only[List.length_set]at jf
      cases jf
      obtain⟨lg,e0,e1,e2,e3⟩:=hw
      try dsimp only at e0 e1 e2 e3
      repeat'(first|refine aF ?_|refine au ?_|refine aj ?_|go_step)
      refine kN (v:=.int .i64 (v.epoch+1)) k 1 ((⟨-1,v.epoch,v.version,v.isr⟩:dL),.slice Au v.isr.length cu) ((⟨-1,v.epoch+1,v.version,v.isr⟩:dL),.slice Au v.isr.length cu) HO.out (List.getElem?_set_self kS) (λ_=>rfl) (by simp[Value.cells]) (by intro j' u' h;have hj:j'<4:=(Ge h).1;rcases(show j'=0∨j'=1∨j'=2∨j'=3 by omega) with rfl|rfl|rfl|rfl<;>simpa [Value.cells] using h) (λWN hM hO=>?_)
      clear lg e0 e1 e2 e3
      rw[List.set_set]at hO
      replace HO:=Zh hO
      replace HM:=Zh (bF.trans HM.out hM (H:=λq'=>q'=g) (λ_ _ h=>h) (λq _ h=>h))
      replace jq:=Zh (jq.out.aW hM (λq' nG e=>by have h:=JV.out q' nG;subst e;omega))
      clear hM hO
      obtain⟨g',c',jf,-,-,hw⟩:=HO.out.Bf (List.getElem?_set_self kS)
      simp only[List.length_set]at jf
      cases jf
      obtain⟨lg,e0,e1,e2,e3⟩:=hw
      try dsimp only at e0 e1 e2 e3
      repeat'(first|refine aF ?_|refine au ?_|refine ak (λK hK=>?_)|refine aj ?_|refine aG ?_|refine bJ ?_|go_step)
      refine kN (v:=.int .i64 (v.version+1)) k 2 ((⟨-1,v.epoch+1,v.version,v.isr⟩:dL),.slice Au v.isr.length cu) ((⟨-1,v.epoch+1,v.version+1,v.isr⟩:dL),.slice Au v.isr.length cu) HO.out (List.getElem?_set_self kS) (λ_=>rfl) (by simp[Value.cells]) (by intro j' u' h;have hj:j'<4:=(Ge h).1;rcases(show j'=0∨j'=1∨j'=2∨j'=3 by omega) with rfl|rfl|rfl|rfl<;>simpa [Value.cells] using h) (λWN hM hO=>?_)
      clear lg e0 e1 e2 e3
      rw[List.set_set]at hO
      replace HO:=Zh hO
      replace HM:=Zh (bF.trans HM.out hM (H:=λq'=>q'=g) (λ_ _ h=>h) (λq _ h=>h))
      replace jq:=Zh (jq.out.aW hM (λq' nG e=>by have h:=JV.out q' nG;subst e;omega))
      clear hM hO
      obtain⟨g',c',jf,-,-,hw⟩:=HO.out.Bf (List.getElem?_set_self kS)
      simp only[List.length_set]at jf
      cases jf
      obtain⟨lg,e0,e1,e2,e3⟩:=hw
      try dsimp only at e0 e1 e2 e3
      repeat'(first|refine aF ?_|refine au ?_|refine aj ?_|go_step)
      have CU:=fK.out.Sj (i:=k) (x:=((⟨-1,v.epoch+1,v.version+1,v.isr⟩:dL),.slice Au v.isr.length cu)) (by omega) HM.out (λq' _ h3 h8 hg=>by subst hg;exact h3 Zk) (by rw[MV.out,←Jt];exact HO.out) jq.out JV.out
      have Ku:=Zh CU
      have iU:=aB.bK HYE.out HM.out (λq' hg=>DW.out q' (by subst hg;omega))
      have rO:=Zh iU
      clear CU iU
      have hfv:(aH.fenced (j:Int) v).getD v=⟨-1,v.epoch+1,v.version+1,v.isr⟩:=by rw[zB.out];rfl
      refine⟨_,_,rfl,hd,hA,n-1,by omega,k+1,by omega,by simp[jW],rO.out,_,Ku.out,?_,DW.out,MV.out,?_⟩
      ·show (ar.vs.set k _).map (·.1)=_
       rw[List.map_set,OI.out,←rW HV.out,hfv]
      ·intro v' FI
       rw[gV HV.out,List.mem_append,List.mem_singleton]at FI
       rcases FI with h|rfl
       ·exact XV.out v' h
       ·rw[zB.out];rfl
   ·by_cases ou:(j:Int)∈v.isr
    ·by_cases h1:1<v.isr.length
     ·by_cases he:bQ≤v.version
      ·have NZ:(v.leader==(j:Int))=false:=by simp[hl]
       obtain⟨q,rfl,IZ⟩:∃ q:Nat,ix=q∧v.isr[q]? =some (j:Int):=by
        rcases SG.out with h|h
        ·exact absurd ou h.2
        ·exact h
       have NC:=Zh IZ
       clear IZ
       have hq0:(0:Int)≤(q:Int):=by omega
       have Po:(1:Int)<v.isr.length:=by omega
       have Un:2147483647≤v.version:=by unfold bQ at he;omega
       have zB:Hid (aH.fenced (j:Int) v=none):=Zh (by
        unfold aH.fenced
        have hlv:(decide ((j:Int)∈v.isr)&&decide (1<v.isr.length))=true:=by simp[ou,h1]
        simp only[NZ,hlv]
        rw[if_neg (by decide),if_pos (by first|exact .inl Un|omega)])
       clear ou h1
       repeat'(first|refine dw ?_|refine aF ?_|refine mg ?_|refine jF ?_|refine au ?_|refine ak (λK hK=>?_)|refine aj ?_|refine aC ?_|refine aG ?_|refine bH ?_|refine bJ ?_|go_step)
       have bT:m.iV (j:Int)=204:=by
        unfold aH.iV
        rw[if_neg (by simp[HP.out]),if_pos]
        rw[Bool.eq_false_iff]
        intro jB
        have:=List.all_eq_true.1 jB v (List.mem_of_getElem? HV.out)
        rw[zB.out]at this;cases this
       have bP:m.fence (j:Int)=m:=by simp[aH.fence,bT]
       rw[bT,bP]
       exact aA hd ⟨rfl,HH.out.jc (Et y.ext y9.ext)⟩
      ·have NZ:(v.leader==(j:Int))=false:=by simp[hl]
       obtain⟨q,rfl,IZ⟩:∃ q:Nat,ix=q∧v.isr[q]? =some (j:Int):=by
        rcases SG.out with h|h
        ·exact absurd ou h.2
        ·exact h
       have NC:=Zh IZ
       clear IZ
       have hq0:(0:Int)≤(q:Int):=by omega
       have Po:(1:Int)<v.isr.length:=by omega
       have Un:¬ 2147483647≤v.version:=by unfold bQ at he;omega
       have zB:Hid (aH.fenced (j:Int) v=some ⟨v.leader,v.epoch,v.version+1,v.isr.filter (· ≠(j:Int))⟩):=Zh (by
        unfold aH.fenced
        have hlv:(decide ((j:Int)∈v.isr)&&decide (1<v.isr.length))=true:=by simp[ou,h1]
        simp only[NZ,hlv]
        rw[if_neg (by decide),if_neg (by unfold bQ;rintro(h|⟨h,-⟩);exact Un h;cases h)]
        rfl)
       have Lp:=Zh ou
       obtain⟨gp,cp,BM,hcp,Zj,-,-⟩:=dQ.at (enc:=xK) (k:=1) (λ_=>rfl) jq.out NC.out
       have ahF:Au=some ⟨gp,0,none⟩:=by injection BM
       have ahG:cu=cp:=by injection BM
       subst ahF ahG
       have hql:q<v.isr.length:=(Ge NC.out).1
       obtain⟨j2,hj2⟩:∃ j2:Nat,j2=q+1:=⟨_,rfl⟩
       have hqj:(q:Int)+1=(j2:Int):=by omega
       have hjr:(j2:Int)<9223372036854775808:=by omega
       have HJ2:=Zh hj2
       have Ic:=JV.out gp rfl
       have rM:gp≠g:=λe=>by rw[e]at Ic;omega
       clear hj2 BM
       clear ou h1
       replace fK:=Zh (fK.out.ah (by simp:aB (w.ah y) ((w.ah y).ah y9)))
       replace jq:=Zh (jq.out.ah (by simp:aB (w.ah y) ((w.ah y).ah y9)))
       have HYE:Hid (aB w ((w.ah y).ah y9)):=Zh (by simp)
       repeat'(first|refine dw ?_|refine aF ?_|refine mg ?_|refine jF ?_|refine au ?_|refine ak (λK hK=>?_)|refine aj ?_|refine aG ?_|refine bH ?_|refine bJ ?_|go_step)
       have HO:Hid (dQ Pm 4 45 ((w.ah y).ah y9) (.slice (some ⟨g,0,none⟩) ar.vs.length cV) (ar.vs.set k (v,.slice (some ⟨gp,0,none⟩) v.isr.length cu))):=Zh (by have h:=fK.out.views;rw[MV.out,←Jt]at h;rw[uJ HU.out];exact h)
       have HM:Hid (bF (λq'=>q'=g∨q'=gp) ((w.ah y).ah y9) ((w.ah y).ah y9)):=Zh (bF.refl _ _)
       clear lg e0 e1 e2 e3
       obtain⟨g',c',jf,-,-,hw⟩:=HO.out.Bf (List.getElem?_set_self kS)
       simp only[List.length_set]at jf
       cases jf
       obtain⟨lg,e0,e1,e2,e3⟩:=hw
       try dsimp only at e0 e1 e2 e3
       refine aX Tryz.func159 (ET jq.out hql HJ2.out hcp Zj) (λr VD hR=>?_)
       obtain⟨rfl,hMD,hOD⟩:=hR
       have HPD:=Zh hOD
       replace HO:=Zh (HO.out.aW hMD (λq' nG e=>by have hbq:g=q':=Option.some.inj nG;omega))
       replace HM:=Zh (bF.trans HM.out hMD (H:=λq'=>q'=g∨q'=gp) (λ_ _ h=>h) (λq' _ h=>.inr h))
       clear lg e0 e1 e2 e3
       clear hMD hOD jq
       obtain⟨g',c',jf,-,-,hw⟩:=HO.out.Bf (List.getElem?_set_self kS)
       simp only[List.length_set]at jf
       cases jf
       obtain⟨lg,e0,e1,e2,e3⟩:=hw
       try dsimp only at e0 e1 e2 e3
       repeat'(first|refine aF ?_|fail)
       refine kN (v:=.slice (some ⟨gp,0,none⟩) (v.isr.length-1) cu) k 3 (v,.slice (some ⟨gp,0,none⟩) v.isr.length cu) ((⟨v.leader,v.epoch,v.version,v.isr.eraseIdx q⟩:dL),(Value.slice (some ⟨gp,0,none⟩) (v.isr.length-1) cu)) HO.out (List.getElem?_set_self kS) (λ_=>rfl) (by simp[Value.cells]) (by intro j' u' h;have hj:j'<4:=(Ge h).1;rcases(show j'=0∨j'=1∨j'=2∨j'=3 by omega) with rfl|rfl|rfl|rfl<;>simpa [Value.cells] using h) (λWN hM hO=>?_)
       clear lg e0 e1 e2 e3
       rw[List.set_set]at hO
       replace HO:=Zh hO
       replace HM:=Zh (bF.trans HM.out hM (H:=λq'=>q'=g∨q'=gp) (λ_ _ h=>h) (λq _ h=>.inl h))
       replace HPD:=Zh (HPD.out.aW hM (λq' nG e=>by have hbq:gp=q':=Option.some.inj nG;omega))
       clear hM hO
       obtain⟨g',c',jf,-,-,hw⟩:=HO.out.Bf (List.getElem?_set_self kS)
       simp only[List.length_set]at jf
       cases jf
       obtain⟨lg,e0,e1,e2,e3⟩:=hw
       try dsimp only at e0 e1 e2 e3
       repeat'(first|refine aF ?_|refine au ?_|refine aj ?_|go_step)
       refine kN (v:=.int .i64 (v.version+1)) k 2 ((⟨v.leader,v.epoch,v.version,v.isr.eraseIdx q⟩:dL),(Value.slice (some ⟨gp,0,none⟩) (v.isr.length-1) cu)) ((⟨v.leader,v.epoch,v.version+1,v.isr.eraseIdx q⟩:dL),(Value.slice (some ⟨gp,0,none⟩) (v.isr.length-1) cu)) HO.out (List.getElem?_set_self kS) (λ_=>rfl) (by simp[Value.cells]) (by intro j' u' h;have hj:j'<4:=(Ge h).1;rcases(show j'=0∨j'=1∨j'=2∨j'=3 by omega) with rfl|rfl|rfl|rfl<;>simpa [Value.cells] using h) (λWN hM hO=>?_)
       clear lg e0 e1 e2 e3
       rw[List.set_set]at hO
       replace HO:=Zh hO
       replace HM:=Zh (bF.trans HM.out hM (H:=λq'=>q'=g∨q'=gp) (λ_ _ h=>h) (λq _ h=>.inl h))
       replace HPD:=Zh (HPD.out.aW hM (λq' nG e=>by have hbq:gp=q':=Option.some.inj nG;omega))
       clear hM hO
       obtain⟨g',c',jf,-,-,hw⟩:=HO.out.Bf (List.getElem?_set_self kS)
       simp only[List.length_set]at jf
       cases jf
       obtain⟨lg,e0,e1,e2,e3⟩:=hw
       try dsimp only at e0 e1 e2 e3
       repeat'(first|refine aF ?_|refine au ?_|refine aj ?_|go_step)
       have CU:=fK.out.Sj (i:=k) (x:=((⟨v.leader,v.epoch,v.version+1,v.isr.eraseIdx q⟩:dL),(Value.slice (some ⟨gp,0,none⟩) (v.isr.length-1) cu))) (by omega) HM.out (λq' _ h3 h8 hg=>by rcases hg with rfl|rfl;exact h3 Zk;exact h8 Ic) (by rw[MV.out,←Jt];exact HO.out) HPD.out (λq' nG=>JV.out q' nG)
       have Ku:=Zh CU
       have iU:=aB.bK HYE.out HM.out (λq' hg=>DW.out q' (by rcases hg with rfl|rfl<;>omega))
       have rO:=Zh iU
       clear CU iU
       have hfv:(aH.fenced (j:Int) v).getD v=⟨v.leader,v.epoch,v.version+1,v.isr.eraseIdx q⟩:=by rw[zB.out];(have h:=qE v.isr q (j:Int) QM.out.rise NC.out;rw[h];rfl)
       refine⟨_,_,rfl,hd,hA,n-1,by omega,k+1,by omega,by simp[jW],rO.out,_,Ku.out,?_,DW.out,MV.out,?_⟩
       ·show (ar.vs.set k _).map (·.1)=_
        rw[List.map_set,OI.out,←rW HV.out,hfv]
       ·intro v' FI
        rw[gV HV.out,List.mem_append,List.mem_singleton]at FI
        rcases FI with h|rfl
        ·exact XV.out v' h
        ·rw[zB.out];rfl
     ·have NZ:(v.leader==(j:Int))=false:=by simp[hl]
      obtain⟨q,rfl,IZ⟩:∃ q:Nat,ix=q∧v.isr[q]? =some (j:Int):=by
       rcases SG.out with h|h
       ·exact absurd ou h.2
       ·exact h
      have NC:=Zh IZ
      clear IZ
      have hq0:(0:Int)≤(q:Int):=by omega
      have Po:¬ (1:Int)<v.isr.length:=by omega
      have zB:Hid (aH.fenced (j:Int) v=some v):=Zh (by
       unfold aH.fenced
       have hlv:(decide ((j:Int)∈v.isr)&&decide (1<v.isr.length))=false:=by simp[ou,h1]
       simp only[NZ,hlv]
       simp)
      clear ou h1
      repeat'(first|refine dw ?_|refine aF ?_|refine au ?_|refine ak (λK hK=>?_)|refine aj ?_|refine dS ?_|refine bH ?_|go_step)
      refine⟨_,_,rfl,hd,hA,n-1,by omega,k+1,by omega,by simp[jW],Et y.ext y9.ext,ar,fK.out.ah y9.ext,?_,DW.out,MV.out,?_⟩
      ·rw[OI.out,←rW HV.out,zB.out]
       exact(uJ ((CS Dt).trans HV.out)).symm
      ·intro v' FI
       rw[gV HV.out,List.mem_append,List.mem_singleton]at FI
       rcases FI with h|rfl
       ·exact XV.out v' h
       ·rw[zB.out];rfl
    ·have NZ:(v.leader==(j:Int))=false:=by simp[hl]
     obtain rfl:ix= -1:=by
      rcases SG.out with h|⟨q,-,h⟩
      ·exact h.1
      ·exact absurd (List.mem_of_getElem? h) ou
     have zB:Hid (aH.fenced (j:Int) v=some v):=Zh (by
      unfold aH.fenced
      have hlv:(decide ((j:Int)∈v.isr)&&decide (1<v.isr.length))=false:=by simp[ou]
      simp only[NZ,hlv]
      simp)
     clear ou
     repeat'(first|refine dw ?_|refine aF ?_|refine mg ?_|refine jF ?_|refine au ?_|refine ak (λK hK=>?_)|refine aj ?_|refine dS ?_|refine bH ?_|go_step)
     refine⟨_,_,rfl,hd,hA,n-1,by omega,k+1,by omega,by simp[jW],Et y.ext y9.ext,ar,fK.out.ah y9.ext,?_,DW.out,MV.out,?_⟩
     ·rw[OI.out,←rW HV.out,zB.out]
      exact(uJ ((CS Dt).trans HV.out)).symm
     ·intro v' FI
      rw[gV HV.out,List.mem_append,List.mem_singleton]at FI
      rcases FI with h|rfl
      ·exact XV.out v' h
      ·rw[zB.out];rfl
  ·obtain rfl:k=m.views.length:=by omega
   have bT:m.iV (j:Int)=0:=by
    unfold aH.iV
    rw[if_neg (by simp[HP.out]),if_neg]
    intro hf
    have jB:m.views.all (λv=>(aH.fenced (j:Int) v).isSome)=true:=List.all_eq_true.2 λv hv=>XV.out v (by rw[List.take_length];exact hv)
    rw[jB]at hf;cases hf
   have bP:m.fence (j:Int)={m.qo (j:Int) false with views:=ar.vs.map (·.1)}:=by
    rw[OI.out,Tc]
    unfold aH.fence
    rw[if_pos bT]
   have hgd:=Ld HG.out (j:Int)
   have KJ:=Zh bT
   have HFT:=Zh bP
   rw[bP]at hgd
   have hlv:=HA.out.sG HP.out
   rw[Int.toNat_natCast]at hlv
   have Kv:=Zh (HA.out.ah y.ext)
   obtain⟨g,c,iZ,Dq,jT,Ib,-⟩:=dQ.at (enc:=UQ) (k:=1) (λ_=>rfl) Kv.out.lives hlv
   obtain⟨hlt,-,-,-,c3,-⟩:=Kv.out.cells
   rw[iZ]at c3
   have xH:=Zh iZ
   have HLV:=Zh hlv
   have kS:j<m.lives.length:=(Ge hlv).1
   have sZ:(j:Int)<m.lives.length:=by omega
   have Jt:ar.vs.length≤4:=by
    have h2:=congrArg List.length OI.out
    rw[List.length_map]at h2
    rw[h2];simp[qx];omega
   have HGD:=Zh hgd
   clear bT bP hgd iZ hlv
   repeat'(first|refine aF ?_|refine au ?_|refine ak (λK hK=>?_)|refine aj ?_|refine dS ?_|refine bJ ?_|go_step)
   have hL:=Kv.out.lives
   rw[xH.out]at hL
   refine ab4 j (m.sG (j:Int)) false hL HLV.out (λ_=>rfl) rfl rfl (λW2 kL Ey=>?_)
   have hgb:g≠b:=λe=>by
    have h1:=HA.out.tL g (by rw[xH.out];rfl)
    have h2:=HA.out.tb
    rw[e]at h1;omega
   have su:=Zh (Kv.out.gy.aW kL (λe=>hgb e.symm))
   have IK:=Zh kL
   have Zg:=Zh Ey
   clear kL Ey hL c3
   repeat'(first|refine aF ?_|fail)
   refine aY (off:=4) su.out (λW3 jd ru=>?_)
   have bP:=HA.out.fence HF.out y.ext fK.out DW.out Jt (j:Int) (w2:=W2) (by rw[xH.out];exact bF.mono IK.out (λq _ hq=>by subst hq;rfl)) (by rw[xH.out,Int.toNat_natCast];exact Zg.out) jd (by rw[MV.out];exact ru.congr (λq hq=>Ig q hq)) rfl HGD.out
   have jG:=Zh bP
   clear bP jd ru
   repeat'(first|refine aF ?_|refine au ?_|refine ak (λK hK=>?_)|refine aj ?_|refine aC ?_|go_step)
   exact aA hd ⟨by rw[KJ.out],by rw[HFT.out];exact jG.out⟩
 ·have hp:m.aV x=false:=by simpa using hp
  have HP:=Zh hp
  have bT:m.iV x=2:=by simp[aH.iV,hp]
  have bP:m.fence x=m:=by simp[aH.fence,bT]
  rw[bT,bP]
  clear bT bP hp h
  refine Fi (n:=119) Tryz.func109 ?_;intro A hd hA;simp only[ix,Nat.reduceAdd]
  repeat'(first|refine aF ?_|refine au ?_|refine ak (λK hK=>?_)|refine aj ?_|go_step)
  refine aX Tryz.func63 (dK (c:=false) (λw' hE=>(HH.out.ah (Et (aB.refl _) hE)).some)) (λr w1 hR=>?_)
  obtain⟨hE,f1,rfl,hC⟩:=hR
  have HE:=Zh (hE)
  have gY:=Zh hC
  clear hE hC
  repeat'(first|refine aF ?_|fail)
  refine aX Tryz.func155 (iw x (HH.out.ah HE.out)) (λr w1 hR=>?_)
  obtain⟨hE,f2,rfl,hC⟩:=hR
  replace HE:=Zh (Et HE.out hE)
  replace gY:=Zh (gY.out.ah hE)
  have kG:=Zh hC
  clear hE hC
  repeat'(first|refine aN Tryz.func62 (dD (xs:=[(f1,false,1),(f2,!m.aV x,2)]) (n:=2) (dW _ aS rfl (by unfold maxLen;simp)) (dF.cons (gY.out.ah (by simp)) (dF.cons (kG.out.ah (by simp)) dF.nil)) (by simp[fA,HP.out])) ?_|refine aF ?_|refine au ?_|refine ak (λK hK=>?_)|refine aj ?_|refine aC ?_|(refine dI (λx K hK=>?_);go_simp;refine hK _ _ (aB.alloc _ _) ?_;clear hK K;refine aZ x ?_;generalize (World.ah _ x).heap.size=bn;intro yn aU bD bC bG aS;clear x)|refine bH ?_|go_step)
  clear gY kG
  exact aA hd ⟨rfl,HH.out.jc (Et HE.out (by simp))⟩
section
variable {w w1 w2 w3 : World} {b : Nat} {a : yg} {f : gB} {lv : List Bool} {G : Nat → Prop}
theorem fB.akN {v':Value} {x:Bool} (h:fB w b a f lv) (hE:aB w w1) (kL:bF (λq=>a.uL.ownBlock=some q) w1 w2) (hV:dQ UQ 1 4 w2 v' (lv++[x])) (hF:v'.ownBlock=a.uL.ownBlock∨∃ g,v'.ownBlock=some g∧w1.heap.size≤g)
  (jd:bF (· =b) w2 w3) (hB:cO w3 b 121 6 (xR f v' a.uV a.uW)):
  ∃T',fB w3 b {a with uL:=v',T:=T'} f (lv++[x])∧∀ k,T' k≠0→a.T k≠0∨w1.heap.size≤k:=by
 have hM:bF (λq=>a.uL.ownBlock=some q∨q=b) w w3:=bF.trans (bF.trans hE kL (H:=λq=>a.uL.ownBlock=some q) (λ_ _ h=>h.elim) (λ_ _ h=>h)) jd (λ_ _ h=>.inl h) (λ_ _ h=>.inr h)
 have Jo:=hE.size
 have hvn:∀ k,v'.ownBlock=some k→a.uL.ownBlock=some k∨w1.heap.size≤k:=λk hk=>by
  rcases hF with h1|⟨g,h1,h2⟩
  ·rw[h1]at hk;exact .inl hk
  ·rw[h1]at hk;cases hk;exact .inr h2
 have xE:∀ k,a.T k≠0→oP a.T v' 2 k=a.T k:=λk hk=>by
  have h1:=h.lt k hk
  by_cases h2:v'.ownBlock=some k
  ·rw[sH h2]
   rcases hvn k h2 with h3|h3
   ·exact(h.tL k h3).symm
   ·omega
  ·exact iW h2
 have vK:∀ {k t},a.T k=t→t≠0→oP a.T v' 2 k=t:=λh1 h2=>by rw[xE _ (by rw[h1];exact h2),h1]
 have bT:∀ k t,a.T k=t→t≠0→t≠1→t≠2→¬ (a.uL.ownBlock=some k∨k=b):=λk t h1 _ h2 h3 hg=>by
  rcases hg with hg|hg
  ·have:=h.tL k hg;omega
  ·subst hg;have:=h.tb;omega
 refine⟨oP a.T v' 2,⟨hB,?_,h.views.aW hM (λk hk=>bT _ _ (h.tV k hk) (by decide) (by decide) (by decide)),h.lu.aW hM (λk hk=>bT _ _ (h.tW k hk) (by decide) (by decide) (by decide)),?_,?_,vK h.tb (by decide),λk hk=>(sH hk:oP a.T v' 2 k=2),λk hk=>vK (h.tV k hk) (by decide),λk hk=>vK (h.tW k hk) (by decide),?_⟩,?_⟩
 ·refine dQ.aW hV jd λk hk e=>?_
  subst e
  rcases hvn k hk with h3|h3
  ·have h4:=h.tL k h3;rw[h.tb]at h4;omega
  ·have:=h.gy.lt;omega
 ·intro i y hy
  obtain⟨h1,h2⟩:=h.isr i y hy
  exact⟨h1.aW hM (λk hk=>bT _ _ (h2 k hk) (by omega) (by omega) (by omega)),λk hk=>vK (h2 k hk) (by omega)⟩
 ·intro i y hy
  obtain⟨h1,h2⟩:=h.parts i y hy
  exact⟨h1.aW hM (λk hk=>bT _ _ (h2 k hk) (by omega) (by omega) (by omega)),λk hk=>vK (h2 k hk) (by omega)⟩
 ·intro k hk
  have sF:oP a.T v' 2 k≠0:=hk
  have s2:=kL.size
  have s3:=jd.size
  by_cases h2:v'.ownBlock=some k
  ·have:=hV.lt k h2;omega
  ·rw[iW h2]at sF
   have:=h.lt k sF;omega
 ·intro k hk
  by_cases h2:v'.ownBlock=some k
  ·rcases hvn k h2 with h3|h3
   ·left;rw[h.tL k h3];decide
   ·right;exact h3
  ·rw[iW h2]at hk;exact .inl hk
end
theorem aco {f:gB} (h1:1≤f.aK) (h2:f.aK≤4) (h3:1≤f.parts) (h4:f.parts≤4) (h5:1≤f.ids) (h6:f.ids≤4):f.right=true:=by
 simp[gB.right,rZ];omega
theorem aeR {w:World} {f:gB} (hf:f.right=false):Pure Tryz.prog 42 #[.agg #[.int .i64 f.aK,.int .i64 f.parts,.int .i64 f.ids]] w (.tuple #[.pointer none,.int .i64 2]):=by
 by_cases q0:f.aK<1
 ·refine Fi (n:=90) Tryz.func42 ?_;intro A hd hA;simp only[ix,Nat.reduceAdd]
  repeat'(first|refine aF ?_|refine mg ?_|refine jF ?_|refine au ?_|refine ak (λK hK=>?_)|refine aj ?_|refine aC ?_|(refine dI (λx K hK=>?_);go_simp;refine hK _ _ (aB.alloc _ _) ?_;clear hK K;refine aZ x ?_;generalize (World.ah _ x).heap.size=bn;intro yn aU bD bC bG aS;clear x)|refine bH ?_|go_step)
  exact dB hd ⟨rfl,by simp⟩
 ·have p0:1≤f.aK:=by omega
  by_cases q1:4<f.aK
  ·refine Fi (n:=90) Tryz.func42 ?_;intro A hd hA;simp only[ix,Nat.reduceAdd]
   repeat'(first|refine dw ?_|refine aF ?_|refine mg ?_|refine jF ?_|refine au ?_|refine ak (λK hK=>?_)|refine aj ?_|refine aC ?_|(refine dI (λx K hK=>?_);go_simp;refine hK _ _ (aB.alloc _ _) ?_;clear hK K;refine aZ x ?_;generalize (World.ah _ x).heap.size=bn;intro yn aU bD bC bG aS;clear x)|refine bH ?_|go_step)
   exact dB hd ⟨rfl,by simp⟩
  ·have p1:f.aK≤4:=by omega
   by_cases q2:f.parts<1
   ·refine Fi (n:=90) Tryz.func42 ?_;intro A hd hA;simp only[ix,Nat.reduceAdd]
    repeat'(first|refine dw ?_|refine aF ?_|refine mg ?_|refine jF ?_|refine au ?_|refine ak (λK hK=>?_)|refine aj ?_|refine aC ?_|(refine dI (λx K hK=>?_);go_simp;refine hK _ _ (aB.alloc _ _) ?_;clear hK K;refine aZ x ?_;generalize (World.ah _ x).heap.size=bn;intro yn aU bD bC bG aS;clear x)|refine bH ?_|go_step)
    exact dB hd ⟨rfl,by simp⟩
   ·have p2:1≤f.parts:=by omega
    by_cases q3:4<f.parts
    ·refine Fi (n:=90) Tryz.func42 ?_;intro A hd hA;simp only[ix,Nat.reduceAdd]
     repeat'(first|refine dw ?_|refine aF ?_|refine mg ?_|refine jF ?_|refine au ?_|refine ak (λK hK=>?_)|refine aj ?_|refine aC ?_|(refine dI (λx K hK=>?_);go_simp;refine hK _ _ (aB.alloc _ _) ?_;clear hK K;refine aZ x ?_;generalize (World.ah _ x).heap.size=bn;intro yn aU bD bC bG aS;clear x)|refine bH ?_|go_step)
     exact dB hd ⟨rfl,by simp⟩
    ·have p3:f.parts≤4:=by omega
     by_cases q4:f.ids<1
     ·refine Fi (n:=90) Tryz.func42 ?_;intro A hd hA;simp only[ix,Nat.reduceAdd]
      repeat'(first|refine dw ?_|refine aF ?_|refine mg ?_|refine jF ?_|refine au ?_|refine ak (λK hK=>?_)|refine aj ?_|refine aC ?_|(refine dI (λx K hK=>?_);go_simp;refine hK _ _ (aB.alloc _ _) ?_;clear hK K;refine aZ x ?_;generalize (World.ah _ x).heap.size=bn;intro yn aU bD bC bG aS;clear x)|refine bH ?_|go_step)
      exact dB hd ⟨rfl,by simp⟩
     ·have p4:1≤f.ids:=by omega
      by_cases q5:4<f.ids
      ·refine Fi (n:=90) Tryz.func42 ?_;intro A hd hA;simp only[ix,Nat.reduceAdd]
       repeat'(first|refine dw ?_|refine aF ?_|refine au ?_|refine ak (λK hK=>?_)|refine aj ?_|refine aC ?_|(refine dI (λx K hK=>?_);go_simp;refine hK _ _ (aB.alloc _ _) ?_;clear hK K;refine aZ x ?_;generalize (World.ah _ x).heap.size=bn;intro yn aU bD bC bG aS;clear x)|refine bH ?_|go_step)
       exact dB hd ⟨rfl,by simp⟩
      ·have p5:f.ids≤4:=by omega
       rw[aco p0 p1 p2 p3 p4 p5]at hf;cases hf
def ahJ (w w':World) (bc:Nat) (f:gB) (k:Nat) (u:Value):Prop:=aB w w'∧∃ a,fB w' bc a f (List.replicate k true)∧a.vs=[]∧a.ws=[]∧(∀q,a.T q≠0→w.heap.size≤q)∧ig w' u ((List.range k).map Int.ofNat)∧∀ q,u.ownBlock=some q→w.heap.size≤q∧a.T q=0
theorem ahK:∀ u∈Za (bW.zero,.slice none 0 0),u.oneCell'=true:=by decide
theorem mV {α:Type} (k:Nat) (x:α):List.replicate k x++[x]=List.replicate (k+1) x:=by rw[←List.replicate_succ']
theorem Fa (k:Nat):(List.range k).map Int.ofNat++[(k:Int)]=(List.range (k+1)).map Int.ofNat:=by rw[List.range_succ,List.map_append];rfl
theorem XW {w:World} {f:gB} (hf:f.right=true):gK Tryz.prog 42 #[.agg #[.int .i64 f.aK,.int .i64 f.parts,.int .i64 f.ids]] w λr w'=>∃ b',r=.tuple #[.pointer (some ⟨b',0,none⟩),.int .i64 0]∧aB w w'∧w.heap.size≤b'∧gX w' b' (λk=>w.heap.size≤k) (aH.new f):=by
 have hr:=gB.dX hf
 obtain⟨NB,hNB⟩:∃ n:Nat,f.aK=n:=⟨f.aK.toNat,by omega⟩
 obtain⟨NP,hNP⟩:∃ n:Nat,f.parts=n:=⟨f.parts.toNat,by omega⟩
 obtain⟨NI,hNI⟩:∃ n:Nat,f.ids=n:=⟨f.ids.toNat,by omega⟩
 have hgd:=OA hf
 have BJ:aH.new f=⟨f,List.replicate NB true,List.replicate NP ⟨-1,0,0,(List.range NB).map Int.ofNat⟩,List.replicate NI bW.zero⟩:=by
  unfold aH.new qU;rw[hNB,hNP,hNI];simp
 have rH:=Zh BJ
 have HGD:=Zh hgd
 have q0:¬ (NB:Int)<1:=by omega
 have q1:¬ 4<(NB:Int):=by omega
 have q2:¬ (NP:Int)<1:=by omega
 have q3:¬ 4<(NP:Int):=by omega
 have q4:¬ (NI:Int)<1:=by omega
 have q5:¬ 4<(NI:Int):=by omega
 rw[hNB,hNP,hNI]
 clear BJ hgd hr hf
 refine Fi (n:=90) Tryz.func42 ?_;intro A hd hA;simp only[ix,Nat.reduceAdd]
 (repeat'(first|refine ak (λK hK=>?_)|refine aj ?_|fail));(refine dI (λx K hK=>?_);go_simp;refine hK _ _ (aB.alloc _ _) ?_;clear hK K;refine aZ x ?_;generalize (World.ah _ x).heap.size=b1;intro yn aU bD bC bG aS;clear x);have iy:=Zh (cO.new aS.out);have lS:=Zh yn.ext;have yG:(World.heap w).size≤b1:=aU;generalize World.ah w yn=W0 at *;clear aU bD bC bG aS yn
 have jO:=iy
 have Xf:w.heap.size≤b1:=yG
 have z0:=jO.out.cell (k:=0) (by simp)
 have z1:=jO.out.cell (k:=1) (by simp)
 have z2:=jO.out.cell (k:=2) (by simp)
 simp at z0 z1 z2
 have wF:=jO.out.lt
 have BD:=lS
 clear iy lS
 repeat'(first|refine dw ?_|refine aF ?_|refine au ?_|refine ak (λK hK=>?_)|refine aj ?_|refine aG ?_|refine aJ ?_|(refine dI (λx K hK=>?_);go_simp;refine hK _ _ (aB.alloc _ _) ?_;clear hK K;refine aZ x ?_;generalize (World.ah _ x).heap.size=bn;intro yn aU bD bC bG aS;clear x)|refine bJ ?_|go_step)
 have CP:Hid (ahJ W0 (W0.ah yn) bn f 0 (.slice none 0 0)):=by
  have hB:=(cO.new aS.out).congr (g':=xR f (.slice none 0 0) (.slice none 0 0) (.slice none 0 0)) (λk hk=>by
   obtain rfl|rfl|rfl|rfl|rfl|rfl:k=0∨k=1∨k=2∨k=3∨k=4∨k=5:=(by simp at hk;omega)
   ·show Value.int .i64 f.aK=_;rw[hNB];rfl
   ·show Value.int .i64 f.parts=_;rw[hNP];rfl
   ·show Value.int .i64 f.ids=_;rw[hNI];rfl
   all_goals rfl)
  obtain⟨h1,h2⟩:=fB.begin (lv:=[]) hB (dQ.nil _) (λe=>by cases e)
  refine Zh ⟨yn.ext,_,h1,rfl,rfl,λk hk=>?_,dQ.nil _,λq hq=>by cases hq⟩
  rcases h2 k hk with rfl|h3
  ·exact aU
  ·cases h3
 obtain⟨bc,hbc⟩:∃ q:Nat,q=bn:=⟨_,rfl⟩
 subst hbc
 have Zo:W0.heap.size≤bc:=aU
 clear aU bD bC bG aS
 refine dJ [1,4,5,39,40] (λn vs w'=>∃ (k:Nat) (u:Value),k+n=NB∧vs=[.pointer (some ⟨b1,0,none⟩),.pointer (some ⟨bc,0,none⟩),u,.int .i64 NB,.int .i64 k]∧ahJ W0 w' bc f k u) NB hd hA (by decide) ⟨0,_,by omega,by simp[jW],CP.out⟩ ?_
 clear hd hA A CP yn;intro n vs A w' hd hA _ ⟨k,u,hk,jk,xP,ar,lJ,Qi,Qj,OH,huo,hut⟩;subst jk
 obtain⟨y,rfl⟩:=xP.get
 clear xP
 have fK:=Zh lJ
 have DW:=Zh OH
 have HUO:=Zh huo
 have HUT:=Zh hut
 have HVS:=Zh Qi
 have HWS:=Zh Qj
 obtain⟨Au,nu,cu,rfl⟩:=aT huo
 obtain⟨AL,nL,cL,hUL⟩:=aT lJ.lives
 have HUL:=Zh hUL
 have E8:bc<(W0.ah y).heap.size:=lJ.gy.lt
 have Fz:=lJ.gy.cell (k:=3) (by omega)
 simp only[xR]at Fz
 rw[hUL]at Fz
 have UL:=lJ.gy
 clear lJ OH huo hut Qi Qj hUL
 simp only[List.zip_cons_cons,List.zip_nil_right,List.zip_nil_left]
 by_cases Dt:k<NB
 ·have sZ:(k:Int)<(NB:Int):=by omega
  repeat'(first|refine aF ?_|refine au ?_|refine ak (λK hK=>?_)|refine aj ?_|refine aG ?_|refine aJ ?_|(refine dI (λx K hK=>?_);go_simp;refine hK _ _ (aB.alloc _ _) ?_;clear hK K;refine aZ x ?_;generalize (World.ah _ x).heap.size=bn;intro yn aU bD bC bG aS;clear x)|refine bH ?_|go_step)
  have fE:aB (W0.ah y) ((W0.ah y).ah yn):=by simp
  have ahN:=fK.out.lives.ah fE
  rw[HUL.out]at ahN
  refine nZ (xs:=List.replicate k true) (ys:=[true]) SV ahN (Rd.one (x:=true) bD bC rfl) (by simp;omega) (by unfold maxLen;simp;omega) (λv' W5 kJ vS BF _=>?_)
  have jm:¬ (Value.slice AL nL cL).ownBlock=some bc:=λe=>by
   have h1:=fK.out.tL bc (by rw[HUL.out];exact e)
   have h2:=fK.out.tb
   omega
  have O5:∀ q,(Value.slice Au nu cu).ownBlock=some q→¬ (Value.slice AL nL cL).ownBlock=some q:=λq hq e=>by
   have h1:=fK.out.tL q (by rw[HUL.out];exact e)
   have h2:=(HUT.out q hq).2
   omega
  have ahO:∀ q,(Value.slice Au nu cu).ownBlock=some q→q≠bc:=λq hq e=>by
   have h2:=(HUT.out q hq).2
   have h3:=fK.out.tb
   rw[e]at h2;omega
  have pX:=(fK.out.gy.ah fE).aW kJ jm
  have hU5:=(HUO.out.ah fE).aW kJ O5
  rw[mV]at vS
  obtain⟨A6,m6,c6,rfl⟩:=aT vS
  have FD:=Zh pX
  have XU:=Zh vS
  have uo:=Zh kJ
  have MS:=Zh BF
  have HU5:=Zh hU5
  have P9:=Zh fE
  have aci:bc<W5.heap.size:=Nat.lt_of_lt_of_le E8 (Nat.le_trans fE.size kJ.size)
  generalize World.ah (World.ah W0 y) yn=V4 at *
  clear aU bD bC bG aS vS kJ BF pX hU5 jm O5 fE ahN Fz UL yn
  repeat'(first|refine aF ?_|fail)
  refine aY (off:=3) FD.out (λW6 jP nY=>?_)
  obtain⟨T',tX,vK⟩:=fK.out.akN (v':=.slice A6 m6 c6) (x:=true) P9.out (by rw[HUL.out];exact uo.out) (by rw[mV];exact XU.out) (by rw[HUL.out];exact MS.out) jP (nY.congr (λq hq=>Zm q hq))
  rw[mV]at tX
  have hU6:=HU5.out.aW jP (λq hq e=>ahO q hq e)
  have CQ:aB W0 W6:=aB.bK (Et y.ext P9.out) (bF.trans uo.out jP (H:=λq=>(Value.slice AL nL cL).ownBlock=some q∨q=bc) (λ_ _ h=>.inl h) (λ_ _ h=>.inr h)) (λq hq=>by
   rcases hq with hq|rfl
   ·exact DW.out q (by rw[fK.out.tL q (by rw[HUL.out];exact hq)];decide)
   ·exact Zo)
  have Ut:(W0.ah y).heap.size≤V4.heap.size:=P9.out.size
  have HT6:Hid (∀q,T' q≠0→W0.heap.size≤q):=Zh (λq hq=>by
   rcases vK q hq with h1|h1
   ·exact DW.out q h1
   ·exact Nat.le_trans y.ext.size (Nat.le_trans Ut h1))
  have ahP:Hid (∀q,(Value.slice Au nu cu).ownBlock=some q→W0.heap.size≤q∧T' q=0):=Zh (λq hq=>⟨(HUT.out q hq).1,by
   cases hTq:T' q with
   | zero=>rfl
   | succ n=>
    rcases vK q (by omega) with h1|h1
    ·exact absurd (HUT.out q hq).2 h1
    ·have:=HUO.out.lt q hq;omega⟩)
  have HR6:=Zh tX
  have HU6:=Zh hU6
  have HE6:=Zh CQ
  clear tX vK hU6 CQ jP nY FD XU uo MS HU5 P9 Ut
  obtain⟨y6,rfl⟩:=HE6.out.get
  repeat'(first|refine aF ?_|refine au ?_|refine aj ?_|(refine dI (λx K hK=>?_);go_simp;refine hK _ _ (aB.alloc _ _) ?_;clear hK K;refine aZ x ?_;generalize (World.ah _ x).heap.size=bn;intro yn aU bD bC bG aS;clear x)|go_step)
  have fE:aB (W0.ah y6) ((W0.ah y6).ah yn):=by simp
  refine nZ (xs:=(List.range k).map Int.ofNat) (ys:=[(k:Int)]) xU (HU6.out.ah fE) (Rd.one (x:=(k:Int)) bD bC rfl) (by simp;omega) (by unfold maxLen;simp;omega) (λv' W8 Nq hO8 hF8 _=>?_)
  rw[Fa]at hO8
  have hs8:=fE.size
  have agj:=(HR6.out.ah fE).aW Nq (λq hq e=>by have:=(ahP.out q e).2;exact hq this)
  have Ux:ahJ W0 W8 bc f (k+1) v':=⟨aB.bK (Et y6.ext fE) Nq (λq hq=>(ahP.out q hq).1),_,agj,HVS.out,HWS.out,HT6.out,hO8,λq hq=>by
   rcases hF8 with h1|⟨g,h1,h2⟩
   ·rw[h1]at hq;exact ahP.out q hq
   ·rw[h1]at hq
    have hgq:g=q:=Option.some.inj hq
    subst hgq
    refine⟨Nat.le_trans (Et y6.ext fE).size h2,?_⟩
    show T' g=0
    cases hTq:T' g with
    | zero=>rfl
    | succ n=>have:=HR6.out.lt g (by show T' g≠0;omega);omega⟩
  have S9:=Zh Ux
  clear Ux agj Nq hO8 hF8 aU bD bC bG aS fE
  repeat'(first|refine aF ?_|refine au ?_|refine aj ?_|go_step)
  exact⟨_,_,rfl,hd,hA,n-1,by omega,k+1,v',by omega,by simp[jW],S9.out⟩
 ·obtain rfl:k=NB:=by omega
  have CP:Hid (aB W0 (W0.ah y)∧∃ ar,fB (W0.ah y) bc ar f (List.replicate k true)∧ar.vs.map (·.1)=List.replicate 0 ⟨-1,0,0,(List.range k).map Int.ofNat⟩∧ar.ws.map (·.1)=[]∧(∀q,ar.T q≠0→W0.heap.size≤q)∧ig (W0.ah y) (.slice Au nu cu) ((List.range k).map Int.ofNat)∧∀ q,(Value.slice Au nu cu).ownBlock=some q→W0.heap.size≤q∧ar.T q=0):=Zh ⟨y.ext,ar,fK.out,by rw[HVS.out];rfl,by rw[HWS.out];rfl,DW.out,HUO.out,HUT.out⟩
  clear UL Fz E8 fK DW HUO HUT HVS HWS HUL
  repeat'(first|refine aF ?_|refine au ?_|refine ak (λK hK=>?_)|refine aj ?_|refine aJ ?_|refine dS ?_|refine bJ ?_|go_step)
  refine dJ [1,4,5,58,59] (λn vs w'=>∃ p:Nat,p+n=NP∧vs=[.pointer (some ⟨b1,0,none⟩),.pointer (some ⟨bc,0,none⟩),.slice Au nu cu,.int .i64 NP,.int .i64 p]∧aB W0 w'∧∃ ar,fB w' bc ar f (List.replicate k true)∧ar.vs.map (·.1)=List.replicate p ⟨-1,0,0,(List.range k).map Int.ofNat⟩∧ar.ws.map (·.1)=[]∧(∀q,ar.T q≠0→W0.heap.size≤q)∧ig w' (.slice Au nu cu) ((List.range k).map Int.ofNat)∧∀ q,(Value.slice Au nu cu).ownBlock=some q→W0.heap.size≤q∧ar.T q=0) NP hd hA (by decide) ⟨0,by omega,by simp[jW],CP.out⟩ ?_
  clear hd hA A CP y ar;intro n vs A w' hd hA _ ⟨p,hp,jk,xP,ar,lJ,Qi,Qj,OH,huo,hut⟩;subst jk
  obtain⟨y,rfl⟩:=xP.get
  clear xP
  have fK:=Zh lJ
  have DW:=Zh OH
  have HUO:=Zh huo
  have HUT:=Zh hut
  have HVS:=Zh Qi
  have HWS:=Zh Qj
  obtain⟨Ar,nr,cr,hUR⟩:=aT lJ.views
  have E5:=Zh hUR
  have E8:bc<(W0.ah y).heap.size:=lJ.gy.lt
  have Fz:=lJ.gy.cell (k:=4) (by omega)
  simp only[xR]at Fz
  rw[hUR]at Fz
  have hvl:ar.vs.length=p:=by have h:=congrArg List.length Qi;simpa using h
  clear lJ OH huo hut Qi Qj hUR
  simp only[List.zip_cons_cons,List.zip_nil_right,List.zip_nil_left]
  by_cases Dt:p<NP
  ·have BP:(p:Int)<(NP:Int):=by omega
   repeat'(first|refine aF ?_|refine au ?_|refine ak (λK hK=>?_)|refine aj ?_|refine aG ?_|refine aJ ?_|refine bH ?_|go_step)
   refine dn [(0,0),(1,0),(2,0),(3,0),(4,0),(5,0),(6,1),(7,0),(8,1),(9,2),(10,0),(11,0),(12,2)] (by kernel_rfl) (by kernel_rfl) ?_
   repeat'(first|refine aF ?_|fail)
   refine fF (R:=λw0 r w'=>aB w0 w'∧ig w' r ((List.range k).map Int.ofNat)∧∀ q,r.ownBlock=some q→w0.heap.size≤q) Tryz.func65 (λz=>fH ((dQ.Oj HUO.out).rd.ah z.ext) (by simp;omega)) (λz r W2 hR=>⟨hR.1,?_⟩)
   obtain⟨jX,zy,yM⟩:=hR
   have oL:aB (W0.ah y) W2:=Et z.ext jX
   have QT:Hid (∀q,r.ownBlock=some q→(W0.ah y).heap.size≤q):=Zh (λq hq=>Nat.le_trans z.ext.size (yM q hq))
   have Ox:=Zh zy
   obtain⟨A4,m4,QL,rfl⟩:=aT zy
   have P5:=Zh oL
   have VO:=(bI oL E8 (λh=>h)).trans Fz
   have Qg:bc<W2.heap.size:=Nat.lt_of_lt_of_le E8 oL.size
   clear jX zy yM oL Fz z
   repeat'(first|refine aF ?_|(refine dI (λx K hK=>?_);go_simp;refine hK _ _ (aB.alloc _ _) ?_;clear hK K;refine aZ x ?_;generalize (World.ah _ x).heap.size=bn;intro yn aU bD bC bG aS;clear x)|fail)
   have fE:aB W2 (W2.ah yn):=by simp
   refine LG (xs:=ar.vs) (ys:=[((⟨-1,0,0,(List.range k).map Int.ofNat⟩:dL),.slice A4 m4 QL)]) SQ (λy hy u hu=>by obtain rfl:=List.mem_singleton.1 hy;simp at hu;rcases hu with rfl|rfl|rfl|rfl<;>rfl) (by have h:=fK.out.views.ah (Et P5.out fE);rw[E5.out]at h;exact h) (Rd.one (x:=((⟨-1,0,0,(List.range k).map Int.ofNat⟩:dL),Value.slice A4 m4 QL)) bD bC rfl) (by simp;omega) (by unfold maxLen;simp;omega) (λv' W5 kJ vS BF=>?_)
   have JA:=Et P5.out fE
   have SX:=Ox.out.ah fE
   have aci:bc<W5.heap.size:=Nat.lt_of_lt_of_le Qg (Nat.le_trans fE.size kJ.size)
   have jm:¬ (Value.slice Ar nr cr).ownBlock=some bc:=λe=>by
    have h1:=fK.out.tV bc (by rw[E5.out];exact e)
    have h2:=fK.out.tb
    omega
   have O5:∀ q,(Value.slice Au nu cu).ownBlock=some q→¬ (Value.slice Ar nr cr).ownBlock=some q:=λq hq e=>by
    have h1:=fK.out.tV q (by rw[E5.out];exact e)
    have h2:=(HUT.out q hq).2
    omega
   have ahO:∀ q,(Value.slice Au nu cu).ownBlock=some q→q≠bc:=λq hq e=>by
    have h2:=(HUT.out q hq).2
    have h3:=fK.out.tb
    rw[e]at h2;omega
   have pX:=(fK.out.gy.ah JA).aW kJ jm
   have hU5:=(HUO.out.ah JA).aW kJ O5
   obtain⟨A6,m6,c6,rfl⟩:=aT vS
   have FD:=Zh pX
   have XU:=Zh vS
   have uo:=Zh kJ
   have MS:=Zh BF
   have HU5:=Zh hU5
   have acj:=Zh SX
   have SY:=Zh JA
   generalize World.ah W2 yn=V4 at *
   clear aU bD bC bG aS vS kJ BF pX hU5 jm O5 fE VO SX JA P5 Ox
   repeat'(first|refine aF ?_|fail)
   refine aY (off:=4) FD.out (λW6 jP nY=>?_)
   obtain⟨T',tX,vK⟩:=fK.out.agf (v':=.slice A6 m6 c6) (x:=((⟨-1,0,0,(List.range k).map Int.ofNat⟩:dL),.slice A4 m4 QL)) SY.out (by rw[E5.out];exact uo.out) XU.out (by rw[E5.out];exact MS.out) acj.out QT.out jP (nY.congr (λq hq=>Ig q hq))
   have CQ:aB W0 W6:=aB.bK (Et y.ext SY.out) (bF.trans uo.out jP (H:=λq=>(Value.slice Ar nr cr).ownBlock=some q∨q=bc) (λ_ _ h=>.inl h) (λ_ _ h=>.inr h)) (λq hq=>by
    rcases hq with hq|rfl
    ·exact DW.out q (by rw[fK.out.tV q (by rw[E5.out];exact hq)];decide)
    ·exact Zo)
   have hU6:=HU5.out.aW jP (λq hq e=>ahO q hq e)
   have G9:aB W0 W6∧∃ ar,fB W6 bc ar f (List.replicate k true)∧ar.vs.map (·.1)=List.replicate (p+1) ⟨-1,0,0,(List.range k).map Int.ofNat⟩∧ar.ws.map (·.1)=[]∧(∀q,ar.T q≠0→W0.heap.size≤q)∧ig W6 (.slice Au nu cu) ((List.range k).map Int.ofNat)∧∀ q,(Value.slice Au nu cu).ownBlock=some q→W0.heap.size≤q∧ar.T q=0:=⟨CQ,_,tX,by show List.map (·.1) (ar.vs++[((⟨-1,0,0,(List.range k).map Int.ofNat⟩:dL),Value.slice A4 m4 QL)])=_;rw[List.map_append,HVS.out,←mV];rfl,HWS.out,λq hq=>by
     rcases vK q hq with h1|h1
     ·exact DW.out q h1
     ·exact Nat.le_trans y.ext.size h1,hU6,λq hq=>⟨(HUT.out q hq).1,by
     show T' q=0
     cases hTq:T' q with
     | zero=>rfl
     | succ n=>
      rcases vK q (by omega) with h1|h1
      ·exact absurd (HUT.out q hq).2 h1
      ·have:=HUO.out.lt q hq;omega⟩⟩
   have Fb:=Zh G9
   clear G9 hU6 CQ tX vK jP nY
   repeat'(first|refine aF ?_|refine aQ ?_|refine au ?_|refine aj ?_|go_step)
   exact⟨_,_,rfl,hd,hA,n-1,by omega,p+1,by omega,by simp[jW],Fb.out⟩
  ·obtain rfl:p=NP:=by omega
   have CP:Hid (aB W0 (W0.ah y)∧∃ ar,fB (W0.ah y) bc ar f (List.replicate k true)∧ar.vs.map (·.1)=List.replicate p ⟨-1,0,0,(List.range k).map Int.ofNat⟩∧ar.ws.map (·.1)=List.replicate 0 bW.zero∧∀ q,ar.T q≠0→W0.heap.size≤q):=Zh ⟨y.ext,ar,fK.out,HVS.out,HWS.out,DW.out⟩
   clear Fz E8 fK DW HUO HUT HVS HWS E5 hvl
   repeat'(first|refine aF ?_|refine au ?_|refine ak (λK hK=>?_)|refine aj ?_|refine aJ ?_|refine dS ?_|refine bJ ?_|go_step)
   refine dJ [1,4,75,76] (λn vs w'=>∃ i:Nat,i+n=NI∧vs=[.pointer (some ⟨b1,0,none⟩),.pointer (some ⟨bc,0,none⟩),.int .i64 NI,.int .i64 i]∧aB W0 w'∧∃ ar,fB w' bc ar f (List.replicate k true)∧ar.vs.map (·.1)=List.replicate p ⟨-1,0,0,(List.range k).map Int.ofNat⟩∧ar.ws.map (·.1)=List.replicate i bW.zero∧∀ q,ar.T q≠0→W0.heap.size≤q) NI hd hA (by decide) ⟨0,by omega,by simp[jW],CP.out⟩ ?_
   clear hd hA A CP y ar;intro n vs A w' hd hA _ ⟨i,hi,jk,xP,ar,lJ,Qi,Qj,OH⟩;subst jk
   obtain⟨y,rfl⟩:=xP.get
   clear xP
   have fK:=Zh lJ
   have DW:=Zh OH
   have HVS:=Zh Qi
   have HWS:=Zh Qj
   obtain⟨Ar,nr,cr,hUR⟩:=aT lJ.lu
   have E5:=Zh hUR
   have E8:bc<(W0.ah y).heap.size:=lJ.gy.lt
   have Fz:=lJ.gy.cell (k:=5) (by omega)
   simp only[xR]at Fz
   rw[hUR]at Fz
   have hwl:ar.ws.length=i:=by have h:=congrArg List.length Qj;simpa using h
   clear lJ OH Qi Qj hUR
   simp only[List.zip_cons_cons,List.zip_nil_right,List.zip_nil_left]
   by_cases Dt:i<NI
   ·have BP:(i:Int)<(NI:Int):=by omega
    repeat'(first|refine aF ?_|refine au ?_|refine ak (λK hK=>?_)|refine aj ?_|refine aG ?_|refine aJ ?_|(refine dI (λx K hK=>?_);go_simp;refine hK _ _ (aB.alloc _ _) ?_;clear hK K;refine aZ x ?_;generalize (World.ah _ x).heap.size=bn;intro yn aU bD bC bG aS;clear x)|refine bH ?_|go_step)
    have fE:aB (W0.ah y) ((W0.ah y).ah yn):=by simp
    refine LG (xs:=ar.ws) (ys:=[(bW.zero,.slice none 0 0)]) SS (λy hy=>by obtain rfl:=List.mem_singleton.1 hy;exact ahK) (by have h:=fK.out.lu.ah fE;rw[E5.out]at h;exact h) (Rd.one (x:=(bW.zero,Value.slice none 0 0)) bD bC rfl) (by simp;omega) (by unfold maxLen;simp;omega) (λv' W5 kJ vS BF=>?_)
    have jm:¬ (Value.slice Ar nr cr).ownBlock=some bc:=λe=>by
     have h1:=fK.out.tW bc (by rw[E5.out];exact e)
     have h2:=fK.out.tb
     omega
    have pX:=(fK.out.gy.ah fE).aW kJ jm
    have aci:bc<W5.heap.size:=Nat.lt_of_lt_of_le E8 (Nat.le_trans fE.size kJ.size)
    obtain⟨A6,m6,c6,rfl⟩:=aT vS
    have FD:=Zh pX
    have XU:=Zh vS
    have uo:=Zh kJ
    have MS:=Zh BF
    have P9:=Zh fE
    generalize World.ah (World.ah W0 y) yn=V4 at *
    clear aU bD bC bG aS vS kJ BF pX jm fE Fz yn
    repeat'(first|refine aF ?_|fail)
    refine aY (off:=5) FD.out (λW6 jP nY=>?_)
    obtain⟨T',tX,vK⟩:=fK.out.agh (v':=.slice A6 m6 c6) (x:=(bW.zero,.slice none 0 0)) P9.out (by rw[E5.out];exact uo.out) XU.out (by rw[E5.out];exact MS.out) (dQ.nil _) (λq hq=>by cases hq) jP (nY.congr (λq hq=>OE q hq))
    have CQ:aB W0 W6:=aB.bK (Et y.ext P9.out) (bF.trans uo.out jP (H:=λq=>(Value.slice Ar nr cr).ownBlock=some q∨q=bc) (λ_ _ h=>.inl h) (λ_ _ h=>.inr h)) (λq hq=>by
     rcases hq with hq|rfl
     ·exact DW.out q (by rw[fK.out.tW q (by rw[E5.out];exact hq)];decide)
     ·exact Zo)
    have G9:aB W0 W6∧∃ ar,fB W6 bc ar f (List.replicate k true)∧ar.vs.map (·.1)=List.replicate p ⟨-1,0,0,(List.range k).map Int.ofNat⟩∧ar.ws.map (·.1)=List.replicate (i+1) bW.zero∧∀ q,ar.T q≠0→W0.heap.size≤q:=⟨CQ,_,tX,HVS.out,by show List.map (·.1) (ar.ws++[(bW.zero,Value.slice none 0 0)])=_;rw[List.map_append,HWS.out,←mV];rfl,λq hq=>by
      rcases vK q hq with h1|h1
      ·exact DW.out q h1
      ·exact Nat.le_trans y.ext.size h1⟩
    have Fb:=Zh G9
    clear G9 CQ tX vK jP nY
    repeat'(first|refine aF ?_|refine au ?_|refine aj ?_|go_step)
    exact⟨_,_,rfl,hd,hA,n-1,by omega,i+1,by omega,by simp[jW],Fb.out⟩
   ·obtain rfl:i=NI:=by omega
    have hs0:=BD.out.size
    clear Fz
    repeat'(first|refine aF ?_|refine au ?_|refine ak (λK hK=>?_)|refine aj ?_|refine aC ?_|refine dS ?_|refine bJ ?_|go_step)
    refine dB hd ⟨bc,rfl,Et BD.out y.ext,Nat.le_trans hs0 Zo,ar,?_,λq hq=>Nat.le_trans hs0 (DW.out q hq)⟩
    rw[rH.out]
    exact fK.out.adq HVS.out HWS.out (by rw[←rH.out];exact HGD.out)
theorem LJ:∀ (l:List cZ) (p:Int),iI p l=true→∀ e∈l,p≤e.ep:=by
 intro l
 induction l with
 | nil=>intro p _ e he;cases he
 | cons x xs ih=>
  intro p h e he
  rw[lQ]at h
  simp only[Bool.and_eq_true,decide_eq_true_eq]at h
  rcases List.mem_cons.1 he with rfl|he
  ·exact h.1.1
  ·have:=ih x.ep h.2 e he;omega
theorem Zp:∀ (l:List cZ) (p ep:Int),iI p l=true→∀ (k:Nat) e,l[k]? =some e→(e.ep≤ep↔k<dO l ep):=by
 intro l
 induction l with
 | nil=>intro p ep _ k e he;cases he
 | cons x xs ih=>
  intro p ep h k e he
  rw[lQ]at h
  simp only[Bool.and_eq_true,decide_eq_true_eq]at h
  rw[IL]
  by_cases hx:ep<x.ep
  ·rw[if_pos hx]
   have:x.ep≤e.ep:=by
    cases k with
    | zero=>cases he;exact Int.le_refl _
    | succ k=>exact LJ xs x.ep h.2 e (List.mem_of_getElem? (by simpa using he))
   exact⟨λh=>by omega,λh=>by omega⟩
  ·rw[if_neg hx]
   cases k with
   | zero=>cases he;exact⟨λ_=>by omega,λ_=>by omega⟩
   | succ k=>
    have:=ih x.ep ep h.2 k e (by simpa using he)
    rw[this];omega
theorem acr (l:List cZ) (ep:Int):dO l ep≤l.length:=by
 unfold dO
 exact(List.takeWhile_sublist _).length_le
theorem Ih {l:List cZ} {k:Nat} {e:cZ} (h:l[k]? =some e):gZ (l.take (k+1))=e.ep:=by
 have hk:k<l.length:=(Ge h).1
 unfold gZ
 rw[List.getLast?_eq_getElem?,List.length_take,Nat.min_eq_left (by omega),List.getElem?_take,if_pos (by omega),Nat.add_sub_cancel,h];rfl
structure RdN {α:Type} (N:Nat→Prop) (enc:α→ List Value) (k:Nat) (w:World) (u:Value) (l:List α):Prop where
 rd:Rd enc k w u l
 nb:∀ b,u.ownBlock=some b→¬ N b∧b<w.heap.size
instance {α:Type} {N:Nat→Prop} {enc:α→ List Value} {k:Nat} {w:World} {u:Value} {l:List α}:CoeOut (RdN N enc k w u l) (Rd enc k w u l):=⟨RdN.rd⟩
section
variable {w w' : World} {b : Nat} {E : TypeId} {uL uI uC : Value} {s s' : aI} {v : Value} {N : Nat → Prop}
end
structure RdT {α:Type} (enc:α→ List Value) (k:Nat) (w:World) (u:Value) (l:List α):Prop where
 rd:Rd enc k w u l
 lt:∀ b,u.ownBlock=some b→b<w.heap.size
section
variable {α : Type} {enc : α → List Value} {k : Nat} {w w' : World} {u : Value} {l : List α}
instance:CoeOut (RdT enc k w u l) (Rd enc k w u l):=⟨RdT.rd⟩
end
structure HR (w W:World) (b:Nat) (F:Nat→Prop) (s:aI):Prop where
 rep:oD W b F s
 hi:∀ k,F k→w.heap.size≤k∧k<W.heap.size
 ext:aB w W
structure aeT where
 kind:Int
 n:Int
 near:Bool
 view:dL
 ent:cZ
 fetch:pW
 reply:iM
 list:List Int
structure RdM {α:Type} (N:Nat→Prop) (enc:α→ List Value) (k:Nat) (w:World) (u:Value) (l:List α):Prop where
 rd:Rd enc k w u l
 nb:∀ b,u.ownBlock=some b→l=[]∨¬ N b
instance {α:Type} {N:Nat→Prop} {enc:α→ List Value} {k:Nat} {w:World} {u:Value} {l:List α}:CoeOut (RdN N enc k w u l) (RdM N enc k w u l):=⟨λh=>⟨h.rd,λb hb=>.inr (h.nb b hb).1⟩⟩
@[simp,go_sem] theorem ahQ (a b c d e f g h i:Value) (w:World):(Instr.field 54 (.agg #[a,b,c,d,e,f,g,h,i]) 4).run Tryz.prog w=.ok e w:=by
 unfold Instr.field
 simp[Sem.run_bind,run_underlying Tryz.underlying54,part,Tryz.isAgg3,asAgg]
def kv:dL:=⟨0,1,0,[0,1]⟩
def ke:cZ:=⟨0,-1,0,0,1,7⟩
def kf:pW:=⟨1,1,1,1,1⟩
def k0:aI:=aI.lI 0 1
def k1:aI:=(k0.learn kv).1
def k2:aI:=k1.app ke
def k3:aI:=k2.flush
def k4:aI:=k3.serve kf 4
theorem ND (l m:List cZ) (u v:Value) (w:World) (hl:yQ w u l) (hm:yQ w v m):
  Pure Tryz.prog 66 #[u,v] w (.bool (decide (l=m))):=by
 obtain⟨A0,c,rfl,hc,jT,HR⟩:=hl.ent
 obtain⟨A1,c1,rfl,Na,aqO,UN⟩:=hm.ent
 clear hl hm
 refine Fi (n:=26) Tryz.func66 ?_;intro A hd hA;simp only[ix,Nat.reduceAdd]
 repeat'(first|refine aF ?_|refine au ?_|refine ak (λK hK=>?_)|refine aj ?_|refine aC ?_|refine aG ?_|refine aJ ?_|refine rE (λhc=>?_) (λhc=>?_)|go_step)
 ·refine aA hd ⟨congrArg Value.bool ?_,by simp⟩
  have:l≠m:=λe=>by subst e;simp at hc
  simp[this]
 have heq:l.length=m.length:=by have:=hc;simp at this;omega
 refine dJ [0,1,5] (λn vs w'=>∃ k:Nat,w'=w∧k+n=l.length∧vs=[.slice A0 l.length c,.slice A1 m.length c1,.int .i64 k]∧l.take k=m.take k) l.length hd hA (by decide) ⟨0,rfl,by omega,by simp,by simp⟩ ?_
 clear hd hA A;intro n vs B w' hd hA _ ⟨k,hw,hk,jk,hm⟩;subst hw jk
 simp only[List.zip_cons_cons,List.zip_nil_right,List.zip_nil_left]
 have Hm:=Zh hm;clear hm
 have HQ:=Zh heq;clear heq hc
 by_cases hlt:k<l.length
 ·obtain⟨e,b,o,HE,rfl,hb,c0,c1,c2,c3,c4,c5⟩:=HR.out k hlt
  have Xb:k<m.length:=by rw[←HQ.out];exact hlt
  obtain⟨x,b1,o1,HX,rfl,hb1,d0,d1,d2,d3,d4,d5⟩:=UN.out k Xb
  have g1:=λox oy a b w=>U3 ox oy a b w
  have g2:=ag0 e x
  repeat'(first|refine aF ?_|refine aQ ?_|refine au ?_|refine ak (λK hK=>?_)|refine aj ?_|refine dA (by kernel_rfl) (by kernel_rfl) ?_|refine aC ?_|refine aG ?_|refine aJ ?_|refine bH ?_|refine rE (λhc=>?_) (λhc=>?_)|go_step)
  ·refine aA hd ⟨congrArg Value.bool ?_,by simp⟩
   have:l≠m:=λh=>by subst h;rw[HE.out]at HX;cases HX.out;simp at hc
   simp[this]
  ·refine⟨_,_,rfl,hd,hA,n-1,by omega,k+1,trivial,by omega,by simp,?_⟩
   rw[gV HE.out,gV HX.out,Hm.out]
   simp at hc
   rw[hc]
 ·repeat'(first|refine aF ?_|refine au ?_|refine ak (λK hK=>?_)|refine aj ?_|refine aC ?_|refine dS ?_|refine bJ ?_|go_step)
  obtain rfl:k=l.length:=by omega
  refine aA hd ⟨congrArg Value.bool ?_,by simp⟩
  have:=Hm.out
  rw[List.take_length,HQ.out,List.take_length]at this
  simp[this]
structure Uy where
 leader:Int
 epoch:Int
 version:Int
 isr:List Int
def aI.zW (s:aI) (l:List Int):Bool:=fP l&&decide (s.self∈l)
def aI.LK (s:aI) (l:List Int):Bool:=l.all λb=>decide (b∈s.isr)||decide (ku s.high s.qM≤s.known b.toNat)
def aI.jS (s:aI) (l:List Int):Int:=if s.zW l=false then 2 else if s.role≠3 then 211 else if s.LK l=false then 213 else 0
def zh (a b:List Int):List Int:=[0,1,2,3].filter λx=>decide (x∈a)||decide (x∈b)
def aI.qV (s:aI) (l:List Int):aI:=if s.jS l=0 then{s with counts:=zh s.counts l} else s
def aI.alter (s:aI) (l:List Int):Uy:=if s.jS l=0 then⟨s.self,s.epoch,s.version,l⟩ else⟨0,0,0,[]⟩
def aI.step (s:aI) (a:aeT):aI:=
 if a.kind=1 then(s.learn a.view).1 else if a.kind=2 then s.app a.ent else if a.kind=3 then s.flush else if a.kind=5 then s.serve a.fetch a.n
 else if a.kind=6 then s.take a.reply else if a.kind=7 then s.qV a.list else if a.kind=8 then(s.crash a.n).1 else s
structure aI.oU (s:aI):Prop where
 bU:s.dH
 ver:0≤s.version∧s.version≤2147483647
section
variable {N N' F G : Nat → Prop} {w0 w w' W : World} {uL uI uC u : Value} {s s' : aI} {b : Nat}
end
theorem Zq {s:aI} (h:s.dH) (l:List Int):(s.qV l).dH:=by
 unfold aI.qV
 split
 ·refine⟨h.ok,h.self,h.least,h.role,h.epoch,h.fl,h.hi,h.isr,?_⟩
  show fP (zh s.counts l)=true
  unfold zh
  simp only[List.filter]
  split<;>split<;>split<;>split<;>rfl
 ·exact h
theorem aoV {P:Nat→Prop} (h:P 0∧P 1∧P 2∧P 3):∀ k,k<4→P k:=by
 obtain⟨h0,h1,h2,h3⟩:=h
 intro k hk
 obtain rfl|rfl|rfl|rfl:k=0∨k=1∨k=2∨k=3:=by omega
 all_goals assumption
abbrev Uy.v (a:Uy) (u:Value):Value:=.agg #[.int .i64 a.leader,.int .i64 a.epoch,.int .i64 a.version,u]
def aI.uM (s:aI) (b:Int):Bool:=decide (b∈s.isr)||decide (ku s.high s.qM≤s.known b.toNat)
theorem NG (g n c:Nat) (f:Nat→Int) (hh:Nat→Value) (w:World) (h:cO w g 3 c (sK n f hh)) (Hl:n≤c) (jT:c≤maxLen) (hn:n≤8) (hs:wU f n):
  gK Tryz.prog 215 #[.slice (some ⟨g,0,none⟩) n c] w λv w'=>bF (· =g) w w'∧∃ m f' h',v=.slice (some ⟨g,0,none⟩) m c∧m≤n∧cO w' g 3 c (sK m f' h')∧(∀p q,p<q→q<m→f' p<f' q)∧∀ x,Pn f' m x↔Pn f n x:=by
 have HB:=Zh h
 have hgl:=h.lt
 have HS:=Zh hs
 have Uz:c≤9223372036854775807:=jT
 clear h hs
 have CELL:Hid (∀k,k<n→w.cell? ⟨g,k,none⟩=some (.int .i64 (f k))):=Zh (λk hk=>by have:=HB.out.cell (k:=k) (by omega);rwa [show sK n f hh k=.int .i64 (f k) from if_pos hk]at this)
 by_cases h2:n<2
 ·have h2i:(n:Int)<2:=by omega
  refine Fi (n:=61) Tryz.func215 ?_;intro A hd hA;simp only[ix,Nat.reduceAdd]
  repeat'(first|refine aF ?_|refine au ?_|refine ak (λK hK=>?_)|refine aj ?_|refine aC ?_|refine bH ?_|go_step)
  exact aA hd ⟨bF.refl _ _,n,f,hh,rfl,Nat.le_refl _,HB.out,λp q h1 h2=>by omega,λx=>Iff.rfl⟩
 ·have h2i:¬ (n:Int)<2:=by omega
  refine Fi (n:=61) Tryz.func215 ?_;intro A hd hA;simp only[ix,Nat.reduceAdd]
  repeat'(first|refine aF ?_|refine au ?_|refine ak (λK hK=>?_)|refine aj ?_|refine aG ?_|refine aJ ?_|refine bJ ?_|go_step)
  refine dJ [0,2,3] (λm vs w'=>∃ k:Nat,w'=w∧k+m=n∧1≤k∧vs=[.slice (some ⟨g,0,none⟩) n c,.slice none 0 0,.int .i64 k]∧∀ p,p+1<k→f p<f (p+1)) (n-1) hd hA (by decide) ⟨1,rfl,by omega,by omega,by simp,λp h=>by omega⟩ ?_
  clear hd hA A;intro m vs B w' hd hA _ ⟨k,hw,hkm,JF,jk,qR⟩;subst hw jk
  have Pq:=Zh qR
  clear qR
  simp only[List.zip_cons_cons,List.zip_nil_right,List.zip_nil_left]
  by_cases BO:k<n
  ·obtain⟨j,hj⟩:∃ j,k=j+1:=⟨k-1,by omega⟩
   have Xo:(k:Int)-1=(j:Int):=by omega
   have sZ:(k:Int)<n:=by omega
   have oM:(j:Int)<n:=by omega
   have e1:=CELL.out k BO
   have e0:=CELL.out j (by omega)
   have HJ:=Zh hj
   clear hj
   by_cases e:f k=f j
   ·have eb:(f k==f j)=true:=by simp[e]
    have HEQ:=Zh e
    clear e
    have hkc:k≤c:=by omega
    have awr:k≤n:=by omega
    have arQ:(k:Int)≤n:=by omega
    have auC:(k:Int)≤c:=by omega
    have D7:¬ c=k:=by omega
    have aws:¬ c-k=0:=by omega
    have auD:(n:Int)≤c:=by omega
    repeat'(first|refine aF ?_|refine au ?_|refine ak (λK hK=>?_)|refine aj ?_|refine aG ?_|refine aJ ?_|refine bH ?_|go_step)
    refine dn [(0,0),(1,0),(2,0),(3,0),(4,0),(5,0),(6,0),(7,0),(8,0),(9,0)] (by kernel_rfl) (by kernel_rfl) ?_
    repeat'(first|refine aF ?_|refine aQ ?_|refine au ?_|refine ak (λK hK=>?_)|refine aj ?_|refine aJ ?_|refine bH ?_|go_step)
    obtain⟨r,hr⟩:∃ r,r=n-k:=⟨_,rfl⟩
    obtain⟨cr,hcr⟩:∃ cr,cr=c-k:=⟨_,rfl⟩
    rw[←hr,←hcr]
    have hnr:n=k+r:=by omega
    have HNR:=Zh hnr
    have hrn:r≤n:=by omega
    have Fz:r≤cr:=by omega
    have QV:1≤r:=by omega
    have Yp:∀ q p,p<q→q<k→f p<f q:=by
     intro q
     induction q with
     | zero=>intro p h1;omega
     | succ q ih=>
      intro p h1 h2
      have h3:=Pq.out q (by omega)
      by_cases hpq:p=q
      ·rw[hpq];exact h3
      ·exact Int.lt_trans (ih p (by omega) (by omega)) h3
    have adA:∀ x,Pn f k x↔Pn f (k+1) x:=λx=>by
     constructor
     ·rintro⟨p,h1,h2⟩;exact⟨p,by omega,h2⟩
     ·rintro⟨p,h1,h2⟩
      by_cases N7:p=k
      ·exact⟨j,by have:=HJ.out;omega,by rw[←h2,N7,HEQ.out]⟩
      ·exact⟨p,by omega,h2⟩
    have UA:f (k-1)=f (k+1-1):=by
     have h1:=HJ.out
     have h2:k-1=j:=by omega
     rw[h2,Nat.add_sub_cancel];exact HEQ.out.symm
    clear hr hcr hnr
    refine dJ [0,2,3,4,5] (λm2 vs w2=>∃ (i k2:Nat) (f2:Nat→Int),1≤i∧i+m2=r∧vs=[.slice (some ⟨g,0,none⟩) n c,.slice none 0 0,.int .i64 k2,.slice (some ⟨g,k,none⟩) r cr,.int .i64 i]∧bF (· =g) w' w2∧cO w2 g 3 c (sK n f2 hh)∧(1≤k2∧k2+1≤k+i)∧(∀q p,p<q→q<k2→f2 p<f2 q)∧(∀x,Pn f2 k2 x↔Pn f (k+i) x)∧(∀p,k+i≤p+1→p<n→f2 p=f p)∧f2 (k2-1)=f (k+i-1)) (r-1) hd hA (by decide) ⟨1,k,f,Nat.le_refl _,by omega,by simp,bF.refl _ _,HB.out,⟨JF,Nat.le_refl _⟩,Yp,adA,λp _ _=>rfl,UA⟩ ?_
    clear hd hA B Yp adA UA e1 e0 CELL HB;intro m2 vs B w2 hd hA _ ⟨i,k2,f2,hi1,him,jk,hM,hB,⟨aoX,auE⟩,amg,adA,agJ,UA⟩;subst jk
    have HM:=Zh hM
    have HB:=Zh hB
    have aeU:=Zh amg
    have aeV:=Zh adA
    have HTL:=Zh agJ
    have HLA:=Zh UA
    have aoA:=hB.lt
    clear hM hB amg adA agJ UA
    simp only[List.zip_cons_cons,List.zip_nil_right,List.zip_nil_left]
    by_cases hir:i<r
    ·obtain⟨i',QC⟩:∃ i',i=i'+1:=⟨i-1,by omega⟩
     have hiI:(i:Int)<r:=by omega
     have as4:(i:Int)-1=(i':Int):=by omega
     have auG:(i':Int)<r:=by omega
     have ahR:k+i<n:=by have:=HNR.out;omega
     have c1:w2.cell? ⟨g,k+i,none⟩=some (.int .i64 (f (k+i))):=by have:=HB.out.cell (k:=k+i) (by omega);rwa [show sK n f2 hh (k+i)=.int .i64 (f (k+i)) from by unfold sK;rw[if_pos ahR,HTL.out (k+i) (by omega) ahR]]at this
     have c0:w2.cell? ⟨g,k+i',none⟩=some (.int .i64 (f (k+i'))):=by have:=HB.out.cell (k:=k+i') (by omega);rwa [show sK n f2 hh (k+i')=.int .i64 (f (k+i')) from by unfold sK;rw[if_pos (by omega),HTL.out (k+i') (by omega) (by omega)]]at this
     have HI:=Zh QC
     have aoZ:(k2:Int)<n:=by omega
     clear QC
     by_cases e:f (k+i)=f (k+i')
     ·have eb:(f (k+i) != f (k+i'))=false:=by simp[e]
      have akR:=Zh e
      clear e
      repeat'(first|refine aF ?_|refine au ?_|refine ak (λK hK=>?_)|refine aj ?_|refine aG ?_|refine aJ ?_|refine bH ?_|go_step)
      refine dn [(0,0),(1,0),(2,0),(3,0),(4,0),(5,0),(6,0),(7,0),(8,0),(9,0)] (by kernel_rfl) (by kernel_rfl) ?_
      repeat'(first|refine aF ?_|refine aQ ?_|refine au ?_|refine aj ?_|refine aG ?_|refine bJ ?_|go_step)
      exact⟨_,_,rfl,hd,hA,m2-1,by omega,i+1,k2,f2,by omega,by omega,by simp,HM.out,HB.out,⟨aoX,by omega⟩,aeU.out,(λx=>(aeV.out x).trans ⟨λ⟨p,h1,h2⟩=>⟨p,by omega,h2⟩,λ⟨p,h1,h2⟩=>by
       by_cases hp:p=k+i
       ·exact⟨k+i',by have:=HI.out;omega,by rw[←h2,hp,akR.out]⟩
       ·exact⟨p,by omega,h2⟩⟩),(λp h1 h2=>HTL.out p (by omega) h2),by
        have h1:=HI.out
        rw[HLA.out,show k+(i+1)-1=k+i by omega,show k+i-1=k+i' by omega];exact akR.out.symm⟩
     ·have eb:(f (k+i) != f (k+i'))=true:=by simp[e]
      have HNE:=Zh e
      clear e
      repeat'(first|refine aF ?_|refine au ?_|refine ak (λK hK=>?_)|refine aj ?_|refine aG ?_|refine aJ ?_|refine bH ?_|go_step)
      refine dn [(0,0),(1,0),(2,0),(3,0),(4,0),(5,0),(6,0),(7,0),(8,0),(9,0)] (by kernel_rfl) (by kernel_rfl) ?_
      repeat'(first|refine aF ?_|refine aQ ?_|refine ak (λK hK=>?_)|refine aj ?_|refine bH ?_|go_step)
      refine aY (off:=k2) HB.out (λW3 jd ru=>?_)
      have FB:=Zh jd
      have xI:=Zh ru
      clear jd ru
      repeat'(first|refine aF ?_|refine au ?_|refine aj ?_|go_step)
      have amh:f (k+i-1)<f (k+i):=by
       have h1:=HI.out
       have h2:=HS.out (k+i') (k+i) (by omega) ahR
       have h3:=HNE.out
       rw[show k+i-1=k+i' by omega];omega
      have auH:k2<k+i:=by omega
      refine⟨_,_,rfl,hd,hA,m2-1,by omega,i+1,k2+1,(λp=>if p=k2 then f (k+i) else f2 p),by omega,by omega,by simp,bF.trans HM.out FB.out (λ_ _ h=>h) (λ_ _ h=>h),xI.out.congr (λp hp=>?_),⟨by omega,by omega⟩,?_,?_,?_,?_⟩
      ·show _=put (sK n f2 hh) k2 [.int .i64 (f (k+i))] p
       rw[kZ]
       unfold sK
       by_cases hp2:p=k2
       ·simp[hp2,show k2<n by omega]
       ·simp[hp2]
      ·intro q p h1 h2
       show (if p=k2 then f (k+i) else f2 p)<(if q=k2 then f (k+i) else f2 q)
       rw[if_neg (by omega)]
       by_cases hq:q=k2
       ·rw[if_pos hq]
        by_cases hp:p=k2-1
        ·rw[hp,HLA.out];exact amh
        ·have:=aeU.out (k2-1) p (by omega) (by omega)
         rw[HLA.out]at this
         exact Int.lt_trans this amh
       ·rw[if_neg hq];exact aeU.out q p h1 (by omega)
      ·intro x
       constructor
       ·rintro⟨p,h1,h2⟩
        by_cases hp:p=k2
        ·exact⟨k+i,by omega,by rw[←h2];show _=(if p=k2 then f (k+i) else f2 p);rw[if_pos hp]⟩
        ·obtain⟨p',h3,h4⟩:=(aeV.out x).1 ⟨p,by omega,by rw[←h2];show _=(if p=k2 then f (k+i) else f2 p);rw[if_neg hp]⟩
         exact⟨p',by omega,h4⟩
       ·rintro⟨p,h1,h2⟩
        by_cases hp:p=k+i
        ·exact⟨k2,by omega,by rw[←h2,hp];exact if_pos rfl⟩
        ·obtain⟨p',h3,h4⟩:=(aeV.out x).2 ⟨p,by omega,h2⟩
         exact⟨p',by omega,by rw[←h4];exact if_neg (by omega)⟩
      ·intro p h1 h2
       show (if p=k2 then f (k+i) else f2 p)=f p
       rw[if_neg (by omega)];exact HTL.out p (by omega) h2
      ·show (if k2+1-1=k2 then f (k+i) else f2 (k2+1-1))=f (k+(i+1)-1)
       rw[if_pos (by omega)]
       rfl
    ·have hiI:¬ (i:Int)<r:=by omega
     have aoZ:k2<n:=by have:=HNR.out;omega
     have akS:k2≤n:=by omega
     have ao0:(k2:Int)≤n:=by omega
     have auI:k2≤c:=by omega
     have arR:(k2:Int)≤c:=by omega
     have auJ:¬ c=k2:=by omega
     have auK:¬ c-k2=0:=by omega
     repeat'(first|refine aF ?_|refine au ?_|refine ak (λK hK=>?_)|refine aj ?_|refine dS ?_|refine bJ ?_|go_step)
     refine Qb k2 (n-k2) HB.out (by omega) (by omega) (λW3 jd ru=>?_)
     have FB:=Zh jd
     have xI:=Zh ru
     clear jd ru
     repeat'(first|refine aF ?_|refine au ?_|refine ak (λK hK=>?_)|refine aj ?_|refine aC ?_|go_step)
     have ao1:k+i=n:=by have:=HNR.out;omega
     exact aA hd ⟨bF.trans HM.out FB.out (λ_ _ h=>h) (λ_ _ h=>h),k2,f2,_,rfl,akS,xI.out.congr (g':=sK k2 f2 (put (sK n f2 hh) k2 (List.replicate (n-k2) (.int .i64 0)))) (λp hp=>by
      unfold sK
      by_cases hp2:p<k2
      ·rw[if_pos hp2,oH (.inl hp2),if_pos (by omega)]
      ·rw[if_neg hp2]),λp q h1 h2=>aeU.out q p h1 h2,λx=>by rw[←ao1];exact aeV.out x⟩
   ·have eb:(f k==f j)=false:=by simp[e]
    have hlt:f j<f k:=by have:=HS.out j k (by have:=HJ.out;omega) BO;omega
    have zM:=Zh hlt
    clear e hlt
    repeat'(first|refine aF ?_|refine au ?_|refine ak (λK hK=>?_)|refine aj ?_|refine aG ?_|refine aJ ?_|refine bH ?_|go_step)
    refine dn [(0,0),(1,0),(2,0),(3,0),(4,0),(5,0),(6,0),(7,0),(8,0),(9,0)] (by kernel_rfl) (by kernel_rfl) ?_
    repeat'(first|refine aF ?_|refine aQ ?_|refine au ?_|refine aj ?_|refine aG ?_|refine bJ ?_|go_step)
    exact⟨_,_,rfl,hd,hA,m-1,by omega,k+1,by simp,by omega,by omega,by simp,λp hp=>by
     by_cases N7:p+1=k
     ·have h1:=HJ.out
      obtain rfl:p=j:=by omega
      rw[N7];exact zM.out
     ·exact Pq.out p (by omega)⟩
  ·have sZ:¬ (k:Int)<n:=by omega
   repeat'(first|refine aF ?_|refine au ?_|refine ak (λK hK=>?_)|refine aj ?_|refine aC ?_|refine dS ?_|refine bJ ?_|go_step)
   have Yp:∀ q p,p<q→q<n→f p<f q:=by
    intro q
    induction q with
    | zero=>intro p h1;omega
    | succ q ih=>
     intro p h1 h2
     have h3:=Pq.out q (by omega)
     by_cases hpq:p=q
     ·rw[hpq];exact h3
     ·exact Int.lt_trans (ih p (by omega) (by omega)) h3
   exact aA hd ⟨bF.refl _ _,n,f,hh,rfl,Nat.le_refl _,HB.out,λp q h1 h2=>Yp q p h1 h2,λx=>Iff.rfl⟩
end Go.Ws
