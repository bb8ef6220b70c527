/- Lemmas for the statements of this layer (joined texts); no condition. -/
import Derived.Test.YtdabdbmehmccnaaGreatCa07
namespace Go.Ws
open Go Go.RowKit Go.Proofs
set_option maxHeartbeats 4000000
set_option maxRecDepth 100000
set_option linter.unusedVariables false
set_option linter.unusedSimpArgs false
def akE (l:List Int) (x i:Int):Prop:=(i= -1∧x∉l)∨∃ k:Nat,i=k∧l[k]? =some x
theorem qP (l:List Int) (v:Value) (x:Int) (w:World) (hl:BU w v l):gK Tryz.prog 158 #[v,.int .i64 x] w λr w'=>aB w w'∧∃ i:Int,r=.int .i64 i∧akE l x i:=by
 obtain⟨A0,c,rfl,hc,jT,HR⟩:=hl.int
 clear hl
 refine Fi (n:=19) Tryz.func158 ?_;intro A hd hA;simp only[ix,Nat.reduceAdd]
 repeat'(first|refine aF ?_|refine au ?_|refine ak (λK hK=>?_)|refine aj ?_|refine aJ ?_|go_step)
 refine dJ [0,1,7,8] (λn vs w'=>∃ k:Nat,w'=w∧k+n=l.length∧vs=[.slice A0 l.length c,.int .i64 x,.int .i64 l.length,.int .i64 k]∧x∉l.take k) l.length hd hA (by decide) ⟨0,rfl,by omega,by simp,by simp⟩ ?_
 clear hd hA A;intro n vs B w' hd hA _ ⟨k,hw,hk,jk,hm⟩;subst hw jk
 simp only[List.zip_cons_cons,List.zip_nil_right,List.zip_nil_left]
 by_cases hlt:k<l.length
 ·obtain⟨y,b,o,HX,rfl,hb,c0⟩:=HR k hlt
  have sZ:(k:Int)<l.length:=by omega
  have HXX:=Zh HX
  have HM:=Zh hm
  clear hm HX
  by_cases hxy:x=y
  ·subst hxy
   repeat'(first|refine aF ?_|refine au ?_|refine ak (λK hK=>?_)|refine aj ?_|refine aC ?_|refine aG ?_|refine aJ ?_|refine bH ?_|go_step)
   exact aA hd ⟨by simp,k,rfl,.inr ⟨k,rfl,HXX.out.out⟩⟩
  ·have DJ:(x==y)=false:=beq_false_of_ne hxy
   repeat'(first|refine aF ?_|refine au ?_|refine ak (λK hK=>?_)|refine aj ?_|refine aG ?_|refine aJ ?_|refine bH ?_|refine bJ ?_|go_step)
   exact⟨_,_,rfl,hd,hA,n-1,by omega,k+1,trivial,by omega,by simp,by rw[gV HXX.out,List.mem_append,List.mem_singleton];exact λh=>h.elim HM.out hxy⟩
 ·obtain rfl:k=l.length:=by omega
  rw[List.take_length]at hm
  have HM:=Zh hm
  clear hm
  repeat'(first|refine aF ?_|refine au ?_|refine ak (λK hK=>?_)|refine aj ?_|refine aC ?_|refine dS ?_|refine bJ ?_|go_step)
  exact aA hd ⟨by simp,-1,rfl,.inl ⟨rfl,HM.out⟩⟩
theorem qE:∀ (l:List Int) (k:Nat) (x:Int),l.Pairwise (· < ·)→l[k]? =some x→l.eraseIdx k=l.filter (· ≠x)
 | [],k,x,_,h=>by simp at h
 | a::l,0,x,hr,h=>by
  obtain rfl:a=x:=by simpa using h
  obtain⟨h1,h2⟩:=List.pairwise_cons.1 hr
  have e:l.filter (· ≠a)=l:=List.filter_eq_self.2 λy hy=>by have:=h1 y hy;simp;omega
  rw[List.filter_cons_of_neg (by simp),e];rfl
 | a::l,k+1,x,hr,h=>by
  obtain⟨h1,h2⟩:=List.pairwise_cons.1 hr
  have h':l[k]? =some x:=by simpa using h
  have:=h1 x (List.mem_of_getElem? h')
  rw[List.filter_cons_of_pos (by simp;omega),List.eraseIdx_cons_succ,qE l k x h2 h']
theorem uJ {α:Type} {l:List α} {k:Nat} {x:α} (h:l[k]? =some x):l.set k x=l:=by
 obtain⟨h1,rfl⟩:=Ge h
 exact List.set_getElem_self h1
theorem SE {w:World} {b:Nat} {F:Nat→Prop} {m:aH} (i num p:Int) (h:gX w b F m):gK Tryz.prog 177 #[.pointer (some ⟨b,0,none⟩),.int .i64 i,.int .i64 num,.int .i64 p] w λr w'=>r=.int .i64 (m.kK i num p)∧wS w b F (m.fO i num p) w':=by
 have HH:=Zh h
 by_cases hq:(m.id i&&m.part p)=true
 ·have jM:m.id i=true∧m.part p=true:=by simpa using hq
  obtain⟨k,rfl⟩:∃ k:Nat,i=k:=⟨i.toNat,by have h:=jM.1;simp only[aH.id,Bool.and_eq_true,decide_eq_true_eq]at h;omega⟩
  have HP:Hid (m.id (k:Int)=true):=Zh jM.1
  have QF:Hid (m.part p=true):=Zh jM.2
  by_cases hn:(m.ay (k:Int)).num≠num
  ·have bT:m.kK (k:Int) num p=200:=by simp[aH.kK,jM.1,jM.2,hn]
   have bP:m.fO (k:Int) num p=m:=by simp[aH.fO,bT]
   rw[bT,bP]
   clear bT bP h jM hq
   have Iu:((m.ay (k:Int)).num==num)=false:=by simp[hn]
   refine Fi (n:=89) Tryz.func177 ?_;intro A hd hA;simp only[ix,Nat.reduceAdd]
   repeat'(first|refine aF ?_|refine au ?_|refine ak (λK hK=>?_)|refine aj ?_|go_step)
   refine aX Tryz.func63 (dK (c:=false) (λw' hE=>(HH.out.ah (Et (aB.refl _) hE)).some)) (λr w1 hR=>?_)
   obtain⟨hE,f1,rfl,hC⟩:=hR
   have HE:=Zh (hE)
   have gY:=Zh hC
   clear hE hC
   repeat'(first|refine aF ?_|fail)
   refine aX Tryz.func136 (kD (k:Int) (HH.out.ah HE.out)) (λr w1 hR=>?_)
   obtain⟨hE,f2,rfl,hC⟩:=hR
   replace HE:=Zh (Et HE.out hE)
   replace gY:=Zh (gY.out.ah hE)
   have kG:=Zh hC
   clear hE hC
   repeat'(first|refine aF ?_|fail)
   refine aX Tryz.func64 (iF p (HH.out.ah HE.out)) (λr w1 hR=>?_)
   obtain⟨hE,f3,rfl,hC⟩:=hR
   replace HE:=Zh (Et HE.out hE)
   replace gY:=Zh (gY.out.ah hE)
   replace kG:=Zh (kG.out.ah hE)
   have mZ:=Zh hC
   clear hE hC
   obtain⟨a,jg,hF⟩:=HH.out.ah HE.out
   obtain⟨u,hu⟩:=jg.ay HP.out
   rw[Int.toNat_natCast]at hu
   obtain⟨g,c,iZ,Dq,jT,hv⟩:=jg.lu.Bd hu
   obtain⟨hlt,-,-,-,-,-,c4⟩:=jg.cells
   rw[iZ]at c4
   have kS:k<a.ws.length:=(Ge hu).1
   have sZ:(k:Int)<a.ws.length:=by omega
   obtain⟨vM,yw⟩:=jg.parts _ _ hu
   dsimp only at vM yw
   have jq:=Zh vM
   have JV:=Zh yw
   have xH:=Zh iZ
   have HU:=Zh hu
   have HW:=Zh hv
   have HA:=Zh jg
   have HF:=Zh hF
   clear jg hF iZ hu hv vM yw
   obtain⟨lg,e0,e1,e2,e3,e4,e5⟩:=HW.out
   dsimp only at e0 e1 e2 e3 e4 e5
   repeat'(first|refine aN Tryz.func62 (dD (xs:=[(f1,false,1),(f2,!m.id (k:Int),2),(f3,!m.part p,2)]) (n:=0) (dW _ aS rfl (by unfold maxLen;simp)) (dF.cons (gY.out.ah (by simp)) (dF.cons (kG.out.ah (by simp)) (dF.cons (mZ.out.ah (by simp)) dF.nil))) (by simp[fA,HP.out,QF.out])) ?_|refine aF ?_|refine au ?_|refine ak (λK hK=>?_)|refine aj ?_|refine aG ?_|(refine dI (λx K hK=>?_);go_simp;refine hK _ _ (aB.alloc _ _) ?_;clear hK K;refine aZ x ?_;generalize (World.ah _ x).heap.size=bn;intro yn aU bD bC bG aS;clear x)|refine bJ ?_|go_step)
   clear gY kG mZ
   refine aX Tryz.func158 (qP (m.ay (k:Int)).parts u p _ ((dQ.Oj jq.out).rd.ah (by simp))) (λr w9 hR=>?_)
   obtain⟨OC,ix,rfl,Yn⟩:=hR
   have wV:aB w1 w9:=Et (by simp) OC
   replace HE:=Zh (Et HE.out wV)
   replace HA:=Zh (HA.out.ah wV)
   replace HW:=Zh (HW.out.ah wV)
   replace jq:=Zh (jq.out.ah wV)
   have SG:=Zh Yn
   clear OC wV Yn aU bD bC bG aS lg e0 e1 e2 e3 e4 e5 c4 hlt
   obtain⟨lg,e0,e1,e2,e3,e4,e5⟩:=HW.out
   dsimp only at e0 e1 e2 e3 e4 e5
   repeat'(first|(refine pq ?_)|refine aF ?_|refine mg ?_|refine jF ?_|refine au ?_|refine ak (λK hK=>?_)|refine aj ?_|refine aC ?_|refine bH ?_|go_step)
   exact aA hd ⟨rfl,HH.out.jc HE.out⟩
  ·have hn:(m.ay (k:Int)).num=num:=Classical.byContradiction hn
   by_cases hm:p∉(m.ay (k:Int)).parts
   ·have bT:m.kK (k:Int) num p=200:=by simp[aH.kK,jM.1,jM.2,hn,hm]
    have bP:m.fO (k:Int) num p=m:=by simp[aH.fO,bT]
    rw[bT,bP]
    clear bT bP h jM hq
    have Iu:((m.ay (k:Int)).num==num)=true:=by simp[hn]
    have HMM:=Zh hm
    clear hm
    refine Fi (n:=89) Tryz.func177 ?_;intro A hd hA;simp only[ix,Nat.reduceAdd]
    repeat'(first|refine aF ?_|refine au ?_|refine ak (λK hK=>?_)|refine aj ?_|go_step)
    refine aX Tryz.func63 (dK (c:=false) (λw' hE=>(HH.out.ah (Et (aB.refl _) hE)).some)) (λr w1 hR=>?_)
    obtain⟨hE,f1,rfl,hC⟩:=hR
    have HE:=Zh (hE)
    have gY:=Zh hC
    clear hE hC
    repeat'(first|refine aF ?_|fail)
    refine aX Tryz.func136 (kD (k:Int) (HH.out.ah HE.out)) (λr w1 hR=>?_)
    obtain⟨hE,f2,rfl,hC⟩:=hR
    replace HE:=Zh (Et HE.out hE)
    replace gY:=Zh (gY.out.ah hE)
    have kG:=Zh hC
    clear hE hC
    repeat'(first|refine aF ?_|fail)
    refine aX Tryz.func64 (iF p (HH.out.ah HE.out)) (λr w1 hR=>?_)
    obtain⟨hE,f3,rfl,hC⟩:=hR
    replace HE:=Zh (Et HE.out hE)
    replace gY:=Zh (gY.out.ah hE)
    replace kG:=Zh (kG.out.ah hE)
    have mZ:=Zh hC
    clear hE hC
    obtain⟨a,jg,hF⟩:=HH.out.ah HE.out
    obtain⟨u,hu⟩:=jg.ay HP.out
    rw[Int.toNat_natCast]at hu
    obtain⟨g,c,iZ,Dq,jT,hv⟩:=jg.lu.Bd hu
    obtain⟨hlt,-,-,-,-,-,c4⟩:=jg.cells
    rw[iZ]at c4
    have kS:k<a.ws.length:=(Ge hu).1
    have sZ:(k:Int)<a.ws.length:=by omega
    obtain⟨vM,yw⟩:=jg.parts _ _ hu
    dsimp only at vM yw
    have jq:=Zh vM
    have JV:=Zh yw
    have xH:=Zh iZ
    have HU:=Zh hu
    have HW:=Zh hv
    have HA:=Zh jg
    have HF:=Zh hF
    clear jg hF iZ hu hv vM yw
    obtain⟨lg,e0,e1,e2,e3,e4,e5⟩:=HW.out
    dsimp only at e0 e1 e2 e3 e4 e5
    repeat'(first|refine aN Tryz.func62 (dD (xs:=[(f1,false,1),(f2,!m.id (k:Int),2),(f3,!m.part p,2)]) (n:=0) (dW _ aS rfl (by unfold maxLen;simp)) (dF.cons (gY.out.ah (by simp)) (dF.cons (kG.out.ah (by simp)) (dF.cons (mZ.out.ah (by simp)) dF.nil))) (by simp[fA,HP.out,QF.out])) ?_|refine aF ?_|refine au ?_|refine ak (λK hK=>?_)|refine aj ?_|refine aG ?_|(refine dI (λx K hK=>?_);go_simp;refine hK _ _ (aB.alloc _ _) ?_;clear hK K;refine aZ x ?_;generalize (World.ah _ x).heap.size=bn;intro yn aU bD bC bG aS;clear x)|refine bJ ?_|go_step)
    clear gY kG mZ
    refine aX Tryz.func158 (qP (m.ay (k:Int)).parts u p _ ((dQ.Oj jq.out).rd.ah (by simp))) (λr w9 hR=>?_)
    obtain⟨OC,ix,rfl,Yn⟩:=hR
    have wV:aB w1 w9:=Et (by simp) OC
    replace HE:=Zh (Et HE.out wV)
    replace HA:=Zh (HA.out.ah wV)
    replace HW:=Zh (HW.out.ah wV)
    replace jq:=Zh (jq.out.ah wV)
    have SG:=Zh Yn
    clear OC wV Yn aU bD bC bG aS lg e0 e1 e2 e3 e4 e5 c4 hlt
    obtain⟨lg,e0,e1,e2,e3,e4,e5⟩:=HW.out
    dsimp only at e0 e1 e2 e3 e4 e5
    obtain rfl:ix= -1:=by
     rcases SG.out with h|⟨q,-,h⟩
     ·exact h.1
     ·exact absurd (List.mem_of_getElem? h) HMM.out
    repeat'(first|(refine pq ?_)|refine dw ?_|refine aF ?_|refine mg ?_|refine jF ?_|refine au ?_|refine ak (λK hK=>?_)|refine aj ?_|refine aC ?_|refine bH ?_|go_step)
    exact aA hd ⟨rfl,HH.out.jc HE.out⟩
   ·have hm:p∈(m.ay (k:Int)).parts:=Classical.byContradiction hm
    by_cases hb:m.busy (k:Int)=false
    ·have bT:m.kK (k:Int) num p=200:=by simp[aH.kK,jM.1,jM.2,hn,hm,hb]
     have bP:m.fO (k:Int) num p=m:=by simp[aH.fO,bT]
     rw[bT,bP]
     clear bT bP h jM hq
     have Iu:((m.ay (k:Int)).num==num)=true:=by simp[hn]
     have VH:Hid (((m.ay (k:Int)).state==3||(m.ay (k:Int)).state==4)=false):=Zh (by simpa [aH.busy] using hb)
     clear hb
     have HMM:=Zh hm
     clear hm
     refine Fi (n:=89) Tryz.func177 ?_;intro A hd hA;simp only[ix,Nat.reduceAdd]
     repeat'(first|refine aF ?_|refine au ?_|refine ak (λK hK=>?_)|refine aj ?_|go_step)
     refine aX Tryz.func63 (dK (c:=false) (λw' hE=>(HH.out.ah (Et (aB.refl _) hE)).some)) (λr w1 hR=>?_)
     obtain⟨hE,f1,rfl,hC⟩:=hR
     have HE:=Zh (hE)
     have gY:=Zh hC
     clear hE hC
     repeat'(first|refine aF ?_|fail)
     refine aX Tryz.func136 (kD (k:Int) (HH.out.ah HE.out)) (λr w1 hR=>?_)
     obtain⟨hE,f2,rfl,hC⟩:=hR
     replace HE:=Zh (Et HE.out hE)
     replace gY:=Zh (gY.out.ah hE)
     have kG:=Zh hC
     clear hE hC
     repeat'(first|refine aF ?_|fail)
     refine aX Tryz.func64 (iF p (HH.out.ah HE.out)) (λr w1 hR=>?_)
     obtain⟨hE,f3,rfl,hC⟩:=hR
     replace HE:=Zh (Et HE.out hE)
     replace gY:=Zh (gY.out.ah hE)
     replace kG:=Zh (kG.out.ah hE)
     have mZ:=Zh hC
     clear hE hC
     obtain⟨a,jg,hF⟩:=HH.out.ah HE.out
     obtain⟨u,hu⟩:=jg.ay HP.out
     rw[Int.toNat_natCast]at hu
     obtain⟨g,c,iZ,Dq,jT,hv⟩:=jg.lu.Bd hu
     obtain⟨hlt,-,-,-,-,-,c4⟩:=jg.cells
     rw[iZ]at c4
     have kS:k<a.ws.length:=(Ge hu).1
     have sZ:(k:Int)<a.ws.length:=by omega
     obtain⟨vM,yw⟩:=jg.parts _ _ hu
     dsimp only at vM yw
     have jq:=Zh vM
     have JV:=Zh yw
     have xH:=Zh iZ
     have HU:=Zh hu
     have HW:=Zh hv
     have HA:=Zh jg
     have HF:=Zh hF
     clear jg hF iZ hu hv vM yw
     obtain⟨lg,e0,e1,e2,e3,e4,e5⟩:=HW.out
     dsimp only at e0 e1 e2 e3 e4 e5
     repeat'(first|refine aN Tryz.func62 (dD (xs:=[(f1,false,1),(f2,!m.id (k:Int),2),(f3,!m.part p,2)]) (n:=0) (dW _ aS rfl (by unfold maxLen;simp)) (dF.cons (gY.out.ah (by simp)) (dF.cons (kG.out.ah (by simp)) (dF.cons (mZ.out.ah (by simp)) dF.nil))) (by simp[fA,HP.out,QF.out])) ?_|refine aF ?_|refine au ?_|refine ak (λK hK=>?_)|refine aj ?_|refine aG ?_|(refine dI (λx K hK=>?_);go_simp;refine hK _ _ (aB.alloc _ _) ?_;clear hK K;refine aZ x ?_;generalize (World.ah _ x).heap.size=bn;intro yn aU bD bC bG aS;clear x)|refine bJ ?_|go_step)
     clear gY kG mZ
     refine aX Tryz.func158 (qP (m.ay (k:Int)).parts u p _ ((dQ.Oj jq.out).rd.ah (by simp))) (λr w9 hR=>?_)
     obtain⟨OC,ix,rfl,Yn⟩:=hR
     have wV:aB w1 w9:=Et (by simp) OC
     replace HE:=Zh (Et HE.out wV)
     replace HA:=Zh (HA.out.ah wV)
     replace HW:=Zh (HW.out.ah wV)
     replace jq:=Zh (jq.out.ah wV)
     have SG:=Zh Yn
     clear OC wV Yn aU bD bC bG aS lg e0 e1 e2 e3 e4 e5 c4 hlt
     obtain⟨lg,e0,e1,e2,e3,e4,e5⟩:=HW.out
     dsimp only at e0 e1 e2 e3 e4 e5
     obtain⟨q,rfl,IZ⟩:∃ q:Nat,ix=q∧(m.ay (k:Int)).parts[q]? =some p:=by
      rcases SG.out with h|h
      ·exact absurd HMM.out h.2
      ·exact h
     have NC:=Zh IZ
     clear IZ
     have hq0:¬ (q:Int)<0:=by omega
     have hql:q<(m.ay (k:Int)).parts.length:=(Ge NC.out).1
     obtain⟨gp,cp,BM,hcp,Zj,-,-⟩:=dQ.at (enc:=xK) (k:=1) (λ_=>rfl) jq.out NC.out
     subst BM
     obtain⟨j,hj⟩:∃ j:Nat,j=q+1:=⟨_,rfl⟩
     have hqj:(q:Int)+1=(j:Int):=by omega
     have hjr:(j:Int)<9223372036854775808:=by omega
     have HJ:=Zh hj
     clear hj
     repeat'(first|refine dw ?_|refine aF ?_|refine au ?_|refine ak (λK hK=>?_)|refine aj ?_|go_step)
     refine aX Tryz.func145 (jL (x:=m.ay (k:Int)) HW.out) (λr w10 hR=>?_)
     obtain⟨EU,f9,rfl,hC⟩:=hR
     replace HE:=Zh (Et HE.out EU)
     replace HA:=Zh (HA.out.ah EU)
     replace HW:=Zh (HW.out.ah EU)
     replace jq:=Zh (jq.out.ah EU)
     have HC:=Zh hC
     clear EU hC lg e0 e1 e2 e3 e4 e5
     obtain⟨lg,e0,e1,e2,e3,e4,e5⟩:=HW.out
     dsimp only at e0 e1 e2 e3 e4 e5
     repeat'(first|refine fU Tryz.func62 (λ_=>dD (xs:=[(f9,(m.ay (k:Int)).state==3||(m.ay (k:Int)).state==4,203)]) (n:=0) (dW _ aS rfl (by unfold maxLen;simp)) (dF.cons (HC.out.ah (by simp)) dF.nil) (by simp[fA,VH.out])) ?_|refine dw ?_|refine aF ?_|refine au ?_|refine ak (λK hK=>?_)|refine aj ?_|refine aC ?_|(refine dI (λx K hK=>?_);go_simp;refine hK _ _ (aB.alloc _ _) ?_;clear hK K;refine aZ x ?_;generalize (World.ah _ x).heap.size=bn;intro yn aU bD bC bG aS;clear x)|refine bH ?_|go_step)
     exact aA hd ⟨rfl,HH.out.jc (Et HE.out (by simp))⟩
    ·have hb:m.busy (k:Int)=true:=by simpa using hb
     have bT:m.kK (k:Int) num p=0:=by simp[aH.kK,jM.1,jM.2,hn,hm,hb]
     have bP:m.fO (k:Int) num p=m.kC (k:Int) (m.nT (k:Int) p):=by simp[aH.fO,bT]
     have Fv:=IY h.bU (k:Int) num p
     rw[bP]at Fv
     rw[bT,bP]
     have HG:=Zh (h.bU.ay jM.1)
     have Qc:=Zh Fv
     clear bT bP Fv h jM hq
     have Iu:((m.ay (k:Int)).num==num)=true:=by simp[hn]
     have VH:Hid (((m.ay (k:Int)).state==3||(m.ay (k:Int)).state==4)=true):=Zh (by simpa [aH.busy] using hb)
     clear hb
     have HMM:=Zh hm
     clear hm
     refine Fi (n:=89) Tryz.func177 ?_;intro A hd hA;simp only[ix,Nat.reduceAdd]
     repeat'(first|refine aF ?_|refine au ?_|refine ak (λK hK=>?_)|refine aj ?_|go_step)
     refine aX Tryz.func63 (dK (c:=false) (λw' hE=>(HH.out.ah (Et (aB.refl _) hE)).some)) (λr w1 hR=>?_)
     obtain⟨hE,f1,rfl,hC⟩:=hR
     have HE:=Zh (hE)
     have gY:=Zh hC
     clear hE hC
     repeat'(first|refine aF ?_|fail)
     refine aX Tryz.func136 (kD (k:Int) (HH.out.ah HE.out)) (λr w1 hR=>?_)
     obtain⟨hE,f2,rfl,hC⟩:=hR
     replace HE:=Zh (Et HE.out hE)
     replace gY:=Zh (gY.out.ah hE)
     have kG:=Zh hC
     clear hE hC
     repeat'(first|refine aF ?_|fail)
     refine aX Tryz.func64 (iF p (HH.out.ah HE.out)) (λr w1 hR=>?_)
     obtain⟨hE,f3,rfl,hC⟩:=hR
     replace HE:=Zh (Et HE.out hE)
     replace gY:=Zh (gY.out.ah hE)
     replace kG:=Zh (kG.out.ah hE)
     have mZ:=Zh hC
     clear hE hC
     obtain⟨a,jg,hF⟩:=HH.out.ah HE.out
     obtain⟨u,hu⟩:=jg.ay HP.out
     rw[Int.toNat_natCast]at hu
     obtain⟨g,c,iZ,Dq,jT,hv⟩:=jg.lu.Bd hu
     obtain⟨hlt,-,-,-,-,-,c4⟩:=jg.cells
     rw[iZ]at c4
     have kS:k<a.ws.length:=(Ge hu).1
     have sZ:(k:Int)<a.ws.length:=by omega
     obtain⟨vM,yw⟩:=jg.parts _ _ hu
     dsimp only at vM yw
     have jq:=Zh vM
     have JV:=Zh yw
     have xH:=Zh iZ
     have HU:=Zh hu
     have HW:=Zh hv
     have HA:=Zh jg
     have HF:=Zh hF
     clear jg hF iZ hu hv vM yw
     obtain⟨lg,e0,e1,e2,e3,e4,e5⟩:=HW.out
     dsimp only at e0 e1 e2 e3 e4 e5
     repeat'(first|refine aN Tryz.func62 (dD (xs:=[(f1,false,1),(f2,!m.id (k:Int),2),(f3,!m.part p,2)]) (n:=0) (dW _ aS rfl (by unfold maxLen;simp)) (dF.cons (gY.out.ah (by simp)) (dF.cons (kG.out.ah (by simp)) (dF.cons (mZ.out.ah (by simp)) dF.nil))) (by simp[fA,HP.out,QF.out])) ?_|refine aF ?_|refine au ?_|refine ak (λK hK=>?_)|refine aj ?_|refine aG ?_|(refine dI (λx K hK=>?_);go_simp;refine hK _ _ (aB.alloc _ _) ?_;clear hK K;refine aZ x ?_;generalize (World.ah _ x).heap.size=bn;intro yn aU bD bC bG aS;clear x)|refine bJ ?_|go_step)
     clear gY kG mZ
     refine aX Tryz.func158 (qP (m.ay (k:Int)).parts u p _ ((dQ.Oj jq.out).rd.ah (by simp))) (λr w9 hR=>?_)
     obtain⟨OC,ix,rfl,Yn⟩:=hR
     have wV:aB w1 w9:=Et (by simp) OC
     replace HE:=Zh (Et HE.out wV)
     replace HA:=Zh (HA.out.ah wV)
     replace HW:=Zh (HW.out.ah wV)
     replace jq:=Zh (jq.out.ah wV)
     have SG:=Zh Yn
     clear OC wV Yn aU bD bC bG aS lg e0 e1 e2 e3 e4 e5 c4 hlt
     obtain⟨lg,e0,e1,e2,e3,e4,e5⟩:=HW.out
     dsimp only at e0 e1 e2 e3 e4 e5
     obtain⟨q,rfl,IZ⟩:∃ q:Nat,ix=q∧(m.ay (k:Int)).parts[q]? =some p:=by
      rcases SG.out with h|h
      ·exact absurd HMM.out h.2
      ·exact h
     have NC:=Zh IZ
     clear IZ
     have hq0:¬ (q:Int)<0:=by omega
     have hql:q<(m.ay (k:Int)).parts.length:=(Ge NC.out).1
     obtain⟨gp,cp,BM,hcp,Zj,-,-⟩:=dQ.at (enc:=xK) (k:=1) (λ_=>rfl) jq.out NC.out
     subst BM
     obtain⟨j,hj⟩:∃ j:Nat,j=q+1:=⟨_,rfl⟩
     have hqj:(q:Int)+1=(j:Int):=by omega
     have hjr:(j:Int)<9223372036854775808:=by omega
     have HJ:=Zh hj
     clear hj
     repeat'(first|refine dw ?_|refine aF ?_|refine au ?_|refine ak (λK hK=>?_)|refine aj ?_|go_step)
     refine aX Tryz.func145 (jL (x:=m.ay (k:Int)) HW.out) (λr w10 hR=>?_)
     obtain⟨EU,f9,rfl,hC⟩:=hR
     replace HE:=Zh (Et HE.out EU)
     replace HA:=Zh (HA.out.ah EU)
     replace HW:=Zh (HW.out.ah EU)
     replace jq:=Zh (jq.out.ah EU)
     have HC:=Zh hC
     clear EU hC lg e0 e1 e2 e3 e4 e5
     obtain⟨lg,e0,e1,e2,e3,e4,e5⟩:=HW.out
     dsimp only at e0 e1 e2 e3 e4 e5
     repeat'(first|refine fU Tryz.func62 (λ_=>dD (xs:=[(f9,(m.ay (k:Int)).state==3||(m.ay (k:Int)).state==4,203)]) (n:=203) (dW _ aS rfl (by unfold maxLen;simp)) (dF.cons (HC.out.ah (by simp)) dF.nil) (by simp[fA,VH.out])) ?_|refine dw ?_|refine aF ?_|refine au ?_|refine ak (λK hK=>?_)|refine aj ?_|refine aG ?_|(refine dI (λx K hK=>?_);go_simp;refine hK _ _ (aB.alloc _ _) ?_;clear hK K;refine aZ x ?_;generalize (World.ah _ x).heap.size=bn;intro yn aU bD bC bG aS;clear x)|refine bJ ?_|go_step)
     have fE:aB w10 (w10.ah yn):=by simp
     generalize World.ah w10 yn=V0 at *
     replace HE:=Zh (Et HE.out fE)
     replace HA:=Zh (HA.out.ah fE)
     replace HW:=Zh (HW.out.ah fE)
     replace jq:=Zh (jq.out.ah fE)
     clear fE aU bD bC bG aS lg e0 e1 e2 e3 e4 e5
     refine aX Tryz.func159 (ET jq.out hql HJ.out hcp Zj) (λr V1 hR=>?_)
     obtain⟨rfl,fM,Ba⟩:=hR
     have Ic:=JV.out gp rfl
     have Zk:=HA.out.tW g (by rw[xH.out];rfl)
     have rM:gp≠g:=λe=>by rw[e]at Ic;omega
     have QO:=HW.out.aW fM (λe=>rM e.symm)
     have hL0:=HA.out.lu
     rw[xH.out]at hL0
     have hL1:=hL0.aW fM (λq' nG e=>by cases nG;exact rM e.symm)
     have EW:Hid (ig V1 (.slice (some ⟨gp,0,none⟩) ((m.ay (k:Int)).parts.length-1) cp) ((m.ay (k:Int)).parts.eraseIdx q)):=Zh Ba
     have HM:Hid (bF (λq'=>q'=g∨q'=gp) V0 V1):=Zh (bF.mono fM (λq' _ h=>.inr h))
     have HO:Hid (dQ Za 6 148 V1 (.slice (some ⟨g,0,none⟩) a.ws.length c) (a.ws.set k (m.ay (k:Int),.slice (some ⟨gp,0,none⟩) (m.ay (k:Int)).parts.length cp))):=Zh (by rw[uJ HU.out];exact hL1)
     clear fM Ba hL0 hL1 QO
     have hlz:((m.ay (k:Int)).parts.eraseIdx q).length=(m.ay (k:Int)).parts.length-1:=by rw[List.length_eraseIdx,if_pos hql]
     generalize hN:(m.ay (k:Int)).parts.length-1=N at *
     have HN:=Zh hN
     have HLZ:=Zh hlz
     clear hN hlz
     obtain⟨g',c',jf,-,-,hw⟩:=HO.out.Bd (List.getElem?_set_self kS)
     simp only[List.length_set]at jf
     cases jf
     obtain⟨lg,e0,e1,e2,e3,e4,e5⟩:=hw
     try dsimp only at e0 e1 e2 e3 e4 e5
     repeat'(first|refine aF ?_|fail)
     refine kN (v:=.slice (some ⟨gp,0,none⟩) N cp) k 3 (m.ay (k:Int),.slice (some ⟨gp,0,none⟩) (m.ay (k:Int)).parts.length cp) ((⟨(m.ay (k:Int)).session,(m.ay (k:Int)).num,(m.ay (k:Int)).state,(m.ay (k:Int)).parts.eraseIdx q,(m.ay (k:Int)).offset,(m.ay (k:Int)).next⟩:bW),Value.slice (some ⟨gp,0,none⟩) N cp) HO.out (List.getElem?_set_self kS) (λ_=>rfl) (by simp[Value.cells]) (by intro j' u' h;have hj:j'<6:=(Ge h).1;rcases(show j'=0∨j'=1∨j'=2∨j'=3∨j'=4∨j'=5 by omega) with rfl|rfl|rfl|rfl|rfl|rfl<;>simpa [Value.cells] using h) (λWN hM hO=>?_)
     clear lg e0 e1 e2 e3 e4 e5
     rw[List.set_set]at hO
     replace HO:=Zh hO
     replace HM:=Zh (bF.trans HM.out hM (H:=λq'=>q'=g∨q'=gp) (λ_ _ h=>h) (λq _ h=>.inl h))
     replace EW:=Zh (EW.out.aW hM (λq' nG e=>by cases nG;exact rM e))
     clear hM hO
     obtain⟨g',c',jf,-,-,hw⟩:=HO.out.Bd (List.getElem?_set_self kS)
     simp only[List.length_set]at jf
     cases jf
     obtain⟨lg,e0,e1,e2,e3,e4,e5⟩:=hw
     try dsimp only at e0 e1 e2 e3 e4 e5
     by_cases hz:N=0
     ·subst hz
      have hpe:(m.ay (k:Int)).parts.eraseIdx q=[]:=List.length_eq_zero_iff.1 HLZ.out
      have HPE:=Zh hpe
      clear hpe
      by_cases hs:(m.ay (k:Int)).state=3
      ·have hs3:((m.ay (k:Int)).state==3)=true:=by simp[hs]
       have HS3:=Zh hs
       clear hs
       repeat'(first|refine aF ?_|refine au ?_|refine ak (λK hK=>?_)|refine aj ?_|refine bH ?_|go_step)
       refine kN (v:=.int .i64 (m.ay (k:Int)).next) k 4 ((⟨(m.ay (k:Int)).session,(m.ay (k:Int)).num,(m.ay (k:Int)).state,(m.ay (k:Int)).parts.eraseIdx q,(m.ay (k:Int)).offset,(m.ay (k:Int)).next⟩:bW),Value.slice (some ⟨gp,0,none⟩) 0 cp) ((⟨(m.ay (k:Int)).session,(m.ay (k:Int)).num,(m.ay (k:Int)).state,(m.ay (k:Int)).parts.eraseIdx q,(m.ay (k:Int)).next,(m.ay (k:Int)).next⟩:bW),Value.slice (some ⟨gp,0,none⟩) 0 cp) HO.out (List.getElem?_set_self kS) (λ_=>rfl) (by simp[Value.cells]) (by intro j' u' h;have hj:j'<6:=(Ge h).1;rcases(show j'=0∨j'=1∨j'=2∨j'=3∨j'=4∨j'=5 by omega) with rfl|rfl|rfl|rfl|rfl|rfl<;>simpa [Value.cells] using h) (λWN hM hO=>?_)
       clear lg e0 e1 e2 e3 e4 e5
       rw[List.set_set]at hO
       replace HO:=Zh hO
       replace HM:=Zh (bF.trans HM.out hM (H:=λq'=>q'=g∨q'=gp) (λ_ _ h=>h) (λq _ h=>.inl h))
       replace EW:=Zh (EW.out.aW hM (λq' nG e=>by cases nG;exact rM e))
       clear hM hO
       obtain⟨g',c',jf,-,-,hw⟩:=HO.out.Bd (List.getElem?_set_self kS)
       simp only[List.length_set]at jf
       cases jf
       obtain⟨lg,e0,e1,e2,e3,e4,e5⟩:=hw
       try dsimp only at e0 e1 e2 e3 e4 e5
       repeat'(first|refine aF ?_|refine au ?_|refine aj ?_|go_step)
       refine kN (v:=.int .i64 1) k 2 ((⟨(m.ay (k:Int)).session,(m.ay (k:Int)).num,(m.ay (k:Int)).state,(m.ay (k:Int)).parts.eraseIdx q,(m.ay (k:Int)).next,(m.ay (k:Int)).next⟩:bW),Value.slice (some ⟨gp,0,none⟩) 0 cp) ((⟨(m.ay (k:Int)).session,(m.ay (k:Int)).num,1,(m.ay (k:Int)).parts.eraseIdx q,(m.ay (k:Int)).next,(m.ay (k:Int)).next⟩:bW),Value.slice (some ⟨gp,0,none⟩) 0 cp) HO.out (List.getElem?_set_self kS) (λ_=>rfl) (by simp[Value.cells]) (by intro j' u' h;have hj:j'<6:=(Ge h).1;rcases(show j'=0∨j'=1∨j'=2∨j'=3∨j'=4∨j'=5 by omega) with rfl|rfl|rfl|rfl|rfl|rfl<;>simpa [Value.cells] using h) (λWN hM hO=>?_)
       clear lg e0 e1 e2 e3 e4 e5
       rw[List.set_set]at hO
       replace HO:=Zh hO
       replace HM:=Zh (bF.trans HM.out hM (H:=λq'=>q'=g∨q'=gp) (λ_ _ h=>h) (λq _ h=>.inl h))
       replace EW:=Zh (EW.out.aW hM (λq' nG e=>by cases nG;exact rM e))
       clear hM hO
       obtain⟨g',c',jf,-,-,hw⟩:=HO.out.Bd (List.getElem?_set_self kS)
       simp only[List.length_set]at jf
       cases jf
       obtain⟨lg,e0,e1,e2,e3,e4,e5⟩:=hw
       try dsimp only at e0 e1 e2 e3 e4 e5
       repeat'(first|refine aF ?_|fail)
       refine kN (v:=.int .i64 0) k 5 ((⟨(m.ay (k:Int)).session,(m.ay (k:Int)).num,1,(m.ay (k:Int)).parts.eraseIdx q,(m.ay (k:Int)).next,(m.ay (k:Int)).next⟩:bW),Value.slice (some ⟨gp,0,none⟩) 0 cp) ((⟨(m.ay (k:Int)).session,(m.ay (k:Int)).num,1,(m.ay (k:Int)).parts.eraseIdx q,(m.ay (k:Int)).next,0⟩:bW),Value.slice (some ⟨gp,0,none⟩) 0 cp) HO.out (List.getElem?_set_self kS) (λ_=>rfl) (by simp[Value.cells]) (by intro j' u' h;have hj:j'<6:=(Ge h).1;rcases(show j'=0∨j'=1∨j'=2∨j'=3∨j'=4∨j'=5 by omega) with rfl|rfl|rfl|rfl|rfl|rfl<;>simpa [Value.cells] using h) (λWN hM hO=>?_)
       clear lg e0 e1 e2 e3 e4 e5
       rw[List.set_set]at hO
       replace HO:=Zh hO
       replace HM:=Zh (bF.trans HM.out hM (H:=λq'=>q'=g∨q'=gp) (λ_ _ h=>h) (λq _ h=>.inl h))
       replace EW:=Zh (EW.out.aW hM (λq' nG e=>by cases nG;exact rM e))
       clear hM hO
       obtain⟨g',c',jf,-,-,hw⟩:=HO.out.Bd (List.getElem?_set_self kS)
       simp only[List.length_set]at jf
       cases jf
       obtain⟨lg,e0,e1,e2,e3,e4,e5⟩:=hw
       try dsimp only at e0 e1 e2 e3 e4 e5
       repeat'(first|refine aF ?_|refine au ?_|refine ak (λK hK=>?_)|refine aj ?_|refine aC ?_|go_step)
       have Yo:m.nT (k:Int) p=⟨(m.ay (k:Int)).session,(m.ay (k:Int)).num,1,(m.ay (k:Int)).parts.eraseIdx q,(m.ay (k:Int)).next,0⟩:=by
        unfold aH.nT
        rw[←qE _ q p HG.out.rise NC.out]
        dsimp only
        rw[if_pos HPE.out,if_pos HS3.out]
       have lU:kU m.form (m.nT (k:Int) p):=by
        have hw:=HA.out.DT
        have Ym:=HA.out.bU.DT
        exact Qc.out.eY _ (List.mem_of_getElem? (i:=k) (by
         show (m.eY.set ((k:Int)).toNat _)[k]? =_
         rw[Int.toNat_natCast]
         exact List.getElem?_set_self (by omega)))
       have QU:=HA.out.afL (i:=(k:Int)) (v:=m.nT (k:Int) p) (u:=.slice (some ⟨gp,0,none⟩) 0 cp) (T:=a.T) HP.out lU HM.out (λq' _ h4 h16 hg=>by
         rcases hg with rfl|rfl
         ·exact h4 Zk
         ·rw[Int.toNat_natCast]at h16;exact h16 Ic) (by rw[Int.toNat_natCast,xH.out,Yo];exact HO.out) (by rw[Yo];exact EW.out) (λ_ _=>rfl) (λq' nG=>by cases nG;rw[Int.toNat_natCast];exact Ic) (λq' nG=>Nat.lt_of_lt_of_le (HA.out.lt q' nG) HM.out.size)
       exact aA hd ⟨rfl,QU.to HE.out HM.out (λq' _ hg=>HF.out _ (by rcases hg with rfl|rfl<;>omega)) (λq' nG=>.inl (HF.out q' nG))⟩
      ·have hs3:((m.ay (k:Int)).state==3)=false:=by simp[hs]
       have HS3:=Zh hs
       clear hs
       repeat'(first|refine aF ?_|refine au ?_|refine ak (λK hK=>?_)|refine aj ?_|refine aG ?_|refine bH ?_|refine bJ ?_|go_step)
       refine kN (v:=.int .i64 1) k 2 ((⟨(m.ay (k:Int)).session,(m.ay (k:Int)).num,(m.ay (k:Int)).state,(m.ay (k:Int)).parts.eraseIdx q,(m.ay (k:Int)).offset,(m.ay (k:Int)).next⟩:bW),Value.slice (some ⟨gp,0,none⟩) 0 cp) ((⟨(m.ay (k:Int)).session,(m.ay (k:Int)).num,1,(m.ay (k:Int)).parts.eraseIdx q,(m.ay (k:Int)).offset,(m.ay (k:Int)).next⟩:bW),Value.slice (some ⟨gp,0,none⟩) 0 cp) HO.out (List.getElem?_set_self kS) (λ_=>rfl) (by simp[Value.cells]) (by intro j' u' h;have hj:j'<6:=(Ge h).1;rcases(show j'=0∨j'=1∨j'=2∨j'=3∨j'=4∨j'=5 by omega) with rfl|rfl|rfl|rfl|rfl|rfl<;>simpa [Value.cells] using h) (λWN hM hO=>?_)
       clear lg e0 e1 e2 e3 e4 e5
       rw[List.set_set]at hO
       replace HO:=Zh hO
       replace HM:=Zh (bF.trans HM.out hM (H:=λq'=>q'=g∨q'=gp) (λ_ _ h=>h) (λq _ h=>.inl h))
       replace EW:=Zh (EW.out.aW hM (λq' nG e=>by cases nG;exact rM e))
       clear hM hO
       obtain⟨g',c',jf,-,-,hw⟩:=HO.out.Bd (List.getElem?_set_self kS)
       simp only[List.length_set]at jf
       cases jf
       obtain⟨lg,e0,e1,e2,e3,e4,e5⟩:=hw
       try dsimp only at e0 e1 e2 e3 e4 e5
       repeat'(first|refine aF ?_|fail)
       refine kN (v:=.int .i64 0) k 5 ((⟨(m.ay (k:Int)).session,(m.ay (k:Int)).num,1,(m.ay (k:Int)).parts.eraseIdx q,(m.ay (k:Int)).offset,(m.ay (k:Int)).next⟩:bW),Value.slice (some ⟨gp,0,none⟩) 0 cp) ((⟨(m.ay (k:Int)).session,(m.ay (k:Int)).num,1,(m.ay (k:Int)).parts.eraseIdx q,(m.ay (k:Int)).offset,0⟩:bW),Value.slice (some ⟨gp,0,none⟩) 0 cp) HO.out (List.getElem?_set_self kS) (λ_=>rfl) (by simp[Value.cells]) (by intro j' u' h;have hj:j'<6:=(Ge h).1;rcases(show j'=0∨j'=1∨j'=2∨j'=3∨j'=4∨j'=5 by omega) with rfl|rfl|rfl|rfl|rfl|rfl<;>simpa [Value.cells] using h) (λWN hM hO=>?_)
       clear lg e0 e1 e2 e3 e4 e5
       rw[List.set_set]at hO
       replace HO:=Zh hO
       replace HM:=Zh (bF.trans HM.out hM (H:=λq'=>q'=g∨q'=gp) (λ_ _ h=>h) (λq _ h=>.inl h))
       replace EW:=Zh (EW.out.aW hM (λq' nG e=>by cases nG;exact rM e))
       clear hM hO
       obtain⟨g',c',jf,-,-,hw⟩:=HO.out.Bd (List.getElem?_set_self kS)
       simp only[List.length_set]at jf
       cases jf
       obtain⟨lg,e0,e1,e2,e3,e4,e5⟩:=hw
       try dsimp only at e0 e1 e2 e3 e4 e5
       repeat'(first|refine aF ?_|refine au ?_|refine ak (λK hK=>?_)|refine aj ?_|refine aC ?_|go_step)
       have Yo:m.nT (k:Int) p=⟨(m.ay (k:Int)).session,(m.ay (k:Int)).num,1,(m.ay (k:Int)).parts.eraseIdx q,(m.ay (k:Int)).offset,0⟩:=by
        unfold aH.nT
        rw[←qE _ q p HG.out.rise NC.out]
        dsimp only
        rw[if_pos HPE.out,if_neg HS3.out]
       have lU:kU m.form (m.nT (k:Int) p):=by
        have hw:=HA.out.DT
        have Ym:=HA.out.bU.DT
        exact Qc.out.eY _ (List.mem_of_getElem? (i:=k) (by
         show (m.eY.set ((k:Int)).toNat _)[k]? =_
         rw[Int.toNat_natCast]
         exact List.getElem?_set_self (by omega)))
       have QU:=HA.out.afL (i:=(k:Int)) (v:=m.nT (k:Int) p) (u:=.slice (some ⟨gp,0,none⟩) 0 cp) (T:=a.T) HP.out lU HM.out (λq' _ h4 h16 hg=>by
         rcases hg with rfl|rfl
         ·exact h4 Zk
         ·rw[Int.toNat_natCast]at h16;exact h16 Ic) (by rw[Int.toNat_natCast,xH.out,Yo];exact HO.out) (by rw[Yo];exact EW.out) (λ_ _=>rfl) (λq' nG=>by cases nG;rw[Int.toNat_natCast];exact Ic) (λq' nG=>Nat.lt_of_lt_of_le (HA.out.lt q' nG) HM.out.size)
       exact aA hd ⟨rfl,QU.to HE.out HM.out (λq' _ hg=>HF.out _ (by rcases hg with rfl|rfl<;>omega)) (λq' nG=>.inl (HF.out q' nG))⟩
     ·have Xp:((N:Int)==0)=false:=by rw[beq_eq_false_iff_ne];omega
      have UR:¬ (N:Int)=0:=by omega
      repeat'(first|refine aF ?_|refine au ?_|refine ak (λK hK=>?_)|refine aj ?_|refine aC ?_|refine aG ?_|refine bJ ?_|go_step)
      have Yo:m.nT (k:Int) p=⟨(m.ay (k:Int)).session,(m.ay (k:Int)).num,(m.ay (k:Int)).state,(m.ay (k:Int)).parts.eraseIdx q,(m.ay (k:Int)).offset,(m.ay (k:Int)).next⟩:=by
       unfold aH.nT
       rw[←qE _ q p HG.out.rise NC.out]
       dsimp only
       rw[if_neg (λe=>hz (by rw[←HLZ.out,e];rfl))]
      have lU:kU m.form (m.nT (k:Int) p):=by
       have hw:=HA.out.DT
       have Ym:=HA.out.bU.DT
       exact Qc.out.eY _ (List.mem_of_getElem? (i:=k) (by
        show (m.eY.set ((k:Int)).toNat _)[k]? =_
        rw[Int.toNat_natCast]
        exact List.getElem?_set_self (by omega)))
      have QU:=HA.out.afL (i:=(k:Int)) (v:=m.nT (k:Int) p) (u:=.slice (some ⟨gp,0,none⟩) N cp) (T:=a.T) HP.out lU HM.out (λq' _ h4 h16 hg=>by
        rcases hg with rfl|rfl
        ·exact h4 Zk
        ·rw[Int.toNat_natCast]at h16;exact h16 Ic) (by rw[Int.toNat_natCast,xH.out,Yo];exact HO.out) (by rw[Yo];exact EW.out) (λ_ _=>rfl) (λq' nG=>by cases nG;rw[Int.toNat_natCast];exact Ic) (λq' nG=>Nat.lt_of_lt_of_le (HA.out.lt q' nG) HM.out.size)
      exact aA hd ⟨rfl,QU.to HE.out HM.out (λq' _ hg=>HF.out _ (by rcases hg with rfl|rfl<;>omega)) (λq' nG=>.inl (HF.out q' nG))⟩
 ·have hq:(m.id i&&m.part p)=false:=by simpa using hq
  have bT:m.kK i num p=2:=by simp[aH.kK,hq]
  have bP:m.fO i num p=m:=by simp[aH.fO,bT]
  rw[bT,bP]
  have HQ:=Zh hq
  clear bT bP h hq
  refine Fi (n:=89) Tryz.func177 ?_;intro A hd hA;simp only[ix,Nat.reduceAdd]
  repeat'(first|refine aF ?_|refine au ?_|refine ak (λK hK=>?_)|refine aj ?_|go_step)
  refine aX Tryz.func63 (dK (c:=false) (λw' hE=>(HH.out.ah (Et (aB.refl _) hE)).some)) (λr w1 hR=>?_)
  obtain⟨hE,f1,rfl,hC⟩:=hR
  have HE:=Zh (hE)
  have gY:=Zh hC
  clear hE hC
  repeat'(first|refine aF ?_|fail)
  refine aX Tryz.func136 (kD i (HH.out.ah HE.out)) (λr w1 hR=>?_)
  obtain⟨hE,f2,rfl,hC⟩:=hR
  replace HE:=Zh (Et HE.out hE)
  replace gY:=Zh (gY.out.ah hE)
  have kG:=Zh hC
  clear hE hC
  repeat'(first|refine aF ?_|fail)
  refine aX Tryz.func64 (iF p (HH.out.ah HE.out)) (λr w1 hR=>?_)
  obtain⟨hE,f3,rfl,hC⟩:=hR
  replace HE:=Zh (Et HE.out hE)
  replace gY:=Zh (gY.out.ah hE)
  replace kG:=Zh (kG.out.ah hE)
  have mZ:=Zh hC
  clear hE hC
  have D7:fA [(f1,false,1),(f2,!m.id i,2),(f3,!m.part p,2)]=2:=by
   have h:=HQ.out
   simp only[fA]
   cases h1:m.id i<;>cases h2:m.part p<;>simp_all
  have HCK:=Zh D7
  clear D7
  repeat'(first|refine aN Tryz.func62 (dD (xs:=[(f1,false,1),(f2,!m.id i,2),(f3,!m.part p,2)]) (n:=2) (dW _ aS rfl (by unfold maxLen;simp)) (dF.cons (gY.out.ah (by simp)) (dF.cons (kG.out.ah (by simp)) (dF.cons (mZ.out.ah (by simp)) dF.nil))) (HCK.out)) ?_|refine aF ?_|refine au ?_|refine ak (λK hK=>?_)|refine aj ?_|refine aC ?_|(refine dI (λx K hK=>?_);go_simp;refine hK _ _ (aB.alloc _ _) ?_;clear hK K;refine aZ x ?_;generalize (World.ah _ x).heap.size=bn;intro yn aU bD bC bG aS;clear x)|refine bH ?_|go_step)
  clear gY kG mZ
  exact aA hd ⟨rfl,HH.out.jc (Et HE.out (by simp))⟩
theorem aeN {w:World} {b:Nat} {cs:Array Value} (xs:List Int) (hb:Hid (w.heap[b]? =some (.cells cs 3))) (vV:cs.toList=xs.flatMap xK) (hm:xs.length≤maxLen):ig w (.slice (some ⟨b,0,none⟩) xs.length xs.length) xs:=by
 refine⟨eH (enc:=xK) (k:=1) (λ_=>rfl) _,.inr ⟨b,xs.length,cs,rfl,Nat.zero_le _,hb.out,Nat.le_refl _,hm,?_,?_⟩⟩
 ·rw[←Array.length_toList,vV,eH (enc:=xK) (k:=1) (λ_=>rfl)]
 ·rw[vV,←eH (enc:=xK) (k:=1) (λ_=>rfl) xs];exact List.take_length
theorem CG {w:World} {b b0 b1:Nat} {F:Nat→Prop} {m:aH} {k:Nat} (h:gX w b F m) (hx:m.aV (k:Int)=true) (h0:kH w b0 (.pointer (some ⟨b,0,none⟩))) (h1:kH w b1 (.int .i64 (k:Int))):Pure Tryz.prog 156 #[.pointer (some ⟨b0,0,none⟩),.pointer (some ⟨b1,0,none⟩)] w (.bool (!m.sG (k:Int))):=by
 obtain⟨a,hA,-⟩:=h
 obtain⟨l0,x0⟩:=h0
 obtain⟨l1,x1⟩:=h1
 have hlv:=hA.sG hx
 rw[Int.toNat_natCast]at hlv
 obtain⟨g,c,iZ,Dq,jT,Ib,iK⟩:=dQ.at (enc:=UQ) (k:=1) (λ_=>rfl) hA.lives hlv
 obtain⟨hlt,-,-,-,c3,-⟩:=hA.cells
 rw[iZ]at c3
 have d0:=iK 0 _ rfl
 rw[Nat.mul_one,Nat.add_zero]at d0
 have kS:k<m.lives.length:=(Ge hlv).1
 have sZ:(k:Int)<m.lives.length:=by omega
 clear hA iK hlv iZ hx
 refine Fi (n:=11) Tryz.func156 ?_;intro A hd hA;simp only[ix,Nat.reduceAdd]
 repeat'(first|refine aF ?_|refine au ?_|refine ak (λK hK=>?_)|refine aj ?_|go_step)
 refine dA (by kernel_rfl) (by kernel_rfl) ?_
 repeat'(first|refine aF ?_|refine aQ ?_|refine aC ?_|go_step)
 exact aA hd ⟨rfl,by simp⟩
theorem CJ {w:World} {b0 b1 b2 g o:Nat} {v:dL} {u:Value} {x:Int} {uc:Bool} (h0:kH w b0 (.bool uc)) (h1:kH w b1 (.pointer (some ⟨g,o,none⟩))) (h2:kH w b2 (.int .i64 x)) (hv:VAt w g o v u) (hr:BU w u v.isr):Pure Tryz.prog 157 #[.pointer (some ⟨b0,0,none⟩),.pointer (some ⟨b1,0,none⟩),.pointer (some ⟨b2,0,none⟩)] w (.bool (!(uc||decide (x∈v.isr)))):=by
 obtain⟨l0,x0⟩:=h0
 obtain⟨l1,x1⟩:=h1
 obtain⟨l2,x2⟩:=h2
 obtain⟨lg,d0,d1,d2,d3⟩:=hv
 have HR:=Zh hr
 obtain⟨A0,c,rfl,-⟩:=hr.int
 clear hr
 cases uc
 ·by_cases hx:x∈v.isr
  ·have e:(!(false||decide (x∈v.isr)))=false:=by simp[hx]
   rw[e]
   have HX:Hid (decide (x∈v.isr)=true):=Zh (by simp[hx])
   clear e hx
   refine Fi (n:=15) Tryz.func157 ?_;intro A hd hA;simp only[ix,Nat.reduceAdd]
   repeat'(first|refine aF ?_|refine au ?_|refine ak (λK hK=>?_)|refine aj ?_|go_step)
   refine dn [(0,0),(1,0),(2,0),(3,0),(4,0),(5,0),(6,0),(7,0),(8,1),(9,0),(10,0),(11,0)] (by kernel_rfl) (by kernel_rfl) ?_
   repeat'(first|(refine dN Tryz.func148 (λz=>HX.out▸eX v.isr _ x _ (HR.out.ah (by simp))) ?_)|refine dw ?_|refine aF ?_|refine aQ ?_|refine aC ?_|go_step)
   exact aA hd ⟨rfl,by simp⟩
  ·have e:(!(false||decide (x∈v.isr)))=true:=by simp[hx]
   rw[e]
   have HX:Hid (decide (x∈v.isr)=false):=Zh (by simp[hx])
   clear e hx
   refine Fi (n:=15) Tryz.func157 ?_;intro A hd hA;simp only[ix,Nat.reduceAdd]
   repeat'(first|refine aF ?_|refine au ?_|refine ak (λK hK=>?_)|refine aj ?_|go_step)
   refine dn [(0,0),(1,0),(2,0),(3,0),(4,0),(5,0),(6,0),(7,0),(8,1),(9,0),(10,0),(11,0)] (by kernel_rfl) (by kernel_rfl) ?_
   repeat'(first|(refine dN Tryz.func148 (λz=>HX.out▸eX v.isr _ x _ (HR.out.ah (by simp))) ?_)|refine dw ?_|refine aF ?_|refine aQ ?_|refine aC ?_|go_step)
   exact aA hd ⟨rfl,by simp⟩
 ·have e:(!(true||decide (x∈v.isr)))=false:=by simp
  rw[e]
  refine Fi (n:=15) Tryz.func157 ?_;intro A hd hA;simp only[ix,Nat.reduceAdd]
  repeat'(first|refine aF ?_|refine au ?_|refine ak (λK hK=>?_)|refine aj ?_|go_step)
  refine dn [(0,0),(1,0),(2,0),(3,0),(4,0),(5,0),(6,0),(7,0),(8,1),(9,0),(10,0),(11,0)] (by kernel_rfl) (by kernel_rfl) ?_
  repeat'(first|(refine pq ?_)|refine aF ?_|refine mg ?_|refine jF ?_|refine aQ ?_|refine aC ?_|go_step)
  exact aA hd ⟨rfl,by simp⟩
theorem Ie {m:aH} {p x:Int} {uc:Bool} {f4 f5 f6:Value} {a1 a2:Addr} (hp:m.part p=true) (hx:m.aV x=true):fA [(f4,!m.sG x,201),(f5,!(uc||decide (x∈(m.view p).isr)),202),(f6,[(a1,(m.view p).epoch),(a2,(m.view p).version)].any λx=>decide (bQ≤x.2),204)]=m.oJ p x uc:=by
 have e:([(a1,(m.view p).epoch),(a2,(m.view p).version)].any λx=>decide (bQ≤x.2))=decide (bQ≤(m.view p).epoch∨bQ≤(m.view p).version):=by
  simp[List.any_cons,Bool.decide_or]
 rw[e]
 have e2:(m.part p&&m.aV x)=true:=by rw[hp,hx];rfl
 unfold aH.oJ
 rw[e2,if_neg (by decide)]
 generalize (uc||decide (x∈(m.view p).isr))=q
 generalize m.sG x=l
 by_cases h3:bQ≤(m.view p).epoch∨bQ≤(m.view p).version
 ·rw[if_pos h3,decide_eq_true h3]
  cases l<;>cases q<;>rfl
 ·rw[if_neg h3,decide_eq_false h3]
  cases l<;>cases q<;>rfl
theorem VK {w:World} {b:Nat} {F:Nat→Prop} {m:aH} (p x:Int) (uc:Bool) (h:gX w b F m):gK Tryz.prog 108 #[.pointer (some ⟨b,0,none⟩),.int .i64 p,.int .i64 x,.bool uc] w λr w'=>r=.int .i64 (m.oJ p x uc)∧wS w b F (m.oK p x uc) w':=by
 have HH:=Zh h
 by_cases hq:(m.part p&&m.aV x)=true
 ·have jM:m.part p=true∧m.aV x=true:=by simpa using hq
  obtain⟨k,rfl⟩:∃ k:Nat,p=k:=⟨p.toNat,by have h:=jM.1;simp only[aH.part,Bool.and_eq_true,decide_eq_true_eq]at h;omega⟩
  obtain⟨j,rfl⟩:∃ j:Nat,x=j:=⟨x.toNat,by have h:=jM.2;simp only[aH.aV,Bool.and_eq_true,decide_eq_true_eq]at h;omega⟩
  have HP:Hid (m.part (k:Int)=true):=Zh jM.1
  have QF:Hid (m.aV (j:Int)=true):=Zh jM.2
  by_cases hz:m.oJ (k:Int) (j:Int) uc=0
  ·by_cases ou:(j:Int)∈(m.view (k:Int)).isr
   ·have bP:m.oK (k:Int) (j:Int) uc=m.nP (k:Int) (m.qp (k:Int) (j:Int)):=by simp[aH.oK,hz]
    have Fv:=ER h.bU (k:Int) (j:Int) uc
    rw[bP]at Fv
    rw[hz,bP]
    have HZ:=Zh hz
    have HG:=Zh (h.bU.view jM.1)
    have Qc:=Zh Fv
    have Lp:=Zh ou
    clear bP Fv h jM hq ou hz
    refine Fi (n:=75) Tryz.func108 ?_;intro A hd hA;simp only[ix,Nat.reduceAdd]
    (repeat'(first|refine ak (λK hK=>?_)|refine aj ?_|fail));(refine dI (λx K hK=>?_);go_simp;refine hK _ _ (aB.alloc _ _) ?_;clear hK K;refine aZ x ?_;generalize (World.ah _ x).heap.size=b4;intro yn aU bD bC bG aS;clear x);have uq:=Zh (cO.new aS.out);have wB:=Zh yn.ext;have Ll:(World.heap w).size≤b4:=aU;generalize World.ah w yn=W0 at *;clear aU bD bC bG aS yn
    (skip);(refine dI (λx K hK=>?_);go_simp;refine hK _ _ (aB.alloc _ _) ?_;clear hK K;refine aZ x ?_;generalize (World.ah _ x).heap.size=b6;intro yn aU bD bC bG aS;clear x);have wC:=Zh (cO.new aS.out);have ng:=Zh yn.ext;have DU:(World.heap W0).size≤b6:=aU;generalize World.ah W0 yn=W1 at *;clear aU bD bC bG aS yn
    (skip);(refine dI (λx K hK=>?_);go_simp;refine hK _ _ (aB.alloc _ _) ?_;clear hK K;refine aZ x ?_;generalize (World.ah _ x).heap.size=b7;intro yn aU bD bC bG aS;clear x);have EX:=Zh (cO.new aS.out);have wW:=Zh yn.ext;have ahB:(World.heap W1).size≤b7:=aU;generalize World.ah W1 yn=W2 at *;clear aU bD bC bG aS yn
    repeat'(first|refine aF ?_|refine au ?_|go_step)
    refine zO ?_
    (repeat'(first|refine ak (λK hK=>?_)|refine aj ?_|fail));(refine dI (λx K hK=>?_);go_simp;refine hK _ _ (aB.alloc _ _) ?_;clear hK K;refine aZ x ?_;generalize (World.ah _ x).heap.size=b9;intro yn aU bD bC bG aS;clear x);have yY:=Zh (cO.new aS.out);have ni:=Zh yn.ext;have DV:(World.heap W2).size≤b9:=aU;generalize World.ah W2 yn=W3 at *;clear aU bD bC bG aS yn
    have sD:=Et wB.out (Et ng.out (Et wW.out ni.out))
    have HE:=Zh sD
    have qF:=Zh ((kH.of uq.out Nat.zero_lt_one rfl).ah (Et ng.out (Et wW.out ni.out)))
    have gQ:=Zh ((kH.of wC.out Nat.zero_lt_one rfl).ah (Et wW.out ni.out))
    have uK:=Zh ((kH.of EX.out Nat.zero_lt_one rfl).ah ni.out)
    have iG:=yY
    have VL:W2.heap.size≤b9:=DV
    have hw6:w.heap.size≤b6:=Nat.le_trans wB.out.size DU
    have JK:=(Et wB.out (Et ng.out wW.out)).size
    have aiS:=(kH.of uq.out Nat.zero_lt_one rfl).1
    have abS:=(kH.of wC.out Nat.zero_lt_one rfl).1
    have ahC:=(kH.of EX.out Nat.zero_lt_one rfl).1
    have aiT:=ng.out.size
    have aiU:=wW.out.size
    have hw9:w.heap.size≤b9:=Nat.le_trans JK VL
    clear sD uq wC EX yY
    obtain⟨l4,x4⟩:=qF.out
    obtain⟨l6,x6⟩:=gQ.out
    repeat'(first|refine au ?_|refine ak (λK hK=>?_)|go_step)
    refine dn [(0,0),(2,0),(3,0),(5,0),(6,0),(1,1),(4,1),(7,1),(8,1),(9,1),(10,0)] (by kernel_rfl) (by kernel_rfl) ?_
    repeat'(first|refine aF ?_|fail)
    refine fF (R:=λw0 r w'=>aB w0 w'∧∃ f,r=.agg #[f,.int .i64 1]∧qZ w' f (false)) Tryz.func63 (λz=>dK (c:=false) (λw' hE=>(HH.out.ah (Et (Et HE.out z.ext) hE)).some)) (λz r w1 hR=>⟨hR.1,?_⟩)
    obtain⟨hE,f1,rfl,hC⟩:=hR
    replace hE:=Et z.ext hE
    replace HE:=Zh (Et HE.out hE)
    replace qF:=Zh (qF.out.ah hE)
    replace gQ:=Zh (gQ.out.ah hE)
    replace uK:=Zh (uK.out.ah hE)
    replace iG:=Zh (iG.out.ah hE)
    have gY:=Zh hC
    clear hE hC
    skip
    refine fF (R:=λw0 r w'=>aB w0 w'∧∃ f,r=.agg #[f,.int .i64 2]∧qZ w' f (!m.part (k:Int))) Tryz.func64 (λz=>iF (k:Int) (HH.out.ah (Et HE.out z.ext))) (λz r w1 hR=>⟨hR.1,?_⟩)
    obtain⟨hE,f2,rfl,hC⟩:=hR
    replace hE:=Et z.ext hE
    replace HE:=Zh (Et HE.out hE)
    replace qF:=Zh (qF.out.ah hE)
    replace gQ:=Zh (gQ.out.ah hE)
    replace uK:=Zh (uK.out.ah hE)
    replace iG:=Zh (iG.out.ah hE)
    replace gY:=Zh (gY.out.ah hE)
    have kG:=Zh hC
    clear hE hC
    skip
    refine fF (R:=λw0 r w'=>aB w0 w'∧∃ f,r=.agg #[f,.int .i64 2]∧qZ w' f (!m.aV (j:Int))) Tryz.func155 (λz=>iw (j:Int) (HH.out.ah (Et HE.out z.ext))) (λz r w1 hR=>⟨hR.1,?_⟩)
    obtain⟨hE,f3,rfl,hC⟩:=hR
    replace hE:=Et z.ext hE
    replace HE:=Zh (Et HE.out hE)
    replace qF:=Zh (qF.out.ah hE)
    replace gQ:=Zh (gQ.out.ah hE)
    replace uK:=Zh (uK.out.ah hE)
    replace iG:=Zh (iG.out.ah hE)
    replace gY:=Zh (gY.out.ah hE)
    replace kG:=Zh (kG.out.ah hE)
    have mZ:=Zh hC
    clear hE hC
    obtain⟨a,Qd,hF⟩:=HH.out
    have Lr:=Zh Qd.lt
    have jg:=Qd.ah HE.out
    clear Qd
    obtain⟨u,hu⟩:=jg.view HP.out
    rw[Int.toNat_natCast]at hu
    obtain⟨g,c,iZ,Dq,jT,hv⟩:=jg.views.Bf hu
    obtain⟨hlt,-,-,-,-,c4,-⟩:=jg.cells
    rw[iZ]at c4
    have kS:k<a.vs.length:=(Ge hu).1
    have sZ:(k:Int)<a.vs.length:=by omega
    obtain⟨vM,yw⟩:=jg.isr _ _ hu
    dsimp only at vM yw
    have jq:=Zh vM
    have JV:=Zh yw
    have hgw:g<w.heap.size:=Lr.out g (by rw[jg.tV g (by rw[iZ];rfl)];decide)
    have HPW:Hid (∀q,u.ownBlock=some q→q<w.heap.size):=Zh (λq hq=>Lr.out q (by rw[yw q hq];omega))
    have xH:=Zh iZ
    have HU:=Zh hu
    have HW:=Zh hv
    have HA:=Zh jg
    have HF:=Zh hF
    clear jg hF iZ hu hv vM yw
    clear x4 x6 l4 l6
    obtain⟨l4,x4⟩:=qF.out
    obtain⟨l6,x6⟩:=gQ.out
    repeat'(first|(refine dN Tryz.func62 (λz=>dD (xs:=[(f1,false,1),(f2,!m.part (k:Int),2),(f3,!m.aV (j:Int),2)]) (n:=0) ((dW _ aS rfl (by unfold maxLen;simp)).ah z.ext) (dF.cons (gY.out.ah (Et (by simp) z.ext)) (dF.cons (kG.out.ah (Et (by simp) z.ext)) (dF.cons (mZ.out.ah (Et (by simp) z.ext)) dF.nil))) (by simp[fA,HP.out,QF.out])) ?_)|refine aF ?_|refine aQ ?_|refine au ?_|refine ak (λK hK=>?_)|refine aj ?_|refine aG ?_|(refine dI (λx K hK=>?_);go_simp;refine hK _ _ (aB.alloc _ _) ?_;clear hK K;refine aZ x ?_;generalize (World.ah _ x).heap.size=bn;intro yn aU bD bC bG aS;clear x)|refine bJ ?_|go_step)
    clear gY kG mZ
    have fE:aB w1 (w1.ah yn):=by simp
    clear aU bD bC bG aS c4 hlt
    generalize World.ah w1 yn=V0 at *
    replace HE:=Zh (Et HE.out fE)
    replace qF:=Zh (qF.out.ah fE)
    replace gQ:=Zh (gQ.out.ah fE)
    replace uK:=Zh (uK.out.ah fE)
    replace iG:=Zh (iG.out.ah fE)
    replace HA:=Zh (HA.out.ah fE)
    replace HW:=Zh (HW.out.ah fE)
    replace jq:=Zh (jq.out.ah fE)
    clear fE x4 x6 l4 l6
    refine aY (off:=0) iG.out (λV1 fM nU=>?_)
    replace HE:=Zh (aB.bK HE.out fM (λq hq=>by subst hq;omega))
    replace qF:=Zh (qF.out.aW fM (by omega))
    replace gQ:=Zh (gQ.out.aW fM (by omega))
    replace uK:=Zh (uK.out.aW fM (by omega))
    replace iG:Hid (kH V1 b9 (.pointer (some ⟨g,k *4,none⟩))):=Zh (kH.of nU Nat.zero_lt_one rfl)
    replace HA:=Zh (HA.out.aW fM (λq hq e=>by have:=Lr.out q hq;omega))
    replace HW:=Zh (HW.out.aW fM (by omega))
    replace jq:=Zh (jq.out.aW fM (λq hq e=>by have:=HPW.out q hq;omega))
    clear fM nU
    repeat'(first|refine au ?_|refine ak (λK hK=>?_)|go_step)
    obtain⟨l9,x9⟩:=iG.out
    have sJ:Hid (tJ V1 [((⟨g,k *4+1,none⟩:Addr),(m.view (k:Int)).epoch),((⟨g,k *4+2,none⟩:Addr),(m.view (k:Int)).version)]):=Zh (λy hy=>by
     rcases List.mem_cons.1 hy with rfl|hy
     ·exact⟨g,k *4+1,rfl,HW.out.lt,HW.out.c1⟩
     ·obtain rfl:=List.mem_singleton.1 hy
      exact⟨g,k *4+2,rfl,HW.out.lt,HW.out.c2⟩)
    have JW:Hid (qZ V1 (.func (.func 156) #[] #[.pointer (some ⟨b4,0,none⟩),.pointer (some ⟨b6,0,none⟩)]) (!m.sG (j:Int))):=Zh ⟨_,_,_,_,rfl,Tryz.func156,by kernel_rfl,λw' hE=>CG (F:=λq=>a.T q≠0) ⟨a,HA.out.ah hE,λ_ h=>h⟩ QF.out (qF.out.ah hE) (gQ.out.ah hE)⟩
    have JX:Hid (qZ V1 (.func (.func 157) #[] #[.pointer (some ⟨b7,0,none⟩),.pointer (some ⟨b9,0,none⟩),.pointer (some ⟨b6,0,none⟩)]) (!(uc||decide ((j:Int)∈(m.view (k:Int)).isr)))):=Zh ⟨_,_,_,_,rfl,Tryz.func157,by kernel_rfl,λw' hE=>CJ (uK.out.ah hE) (iG.out.ah hE) (gQ.out.ah hE) (HW.out.ah hE) ((dQ.Oj jq.out).rd.ah hE)⟩
    refine dn [(0,0),(1,0),(2,0),(3,0),(4,0),(5,0),(6,0),(7,0),(8,0),(9,0),(10,1),(11,1),(12,1),(13,1),(14,0)] (by kernel_rfl) (by kernel_rfl) ?_
    repeat'(first|refine aF ?_|(refine dI (λx K hK=>?_);go_simp;refine hK _ _ (aB.alloc _ _) ?_;clear hK K;refine aZ x ?_;generalize (World.ah _ x).heap.size=bn;intro yn aU bD bC bG aS;clear x)|fail)
    refine fF (R:=λw0 r w'=>aB w0 w'∧∃ f,r=.agg #[f,.int .i64 204]∧qZ w' f (([((⟨g,k *4+1,none⟩:Addr),(m.view (k:Int)).epoch),((⟨g,k *4+2,none⟩:Addr),(m.view (k:Int)).version)]).any λx=>decide (bQ≤x.2))) Tryz.func146 (λz=>je (xs:=[((⟨g,k *4+1,none⟩:Addr),(m.view (k:Int)).epoch),((⟨g,k *4+2,none⟩:Addr),(m.view (k:Int)).version)]) ((qw [((⟨g,k *4+1,none⟩:Addr),(m.view (k:Int)).epoch),((⟨g,k *4+2,none⟩:Addr),(m.view (k:Int)).version)] aS rfl (by unfold maxLen;simp)).ah z.ext) ((sJ.out.ah (by simp)).ah z.ext)) (λz r w1 hR=>⟨hR.1,?_⟩)
    obtain⟨hE,f4,rfl,hC⟩:=hR
    replace hE:=Et z.ext hE
    replace hE:=Et (show aB V1 _ from by simp) hE
    replace HE:=Zh (Et HE.out hE)
    replace qF:=Zh (qF.out.ah hE)
    replace gQ:=Zh (gQ.out.ah hE)
    replace uK:=Zh (uK.out.ah hE)
    replace iG:=Zh (iG.out.ah hE)
    replace HA:=Zh (HA.out.ah hE)
    replace HW:=Zh (HW.out.ah hE)
    replace jq:=Zh (jq.out.ah hE)
    replace sJ:=Zh (sJ.out.ah hE)
    replace JW:=Zh (JW.out.ah hE)
    replace JX:=Zh (JX.out.ah hE)
    have FH:=Zh hC
    clear hE hC
    clear x9 l9
    obtain⟨l9,x9⟩:=iG.out
    repeat'(first|(refine dN Tryz.func62 (λz=>dD (xs:=[(.func (.func 156) #[] #[.pointer (some ⟨b4,0,none⟩),.pointer (some ⟨b6,0,none⟩)],!m.sG (j:Int),201),(.func (.func 157) #[] #[.pointer (some ⟨b7,0,none⟩),.pointer (some ⟨b9,0,none⟩),.pointer (some ⟨b6,0,none⟩)],!(uc||decide ((j:Int)∈(m.view (k:Int)).isr)),202),(f4,([((⟨g,k *4+1,none⟩:Addr),(m.view (k:Int)).epoch),((⟨g,k *4+2,none⟩:Addr),(m.view (k:Int)).version)]).any λx=>decide (bQ≤x.2),204)]) (n:=0) ((dW _ aS rfl (by unfold maxLen;simp)).ah z.ext) (dF.cons (JW.out.ah (Et (by simp) z.ext)) (dF.cons (JX.out.ah (Et (by simp) z.ext)) (dF.cons (FH.out.ah (Et (by simp) z.ext)) dF.nil))) ((Ie HP.out QF.out).trans HZ.out)) ?_)|refine aF ?_|refine aQ ?_|refine au ?_|refine ak (λK hK=>?_)|refine aj ?_|refine aG ?_|(refine dI (λx K hK=>?_);go_simp;refine hK _ _ (aB.alloc _ _) ?_;clear hK K;refine aZ x ?_;generalize (World.ah _ x).heap.size=bn;intro yn aU bD bC bG aS;clear x)|refine bJ ?_|go_step)
    clear JW JX FH
    have fE:aB w1 (w1.ah yn):=by simp
    clear aU bD bC bG aS l9 x9
    generalize World.ah w1 yn=V2 at *
    replace HE:=Zh (Et HE.out fE)
    replace qF:=Zh (qF.out.ah fE)
    replace gQ:=Zh (gQ.out.ah fE)
    replace uK:=Zh (uK.out.ah fE)
    replace iG:=Zh (iG.out.ah fE)
    replace HA:=Zh (HA.out.ah fE)
    replace HW:=Zh (HW.out.ah fE)
    replace jq:=Zh (jq.out.ah fE)
    replace sJ:=Zh (sJ.out.ah fE)
    clear fE
    obtain⟨l6,x6⟩:=gQ.out
    obtain⟨l9,x9⟩:=iG.out
    obtain⟨lg,e0,e1,e2,e3⟩:=HW.out
    dsimp only at e0 e1 e2 e3
    have UM:(m.view (k:Int)).epoch+1<9223372036854775808:=by have:=HG.out.epoch;unfold bQ at this;omega
    have hx2:0≤(m.view (k:Int)).epoch:=HG.out.epoch.1
    have Xh:(m.view (k:Int)).version+1<9223372036854775808:=by have:=HG.out.version;unfold bQ at this;omega
    have hx4:0≤(m.view (k:Int)).version:=HG.out.version.1
    have HX:Hid (decide ((j:Int)∈(m.view (k:Int)).isr)=true):=Zh (by simp[Lp.out])
    refine dn [(0,0),(1,0),(2,0),(3,0),(4,0),(5,1),(6,0)] (by kernel_rfl) (by kernel_rfl) ?_
    repeat'(first|(refine dN Tryz.func148 (λz=>HX.out▸eX (m.view (k:Int)).isr u (j:Int) _ ((dQ.Oj jq.out).rd.ah (by simp))) ?_)|refine aF ?_|refine aQ ?_|refine ak (λK hK=>?_)|refine aj ?_|refine aG ?_|refine bJ ?_|go_step)
    clear lg e0 e1 e2 e3 x6 l6 x9 l9
    have HO:Hid (dQ Pm 4 45 V2 (.slice (some ⟨g,0,none⟩) a.vs.length c) (a.vs.set k (m.view (k:Int),u))):=Zh (by have h:=HA.out.views;rw[xH.out]at h;rw[uJ HU.out];exact h)
    have HM:Hid (bF (λq=>q=g) V2 V2):=Zh (bF.refl _ _)
    obtain⟨g',c',jf,-,-,hw⟩:=HO.out.Bf (List.getElem?_set_self kS)
    simp only[List.length_set]at jf
    cases jf
    obtain⟨lg,e0,e1,e2,e3⟩:=hw
    try dsimp only at e0 e1 e2 e3
    obtain⟨l6,x6⟩:=gQ.out
    obtain⟨l9,x9⟩:=iG.out
    refine kN (v:=.int .i64 (j:Int)) k 0 (m.view (k:Int),u) ((⟨(j:Int),(m.view (k:Int)).epoch,(m.view (k:Int)).version,(m.view (k:Int)).isr⟩:dL),u) HO.out (List.getElem?_set_self kS) (λ_=>rfl) (by simp[Value.cells]) (by intro j' u' h;have hj:j'<4:=(Ge h).1;rcases(show j'=0∨j'=1∨j'=2∨j'=3 by omega) with rfl|rfl|rfl|rfl<;>simpa [Value.cells] using h) (λWN hM hO=>?_)
    clear lg e0 e1 e2 e3
    rw[List.set_set]at hO
    replace HO:=Zh hO
    replace HM:=Zh (bF.trans HM.out hM (H:=λq=>q=g) (λ_ _ h=>h) (λq _ h=>h))
    replace gQ:=Zh (gQ.out.aW hM (by omega))
    replace iG:=Zh (iG.out.aW hM (by omega))
    clear hM hO
    obtain⟨g',c',jf,-,-,hw⟩:=HO.out.Bf (List.getElem?_set_self kS)
    simp only[List.length_set]at jf
    cases jf
    obtain⟨lg,e0,e1,e2,e3⟩:=hw
    try dsimp only at e0 e1 e2 e3
    clear x6 l6 x9 l9
    obtain⟨l6,x6⟩:=gQ.out
    obtain⟨l9,x9⟩:=iG.out
    repeat'(first|refine aF ?_|refine au ?_|refine ak (λK hK=>?_)|refine aj ?_|go_step)
    refine kN (v:=.int .i64 ((m.view (k:Int)).epoch+1)) k 1 ((⟨(j:Int),(m.view (k:Int)).epoch,(m.view (k:Int)).version,(m.view (k:Int)).isr⟩:dL),u) ((⟨(j:Int),(m.view (k:Int)).epoch+1,(m.view (k:Int)).version,(m.view (k:Int)).isr⟩:dL),u) HO.out (List.getElem?_set_self kS) (λ_=>rfl) (by simp[Value.cells]) (by intro j' u' h;have hj:j'<4:=(Ge h).1;rcases(show j'=0∨j'=1∨j'=2∨j'=3 by omega) with rfl|rfl|rfl|rfl<;>simpa [Value.cells] using h) (λWN hM hO=>?_)
    clear lg e0 e1 e2 e3
    rw[List.set_set]at hO
    replace HO:=Zh hO
    replace HM:=Zh (bF.trans HM.out hM (H:=λq=>q=g) (λ_ _ h=>h) (λq _ h=>h))
    replace gQ:=Zh (gQ.out.aW hM (by omega))
    replace iG:=Zh (iG.out.aW hM (by omega))
    clear hM hO
    obtain⟨g',c',jf,-,-,hw⟩:=HO.out.Bf (List.getElem?_set_self kS)
    simp only[List.length_set]at jf
    cases jf
    obtain⟨lg,e0,e1,e2,e3⟩:=hw
    try dsimp only at e0 e1 e2 e3
    clear x6 l6 x9 l9
    obtain⟨l6,x6⟩:=gQ.out
    obtain⟨l9,x9⟩:=iG.out
    repeat'(first|refine aF ?_|refine au ?_|refine ak (λK hK=>?_)|refine aj ?_|go_step)
    refine kN (v:=.int .i64 ((m.view (k:Int)).version+1)) k 2 ((⟨(j:Int),(m.view (k:Int)).epoch+1,(m.view (k:Int)).version,(m.view (k:Int)).isr⟩:dL),u) ((⟨(j:Int),(m.view (k:Int)).epoch+1,(m.view (k:Int)).version+1,(m.view (k:Int)).isr⟩:dL),u) HO.out (List.getElem?_set_self kS) (λ_=>rfl) (by simp[Value.cells]) (by intro j' u' h;have hj:j'<4:=(Ge h).1;rcases(show j'=0∨j'=1∨j'=2∨j'=3 by omega) with rfl|rfl|rfl|rfl<;>simpa [Value.cells] using h) (λWN hM hO=>?_)
    clear lg e0 e1 e2 e3
    rw[List.set_set]at hO
    replace HO:=Zh hO
    replace HM:=Zh (bF.trans HM.out hM (H:=λq=>q=g) (λ_ _ h=>h) (λq _ h=>h))
    replace gQ:=Zh (gQ.out.aW hM (by omega))
    replace iG:=Zh (iG.out.aW hM (by omega))
    clear hM hO
    obtain⟨g',c',jf,-,-,hw⟩:=HO.out.Bf (List.getElem?_set_self kS)
    simp only[List.length_set]at jf
    cases jf
    obtain⟨lg,e0,e1,e2,e3⟩:=hw
    try dsimp only at e0 e1 e2 e3
    clear x6 l6 x9 l9
    obtain⟨l6,x6⟩:=gQ.out
    obtain⟨l9,x9⟩:=iG.out
    repeat'(first|refine aF ?_|refine au ?_|refine ak (λK hK=>?_)|refine aj ?_|refine aC ?_|go_step)
    have Yo:m.qp (k:Int) (j:Int)=⟨(j:Int),(m.view (k:Int)).epoch+1,(m.view (k:Int)).version+1,(m.view (k:Int)).isr⟩:=by
     unfold aH.qp
     rw[if_pos Lp.out]
    have lU:rJ m.form (m.qp (k:Int) (j:Int)):=by
     have hw:=HA.out.xQ
     have Ym:=HA.out.bU.xQ
     exact Qc.out.views _ (List.mem_of_getElem? (i:=k) (by
      show (m.views.set ((k:Int)).toNat _)[k]? =_
      rw[Int.toNat_natCast]
      exact List.getElem?_set_self (by omega)))
    have Zk:=HA.out.tV g (by rw[xH.out];rfl)
    have QU:=HA.out.akB (p:=(k:Int)) (v:=m.qp (k:Int) (j:Int)) HP.out lU HM.out (λq hq=>by rw[xH.out,hq];rfl) (by rw[Int.toNat_natCast,xH.out,Yo];exact HO.out) (by rw[Int.toNat_natCast];exact HU.out) (by rw[Yo])
    exact aA hd ⟨rfl,QU.to HE.out HM.out (λq _ hq=>HF.out _ (by subst hq;omega)) (λq hq=>.inl (HF.out q hq))⟩
   ·have bP:m.oK (k:Int) (j:Int) uc=m.nP (k:Int) (m.qp (k:Int) (j:Int)):=by simp[aH.oK,hz]
    have Fv:=ER h.bU (k:Int) (j:Int) uc
    rw[bP]at Fv
    rw[hz,bP]
    have HZ:=Zh hz
    have HG:=Zh (h.bU.view jM.1)
    have Qc:=Zh Fv
    have Lp:=Zh ou
    clear bP Fv h jM hq ou hz
    refine Fi (n:=75) Tryz.func108 ?_;intro A hd hA;simp only[ix,Nat.reduceAdd]
    (repeat'(first|refine ak (λK hK=>?_)|refine aj ?_|fail));(refine dI (λx K hK=>?_);go_simp;refine hK _ _ (aB.alloc _ _) ?_;clear hK K;refine aZ x ?_;generalize (World.ah _ x).heap.size=b4;intro yn aU bD bC bG aS;clear x);have uq:=Zh (cO.new aS.out);have wB:=Zh yn.ext;have Ll:(World.heap w).size≤b4:=aU;generalize World.ah w yn=W0 at *;clear aU bD bC bG aS yn
    (skip);(refine dI (λx K hK=>?_);go_simp;refine hK _ _ (aB.alloc _ _) ?_;clear hK K;refine aZ x ?_;generalize (World.ah _ x).heap.size=b6;intro yn aU bD bC bG aS;clear x);have wC:=Zh (cO.new aS.out);have ng:=Zh yn.ext;have DU:(World.heap W0).size≤b6:=aU;generalize World.ah W0 yn=W1 at *;clear aU bD bC bG aS yn
    (skip);(refine dI (λx K hK=>?_);go_simp;refine hK _ _ (aB.alloc _ _) ?_;clear hK K;refine aZ x ?_;generalize (World.ah _ x).heap.size=b7;intro yn aU bD bC bG aS;clear x);have EX:=Zh (cO.new aS.out);have wW:=Zh yn.ext;have ahB:(World.heap W1).size≤b7:=aU;generalize World.ah W1 yn=W2 at *;clear aU bD bC bG aS yn
    repeat'(first|refine aF ?_|refine au ?_|go_step)
    refine zO ?_
    (repeat'(first|refine ak (λK hK=>?_)|refine aj ?_|fail));(refine dI (λx K hK=>?_);go_simp;refine hK _ _ (aB.alloc _ _) ?_;clear hK K;refine aZ x ?_;generalize (World.ah _ x).heap.size=b9;intro yn aU bD bC bG aS;clear x);have yY:=Zh (cO.new aS.out);have ni:=Zh yn.ext;have DV:(World.heap W2).size≤b9:=aU;generalize World.ah W2 yn=W3 at *;clear aU bD bC bG aS yn
    have sD:=Et wB.out (Et ng.out (Et wW.out ni.out))
    have HE:=Zh sD
    have qF:=Zh ((kH.of uq.out Nat.zero_lt_one rfl).ah (Et ng.out (Et wW.out ni.out)))
    have gQ:=Zh ((kH.of wC.out Nat.zero_lt_one rfl).ah (Et wW.out ni.out))
    have uK:=Zh ((kH.of EX.out Nat.zero_lt_one rfl).ah ni.out)
    have iG:=yY
    have VL:W2.heap.size≤b9:=DV
    have hw6:w.heap.size≤b6:=Nat.le_trans wB.out.size DU
    have JK:=(Et wB.out (Et ng.out wW.out)).size
    have aiS:=(kH.of uq.out Nat.zero_lt_one rfl).1
    have abS:=(kH.of wC.out Nat.zero_lt_one rfl).1
    have ahC:=(kH.of EX.out Nat.zero_lt_one rfl).1
    have aiT:=ng.out.size
    have aiU:=wW.out.size
    have hw9:w.heap.size≤b9:=Nat.le_trans JK VL
    clear sD uq wC EX yY
    obtain⟨l4,x4⟩:=qF.out
    obtain⟨l6,x6⟩:=gQ.out
    repeat'(first|refine au ?_|refine ak (λK hK=>?_)|go_step)
    refine dn [(0,0),(2,0),(3,0),(5,0),(6,0),(1,1),(4,1),(7,1),(8,1),(9,1),(10,0)] (by kernel_rfl) (by kernel_rfl) ?_
    repeat'(first|refine aF ?_|fail)
    refine fF (R:=λw0 r w'=>aB w0 w'∧∃ f,r=.agg #[f,.int .i64 1]∧qZ w' f (false)) Tryz.func63 (λz=>dK (c:=false) (λw' hE=>(HH.out.ah (Et (Et HE.out z.ext) hE)).some)) (λz r w1 hR=>⟨hR.1,?_⟩)
    obtain⟨hE,f1,rfl,hC⟩:=hR
    replace hE:=Et z.ext hE
    replace HE:=Zh (Et HE.out hE)
    replace qF:=Zh (qF.out.ah hE)
    replace gQ:=Zh (gQ.out.ah hE)
    replace uK:=Zh (uK.out.ah hE)
    replace iG:=Zh (iG.out.ah hE)
    have gY:=Zh hC
    clear hE hC
    skip
    refine fF (R:=λw0 r w'=>aB w0 w'∧∃ f,r=.agg #[f,.int .i64 2]∧qZ w' f (!m.part (k:Int))) Tryz.func64 (λz=>iF (k:Int) (HH.out.ah (Et HE.out z.ext))) (λz r w1 hR=>⟨hR.1,?_⟩)
    obtain⟨hE,f2,rfl,hC⟩:=hR
    replace hE:=Et z.ext hE
    replace HE:=Zh (Et HE.out hE)
    replace qF:=Zh (qF.out.ah hE)
    replace gQ:=Zh (gQ.out.ah hE)
    replace uK:=Zh (uK.out.ah hE)
    replace iG:=Zh (iG.out.ah hE)
    replace gY:=Zh (gY.out.ah hE)
    have kG:=Zh hC
    clear hE hC
    skip
    refine fF (R:=λw0 r w'=>aB w0 w'∧∃ f,r=.agg #[f,.int .i64 2]∧qZ w' f (!m.aV (j:Int))) Tryz.func155 (λz=>iw (j:Int) (HH.out.ah (Et HE.out z.ext))) (λz r w1 hR=>⟨hR.1,?_⟩)
    obtain⟨hE,f3,rfl,hC⟩:=hR
    replace hE:=Et z.ext hE
    replace HE:=Zh (Et HE.out hE)
    replace qF:=Zh (qF.out.ah hE)
    replace gQ:=Zh (gQ.out.ah hE)
    replace uK:=Zh (uK.out.ah hE)
    replace iG:=Zh (iG.out.ah hE)
    replace gY:=Zh (gY.out.ah hE)
    replace kG:=Zh (kG.out.ah hE)
    have mZ:=Zh hC
    clear hE hC
    obtain⟨a,Qd,hF⟩:=HH.out
    have Lr:=Zh Qd.lt
    have jg:=Qd.ah HE.out
    clear Qd
    obtain⟨u,hu⟩:=jg.view HP.out
    rw[Int.toNat_natCast]at hu
    obtain⟨g,c,iZ,Dq,jT,hv⟩:=jg.views.Bf hu
    obtain⟨hlt,-,-,-,-,c4,-⟩:=jg.cells
    rw[iZ]at c4
    have kS:k<a.vs.length:=(Ge hu).1
    have sZ:(k:Int)<a.vs.length:=by omega
    obtain⟨vM,yw⟩:=jg.isr _ _ hu
    dsimp only at vM yw
    have jq:=Zh vM
    have JV:=Zh yw
    have hgw:g<w.heap.size:=Lr.out g (by rw[jg.tV g (by rw[iZ];rfl)];decide)
    have HPW:Hid (∀q,u.ownBlock=some q→q<w.heap.size):=Zh (λq hq=>Lr.out q (by rw[yw q hq];omega))
    have xH:=Zh iZ
    have HU:=Zh hu
    have HW:=Zh hv
    have HA:=Zh jg
    have HF:=Zh hF
    clear jg hF iZ hu hv vM yw
    clear x4 x6 l4 l6
    obtain⟨l4,x4⟩:=qF.out
    obtain⟨l6,x6⟩:=gQ.out
    repeat'(first|(refine dN Tryz.func62 (λz=>dD (xs:=[(f1,false,1),(f2,!m.part (k:Int),2),(f3,!m.aV (j:Int),2)]) (n:=0) ((dW _ aS rfl (by unfold maxLen;simp)).ah z.ext) (dF.cons (gY.out.ah (Et (by simp) z.ext)) (dF.cons (kG.out.ah (Et (by simp) z.ext)) (dF.cons (mZ.out.ah (Et (by simp) z.ext)) dF.nil))) (by simp[fA,HP.out,QF.out])) ?_)|refine aF ?_|refine aQ ?_|refine au ?_|refine ak (λK hK=>?_)|refine aj ?_|refine aG ?_|(refine dI (λx K hK=>?_);go_simp;refine hK _ _ (aB.alloc _ _) ?_;clear hK K;refine aZ x ?_;generalize (World.ah _ x).heap.size=bn;intro yn aU bD bC bG aS;clear x)|refine bJ ?_|go_step)
    clear gY kG mZ
    have fE:aB w1 (w1.ah yn):=by simp
    clear aU bD bC bG aS c4 hlt
    generalize World.ah w1 yn=V0 at *
    replace HE:=Zh (Et HE.out fE)
    replace qF:=Zh (qF.out.ah fE)
    replace gQ:=Zh (gQ.out.ah fE)
    replace uK:=Zh (uK.out.ah fE)
    replace iG:=Zh (iG.out.ah fE)
    replace HA:=Zh (HA.out.ah fE)
    replace HW:=Zh (HW.out.ah fE)
    replace jq:=Zh (jq.out.ah fE)
    clear fE x4 x6 l4 l6
    refine aY (off:=0) iG.out (λV1 fM nU=>?_)
    replace HE:=Zh (aB.bK HE.out fM (λq hq=>by subst hq;omega))
    replace qF:=Zh (qF.out.aW fM (by omega))
    replace gQ:=Zh (gQ.out.aW fM (by omega))
    replace uK:=Zh (uK.out.aW fM (by omega))
    replace iG:Hid (kH V1 b9 (.pointer (some ⟨g,k *4,none⟩))):=Zh (kH.of nU Nat.zero_lt_one rfl)
    replace HA:=Zh (HA.out.aW fM (λq hq e=>by have:=Lr.out q hq;omega))
    replace HW:=Zh (HW.out.aW fM (by omega))
    replace jq:=Zh (jq.out.aW fM (λq hq e=>by have:=HPW.out q hq;omega))
    clear fM nU
    repeat'(first|refine au ?_|refine ak (λK hK=>?_)|go_step)
    obtain⟨l9,x9⟩:=iG.out
    have sJ:Hid (tJ V1 [((⟨g,k *4+1,none⟩:Addr),(m.view (k:Int)).epoch),((⟨g,k *4+2,none⟩:Addr),(m.view (k:Int)).version)]):=Zh (λy hy=>by
     rcases List.mem_cons.1 hy with rfl|hy
     ·exact⟨g,k *4+1,rfl,HW.out.lt,HW.out.c1⟩
     ·obtain rfl:=List.mem_singleton.1 hy
      exact⟨g,k *4+2,rfl,HW.out.lt,HW.out.c2⟩)
    have JW:Hid (qZ V1 (.func (.func 156) #[] #[.pointer (some ⟨b4,0,none⟩),.pointer (some ⟨b6,0,none⟩)]) (!m.sG (j:Int))):=Zh ⟨_,_,_,_,rfl,Tryz.func156,by kernel_rfl,λw' hE=>CG (F:=λq=>a.T q≠0) ⟨a,HA.out.ah hE,λ_ h=>h⟩ QF.out (qF.out.ah hE) (gQ.out.ah hE)⟩
    have JX:Hid (qZ V1 (.func (.func 157) #[] #[.pointer (some ⟨b7,0,none⟩),.pointer (some ⟨b9,0,none⟩),.pointer (some ⟨b6,0,none⟩)]) (!(uc||decide ((j:Int)∈(m.view (k:Int)).isr)))):=Zh ⟨_,_,_,_,rfl,Tryz.func157,by kernel_rfl,λw' hE=>CJ (uK.out.ah hE) (iG.out.ah hE) (gQ.out.ah hE) (HW.out.ah hE) ((dQ.Oj jq.out).rd.ah hE)⟩
    refine dn [(0,0),(1,0),(2,0),(3,0),(4,0),(5,0),(6,0),(7,0),(8,0),(9,0),(10,1),(11,1),(12,1),(13,1),(14,0)] (by kernel_rfl) (by kernel_rfl) ?_
    repeat'(first|refine aF ?_|(refine dI (λx K hK=>?_);go_simp;refine hK _ _ (aB.alloc _ _) ?_;clear hK K;refine aZ x ?_;generalize (World.ah _ x).heap.size=bn;intro yn aU bD bC bG aS;clear x)|fail)
    refine fF (R:=λw0 r w'=>aB w0 w'∧∃ f,r=.agg #[f,.int .i64 204]∧qZ w' f (([((⟨g,k *4+1,none⟩:Addr),(m.view (k:Int)).epoch),((⟨g,k *4+2,none⟩:Addr),(m.view (k:Int)).version)]).any λx=>decide (bQ≤x.2))) Tryz.func146 (λz=>je (xs:=[((⟨g,k *4+1,none⟩:Addr),(m.view (k:Int)).epoch),((⟨g,k *4+2,none⟩:Addr),(m.view (k:Int)).version)]) ((qw [((⟨g,k *4+1,none⟩:Addr),(m.view (k:Int)).epoch),((⟨g,k *4+2,none⟩:Addr),(m.view (k:Int)).version)] aS rfl (by unfold maxLen;simp)).ah z.ext) ((sJ.out.ah (by simp)).ah z.ext)) (λz r w1 hR=>⟨hR.1,?_⟩)
    obtain⟨hE,f4,rfl,hC⟩:=hR
    replace hE:=Et z.ext hE
    replace hE:=Et (show aB V1 _ from by simp) hE
    replace HE:=Zh (Et HE.out hE)
    replace qF:=Zh (qF.out.ah hE)
    replace gQ:=Zh (gQ.out.ah hE)
    replace uK:=Zh (uK.out.ah hE)
    replace iG:=Zh (iG.out.ah hE)
    replace HA:=Zh (HA.out.ah hE)
    replace HW:=Zh (HW.out.ah hE)
    replace jq:=Zh (jq.out.ah hE)
    replace sJ:=Zh (sJ.out.ah hE)
    replace JW:=Zh (JW.out.ah hE)
    replace JX:=Zh (JX.out.ah hE)
    have FH:=Zh hC
    clear hE hC
    clear x9 l9
    obtain⟨l9,x9⟩:=iG.out
    repeat'(first|(refine dN Tryz.func62 (λz=>dD (xs:=[(.func (.func 156) #[] #[.pointer (some ⟨b4,0,none⟩),.pointer (some ⟨b6,0,none⟩)],!m.sG (j:Int),201),(.func (.func 157) #[] #[.pointer (some ⟨b7,0,none⟩),.pointer (some ⟨b9,0,none⟩),.pointer (some ⟨b6,0,none⟩)],!(uc||decide ((j:Int)∈(m.view (k:Int)).isr)),202),(f4,([((⟨g,k *4+1,none⟩:Addr),(m.view (k:Int)).epoch),((⟨g,k *4+2,none⟩:Addr),(m.view (k:Int)).version)]).any λx=>decide (bQ≤x.2),204)]) (n:=0) ((dW _ aS rfl (by unfold maxLen;simp)).ah z.ext) (dF.cons (JW.out.ah (Et (by simp) z.ext)) (dF.cons (JX.out.ah (Et (by simp) z.ext)) (dF.cons (FH.out.ah (Et (by simp) z.ext)) dF.nil))) ((Ie HP.out QF.out).trans HZ.out)) ?_)|refine aF ?_|refine aQ ?_|refine au ?_|refine ak (λK hK=>?_)|refine aj ?_|refine aG ?_|(refine dI (λx K hK=>?_);go_simp;refine hK _ _ (aB.alloc _ _) ?_;clear hK K;refine aZ x ?_;generalize (World.ah _ x).heap.size=bn;intro yn aU bD bC bG aS;clear x)|refine bJ ?_|go_step)
    clear JW JX FH
    have fE:aB w1 (w1.ah yn):=by simp
    clear aU bD bC bG aS l9 x9
    generalize World.ah w1 yn=V2 at *
    replace HE:=Zh (Et HE.out fE)
    replace qF:=Zh (qF.out.ah fE)
    replace gQ:=Zh (gQ.out.ah fE)
    replace uK:=Zh (uK.out.ah fE)
    replace iG:=Zh (iG.out.ah fE)
    replace HA:=Zh (HA.out.ah fE)
    replace HW:=Zh (HW.out.ah fE)
    replace jq:=Zh (jq.out.ah fE)
    replace sJ:=Zh (sJ.out.ah fE)
    clear fE
    obtain⟨l6,x6⟩:=gQ.out
    obtain⟨l9,x9⟩:=iG.out
    obtain⟨lg,e0,e1,e2,e3⟩:=HW.out
    dsimp only at e0 e1 e2 e3
    have UM:(m.view (k:Int)).epoch+1<9223372036854775808:=by have:=HG.out.epoch;unfold bQ at this;omega
    have hx2:0≤(m.view (k:Int)).epoch:=HG.out.epoch.1
    have Xh:(m.view (k:Int)).version+1<9223372036854775808:=by have:=HG.out.version;unfold bQ at this;omega
    have hx4:0≤(m.view (k:Int)).version:=HG.out.version.1
    have HX:Hid (decide ((j:Int)∈(m.view (k:Int)).isr)=false):=Zh (by simp[Lp.out])
    refine dn [(0,0),(1,0),(2,0),(3,0),(4,0),(5,1),(6,0)] (by kernel_rfl) (by kernel_rfl) ?_
    repeat'(first|(refine dN Tryz.func148 (λz=>HX.out▸eX (m.view (k:Int)).isr u (j:Int) _ ((dQ.Oj jq.out).rd.ah (by simp))) ?_)|refine aF ?_|refine aQ ?_|refine aj ?_|(refine dI (λx K hK=>?_);go_simp;refine hK _ _ (aB.alloc _ _) ?_;clear hK K;refine aZ x ?_;generalize (World.ah _ x).heap.size=bn;intro yn aU bD bC bG aS;clear x)|refine bH ?_|go_step)
    have rH:Hid (ig (V2.ah yn) (.slice (some ⟨bn,0,none⟩) 1 1) [(j:Int)]):=Zh (aeN [(j:Int)] aS rfl (by unfold maxLen;simp))
    have NT:w.heap.size≤bn:=Nat.le_trans HE.out.size aU
    have Js:=bD
    have fE:aB V2 (V2.ah yn):=by simp
    clear aU bD bC bG aS lg e0 e1 e2 e3
    generalize World.ah V2 yn=V3 at *
    replace HE:=Zh (Et HE.out fE)
    replace qF:=Zh (qF.out.ah fE)
    replace gQ:=Zh (gQ.out.ah fE)
    replace uK:=Zh (uK.out.ah fE)
    replace iG:=Zh (iG.out.ah fE)
    replace HA:=Zh (HA.out.ah fE)
    replace HW:=Zh (HW.out.ah fE)
    replace jq:=Zh (jq.out.ah fE)
    replace sJ:=Zh (sJ.out.ah fE)
    clear fE x6 l6 x9 l9
    have HO:Hid (dQ Pm 4 45 V3 (.slice (some ⟨g,0,none⟩) a.vs.length c) (a.vs.set k (m.view (k:Int),u))):=Zh (by have h:=HA.out.views;rw[xH.out]at h;rw[uJ HU.out];exact h)
    have HM:Hid (bF (λq=>q=g) V3 V3):=Zh (bF.refl _ _)
    obtain⟨g',c',jf,-,-,hw⟩:=HO.out.Bf (List.getElem?_set_self kS)
    simp only[List.length_set]at jf
    cases jf
    obtain⟨lg,e0,e1,e2,e3⟩:=hw
    try dsimp only at e0 e1 e2 e3
    obtain⟨l6,x6⟩:=gQ.out
    obtain⟨l9,x9⟩:=iG.out
    refine kN (v:=.slice (some ⟨bn,0,none⟩) 1 1) k 3 (m.view (k:Int),u) ((⟨(m.view (k:Int)).leader,(m.view (k:Int)).epoch,(m.view (k:Int)).version,[(j:Int)]⟩:dL),(.slice (some ⟨bn,0,none⟩) 1 1)) HO.out (List.getElem?_set_self kS) (λ_=>rfl) (by simp[Value.cells]) (by intro j' u' h;have hj:j'<4:=(Ge h).1;rcases(show j'=0∨j'=1∨j'=2∨j'=3 by omega) with rfl|rfl|rfl|rfl<;>simpa [Value.cells] using h) (λWN hM hO=>?_)
    clear lg e0 e1 e2 e3
    rw[List.set_set]at hO
    replace HO:=Zh hO
    replace HM:=Zh (bF.trans HM.out hM (H:=λq=>q=g) (λ_ _ h=>h) (λq _ h=>h))
    replace gQ:=Zh (gQ.out.aW hM (by omega))
    replace iG:=Zh (iG.out.aW hM (by omega))
    replace rH:=Zh (rH.out.aW hM (λq hq e=>by have hbq:bn=q:=Option.some.inj hq;omega))
    clear hM hO
    obtain⟨g',c',jf,-,-,hw⟩:=HO.out.Bf (List.getElem?_set_self kS)
    simp only[List.length_set]at jf
    cases jf
    obtain⟨lg,e0,e1,e2,e3⟩:=hw
    try dsimp only at e0 e1 e2 e3
    clear x6 l6 x9 l9
    obtain⟨l6,x6⟩:=gQ.out
    obtain⟨l9,x9⟩:=iG.out
    repeat'(first|refine aF ?_|refine au ?_|refine ak (λK hK=>?_)|refine aj ?_|go_step)
    refine kN (v:=.int .i64 (j:Int)) k 0 ((⟨(m.view (k:Int)).leader,(m.view (k:Int)).epoch,(m.view (k:Int)).version,[(j:Int)]⟩:dL),(.slice (some ⟨bn,0,none⟩) 1 1)) ((⟨(j:Int),(m.view (k:Int)).epoch,(m.view (k:Int)).version,[(j:Int)]⟩:dL),(.slice (some ⟨bn,0,none⟩) 1 1)) HO.out (List.getElem?_set_self kS) (λ_=>rfl) (by simp[Value.cells]) (by intro j' u' h;have hj:j'<4:=(Ge h).1;rcases(show j'=0∨j'=1∨j'=2∨j'=3 by omega) with rfl|rfl|rfl|rfl<;>simpa [Value.cells] using h) (λWN hM hO=>?_)
    clear lg e0 e1 e2 e3
    rw[List.set_set]at hO
    replace HO:=Zh hO
    replace HM:=Zh (bF.trans HM.out hM (H:=λq=>q=g) (λ_ _ h=>h) (λq _ h=>h))
    replace gQ:=Zh (gQ.out.aW hM (by omega))
    replace iG:=Zh (iG.out.aW hM (by omega))
    replace rH:=Zh (rH.out.aW hM (λq hq e=>by have hbq:bn=q:=Option.some.inj hq;omega))
    clear hM hO
    obtain⟨g',c',jf,-,-,hw⟩:=HO.out.Bf (List.getElem?_set_self kS)
    simp only[List.length_set]at jf
    cases jf
    obtain⟨lg,e0,e1,e2,e3⟩:=hw
    try dsimp only at e0 e1 e2 e3
    clear x6 l6 x9 l9
    obtain⟨l6,x6⟩:=gQ.out
    obtain⟨l9,x9⟩:=iG.out
    repeat'(first|refine aF ?_|refine au ?_|refine ak (λK hK=>?_)|refine aj ?_|go_step)
    refine kN (v:=.int .i64 ((m.view (k:Int)).epoch+1)) k 1 ((⟨(j:Int),(m.view (k:Int)).epoch,(m.view (k:Int)).version,[(j:Int)]⟩:dL),(.slice (some ⟨bn,0,none⟩) 1 1)) ((⟨(j:Int),(m.view (k:Int)).epoch+1,(m.view (k:Int)).version,[(j:Int)]⟩:dL),(.slice (some ⟨bn,0,none⟩) 1 1)) HO.out (List.getElem?_set_self kS) (λ_=>rfl) (by simp[Value.cells]) (by intro j' u' h;have hj:j'<4:=(Ge h).1;rcases(show j'=0∨j'=1∨j'=2∨j'=3 by omega) with rfl|rfl|rfl|rfl<;>simpa [Value.cells] using h) (λWN hM hO=>?_)
    clear lg e0 e1 e2 e3
    rw[List.set_set]at hO
    replace HO:=Zh hO
    replace HM:=Zh (bF.trans HM.out hM (H:=λq=>q=g) (λ_ _ h=>h) (λq _ h=>h))
    replace gQ:=Zh (gQ.out.aW hM (by omega))
    replace iG:=Zh (iG.out.aW hM (by omega))
    replace rH:=Zh (rH.out.aW hM (λq hq e=>by have hbq:bn=q:=Option.some.inj hq;omega))
    clear hM hO
    obtain⟨g',c',jf,-,-,hw⟩:=HO.out.Bf (List.getElem?_set_self kS)
    simp only[List.length_set]at jf
    cases jf
    obtain⟨lg,e0,e1,e2,e3⟩:=hw
    try dsimp only at e0 e1 e2 e3
    clear x6 l6 x9 l9
    obtain⟨l6,x6⟩:=gQ.out
    obtain⟨l9,x9⟩:=iG.out
    repeat'(first|refine aF ?_|refine au ?_|refine ak (λK hK=>?_)|refine aj ?_|go_step)
    refine kN (v:=.int .i64 ((m.view (k:Int)).version+1)) k 2 ((⟨(j:Int),(m.view (k:Int)).epoch+1,(m.view (k:Int)).version,[(j:Int)]⟩:dL),(.slice (some ⟨bn,0,none⟩) 1 1)) ((⟨(j:Int),(m.view (k:Int)).epoch+1,(m.view (k:Int)).version+1,[(j:Int)]⟩:dL),(.slice (some ⟨bn,0,none⟩) 1 1)) HO.out (List.getElem?_set_self kS) (λ_=>rfl) (by simp[Value.cells]) (by intro j' u' h;have hj:j'<4:=(Ge h).1;rcases(show j'=0∨j'=1∨j'=2∨j'=3 by omega) with rfl|rfl|rfl|rfl<;>simpa [Value.cells] using h) (λWN hM hO=>?_)
    clear lg e0 e1 e2 e3
    rw[List.set_set]at hO
    replace HO:=Zh hO
    replace HM:=Zh (bF.trans HM.out hM (H:=λq=>q=g) (λ_ _ h=>h) (λq _ h=>h))
    replace gQ:=Zh (gQ.out.aW hM (by omega))
    replace iG:=Zh (iG.out.aW hM (by omega))
    replace rH:=Zh (rH.out.aW hM (λq hq e=>by have hbq:bn=q:=Option.some.inj hq;omega))
    clear hM hO
    obtain⟨g',c',jf,-,-,hw⟩:=HO.out.Bf (List.getElem?_set_self kS)
    simp only[List.length_set]at jf
    cases jf
    obtain⟨lg,e0,e1,e2,e3⟩:=hw
    try dsimp only at e0 e1 e2 e3
    clear x6 l6 x9 l9
    obtain⟨l6,x6⟩:=gQ.out
    obtain⟨l9,x9⟩:=iG.out
    repeat'(first|refine aF ?_|refine au ?_|refine ak (λK hK=>?_)|refine aj ?_|refine aC ?_|go_step)
    have Yo:m.qp (k:Int) (j:Int)=⟨(j:Int),(m.view (k:Int)).epoch+1,(m.view (k:Int)).version+1,[(j:Int)]⟩:=by
     unfold aH.qp
     rw[if_neg Lp.out]
    have lU:rJ m.form (m.qp (k:Int) (j:Int)):=by
     have hw:=HA.out.xQ
     have Ym:=HA.out.bU.xQ
     exact Qc.out.views _ (List.mem_of_getElem? (i:=k) (by
      show (m.views.set ((k:Int)).toNat _)[k]? =_
      rw[Int.toNat_natCast]
      exact List.getElem?_set_self (by omega)))
    have Zk:=HA.out.tV g (by rw[xH.out];rfl)
    have QU:=HA.out.Sj (p:=(k:Int)) (v:=m.qp (k:Int) (j:Int)) (u:=.slice (some ⟨bn,0,none⟩) 1 1) (T:=oP a.T (.slice (some ⟨bn,0,none⟩) 1 1) (8+k)) HP.out lU HM.out (λq _ h3 _ hq=>h3 (by subst hq;exact Zk)) (by rw[Int.toNat_natCast,xH.out,Yo];exact HO.out) (by rw[Yo];exact rH.out)
     (λq hq=>iW (λe=>by have:=Lr.out q hq;have hbq:bn=q:=Option.some.inj e;omega)) (λq hq=>by rw[Int.toNat_natCast];exact sH hq) (λq hq=>by
      by_cases h1:(Value.slice (some ⟨bn,0,none⟩) 1 1).ownBlock=some q
      ·exact rH.out.lt q h1
      ·rw[iW h1]at hq
       exact Nat.lt_of_lt_of_le (HA.out.lt q hq) HM.out.size)
    exact aA hd ⟨rfl,QU.to HE.out HM.out (λq _ hq=>HF.out _ (by subst hq;omega)) (λq hq=>by
     by_cases h1:(Value.slice (some ⟨bn,0,none⟩) 1 1).ownBlock=some q
     ·right;cases h1;exact NT
     ·left
      have nG:oP a.T (.slice (some ⟨bn,0,none⟩) 1 1) (8+k) q≠0:=hq
      rw[iW h1]at nG
      exact HF.out q nG)⟩
  ·have bP:m.oK (k:Int) (j:Int) uc=m:=by simp[aH.oK,hz]
   rw[bP]
   generalize ny:m.oJ (k:Int) (j:Int) uc=E0 at *
   have aoH:(E0 != 0)=true:=by simp[hz]
   have BD:=Zh ny
   clear bP h jM hq ny hz
   refine Fi (n:=75) Tryz.func108 ?_;intro A hd hA;simp only[ix,Nat.reduceAdd]
   (repeat'(first|refine ak (λK hK=>?_)|refine aj ?_|fail));(refine dI (λx K hK=>?_);go_simp;refine hK _ _ (aB.alloc _ _) ?_;clear hK K;refine aZ x ?_;generalize (World.ah _ x).heap.size=b4;intro yn aU bD bC bG aS;clear x);have uq:=Zh (cO.new aS.out);have wB:=Zh yn.ext;have Ll:(World.heap w).size≤b4:=aU;generalize World.ah w yn=W0 at *;clear aU bD bC bG aS yn
   (skip);(refine dI (λx K hK=>?_);go_simp;refine hK _ _ (aB.alloc _ _) ?_;clear hK K;refine aZ x ?_;generalize (World.ah _ x).heap.size=b6;intro yn aU bD bC bG aS;clear x);have wC:=Zh (cO.new aS.out);have ng:=Zh yn.ext;have DU:(World.heap W0).size≤b6:=aU;generalize World.ah W0 yn=W1 at *;clear aU bD bC bG aS yn
   (skip);(refine dI (λx K hK=>?_);go_simp;refine hK _ _ (aB.alloc _ _) ?_;clear hK K;refine aZ x ?_;generalize (World.ah _ x).heap.size=b7;intro yn aU bD bC bG aS;clear x);have EX:=Zh (cO.new aS.out);have wW:=Zh yn.ext;have ahB:(World.heap W1).size≤b7:=aU;generalize World.ah W1 yn=W2 at *;clear aU bD bC bG aS yn
   repeat'(first|refine aF ?_|refine au ?_|go_step)
   refine yS 0 rfl ?_
   (repeat'(first|refine ak (λK hK=>?_)|refine aj ?_|fail));(refine dI (λx K hK=>?_);go_simp;refine hK _ _ (aB.alloc _ _) ?_;clear hK K;refine aZ x ?_;generalize (World.ah _ x).heap.size=b9;intro yn aU bD bC bG aS;clear x);have yY:=Zh (cO.new aS.out);have ni:=Zh yn.ext;have DV:(World.heap W2).size≤b9:=aU;generalize World.ah W2 yn=W3 at *;clear aU bD bC bG aS yn
   have sD:=Et wB.out (Et ng.out (Et wW.out ni.out))
   have HE:=Zh sD
   have qF:=Zh ((kH.of uq.out Nat.zero_lt_one rfl).ah (Et ng.out (Et wW.out ni.out)))
   have gQ:=Zh ((kH.of wC.out Nat.zero_lt_one rfl).ah (Et wW.out ni.out))
   have uK:=Zh ((kH.of EX.out Nat.zero_lt_one rfl).ah ni.out)
   have iG:=yY
   have VL:W2.heap.size≤b9:=DV
   have hw6:w.heap.size≤b6:=Nat.le_trans wB.out.size DU
   have JK:=(Et wB.out (Et ng.out wW.out)).size
   have aiS:=(kH.of uq.out Nat.zero_lt_one rfl).1
   have abS:=(kH.of wC.out Nat.zero_lt_one rfl).1
   have ahC:=(kH.of EX.out Nat.zero_lt_one rfl).1
   have aiT:=ng.out.size
   have aiU:=wW.out.size
   have hw9:w.heap.size≤b9:=Nat.le_trans JK VL
   clear sD uq wC EX yY
   obtain⟨l4,x4⟩:=qF.out
   obtain⟨l6,x6⟩:=gQ.out
   repeat'(first|refine au ?_|refine ak (λK hK=>?_)|go_step)
   refine dn [(0,0),(2,0),(3,0),(5,0),(6,0),(1,1),(4,1),(7,1),(8,1),(9,1),(10,0)] (by kernel_rfl) (by kernel_rfl) ?_
   repeat'(first|refine aF ?_|fail)
   refine fF (R:=λw0 r w'=>aB w0 w'∧∃ f,r=.agg #[f,.int .i64 1]∧qZ w' f (false)) Tryz.func63 (λz=>dK (c:=false) (λw' hE=>(HH.out.ah (Et (Et HE.out z.ext) hE)).some)) (λz r w1 hR=>⟨hR.1,?_⟩)
   obtain⟨hE,f1,rfl,hC⟩:=hR
   replace hE:=Et z.ext hE
   replace HE:=Zh (Et HE.out hE)
   replace qF:=Zh (qF.out.ah hE)
   replace gQ:=Zh (gQ.out.ah hE)
   replace uK:=Zh (uK.out.ah hE)
   replace iG:=Zh (iG.out.ah hE)
   have gY:=Zh hC
   clear hE hC
   skip
   refine fF (R:=λw0 r w'=>aB w0 w'∧∃ f,r=.agg #[f,.int .i64 2]∧qZ w' f (!m.part (k:Int))) Tryz.func64 (λz=>iF (k:Int) (HH.out.ah (Et HE.out z.ext))) (λz r w1 hR=>⟨hR.1,?_⟩)
   obtain⟨hE,f2,rfl,hC⟩:=hR
   replace hE:=Et z.ext hE
   replace HE:=Zh (Et HE.out hE)
   replace qF:=Zh (qF.out.ah hE)
   replace gQ:=Zh (gQ.out.ah hE)
   replace uK:=Zh (uK.out.ah hE)
   replace iG:=Zh (iG.out.ah hE)
   replace gY:=Zh (gY.out.ah hE)
   have kG:=Zh hC
   clear hE hC
   skip
   refine fF (R:=λw0 r w'=>aB w0 w'∧∃ f,r=.agg #[f,.int .i64 2]∧qZ w' f (!m.aV (j:Int))) Tryz.func155 (λz=>iw (j:Int) (HH.out.ah (Et HE.out z.ext))) (λz r w1 hR=>⟨hR.1,?_⟩)
   obtain⟨hE,f3,rfl,hC⟩:=hR
   replace hE:=Et z.ext hE
   replace HE:=Zh (Et HE.out hE)
   replace qF:=Zh (qF.out.ah hE)
   replace gQ:=Zh (gQ.out.ah hE)
   replace uK:=Zh (uK.out.ah hE)
   replace iG:=Zh (iG.out.ah hE)
   replace gY:=Zh (gY.out.ah hE)
   replace kG:=Zh (kG.out.ah hE)
   have mZ:=Zh hC
   clear hE hC
   obtain⟨a,Qd,hF⟩:=HH.out
   have Lr:=Zh Qd.lt
   have jg:=Qd.ah HE.out
   clear Qd
   obtain⟨u,hu⟩:=jg.view HP.out
   rw[Int.toNat_natCast]at hu
   obtain⟨g,c,iZ,Dq,jT,hv⟩:=jg.views.Bf hu
   obtain⟨hlt,-,-,-,-,c4,-⟩:=jg.cells
   rw[iZ]at c4
   have kS:k<a.vs.length:=(Ge hu).1
   have sZ:(k:Int)<a.vs.length:=by omega
   obtain⟨vM,yw⟩:=jg.isr _ _ hu
   dsimp only at vM yw
   have jq:=Zh vM
   have JV:=Zh yw
   have hgw:g<w.heap.size:=Lr.out g (by rw[jg.tV g (by rw[iZ];rfl)];decide)
   have HPW:Hid (∀q,u.ownBlock=some q→q<w.heap.size):=Zh (λq hq=>Lr.out q (by rw[yw q hq];omega))
   have xH:=Zh iZ
   have HU:=Zh hu
   have HW:=Zh hv
   have HA:=Zh jg
   have HF:=Zh hF
   clear jg hF iZ hu hv vM yw
   clear x4 x6 l4 l6
   obtain⟨l4,x4⟩:=qF.out
   obtain⟨l6,x6⟩:=gQ.out
   repeat'(first|(refine dN Tryz.func62 (λz=>dD (xs:=[(f1,false,1),(f2,!m.part (k:Int),2),(f3,!m.aV (j:Int),2)]) (n:=0) ((dW _ aS rfl (by unfold maxLen;simp)).ah z.ext) (dF.cons (gY.out.ah (Et (by simp) z.ext)) (dF.cons (kG.out.ah (Et (by simp) z.ext)) (dF.cons (mZ.out.ah (Et (by simp) z.ext)) dF.nil))) (by simp[fA,HP.out,QF.out])) ?_)|refine aF ?_|refine aQ ?_|refine au ?_|refine ak (λK hK=>?_)|refine aj ?_|refine aG ?_|(refine dI (λx K hK=>?_);go_simp;refine hK _ _ (aB.alloc _ _) ?_;clear hK K;refine aZ x ?_;generalize (World.ah _ x).heap.size=bn;intro yn aU bD bC bG aS;clear x)|refine bJ ?_|go_step)
   clear gY kG mZ
   have fE:aB w1 (w1.ah yn):=by simp
   clear aU bD bC bG aS c4 hlt
   generalize World.ah w1 yn=V0 at *
   replace HE:=Zh (Et HE.out fE)
   replace qF:=Zh (qF.out.ah fE)
   replace gQ:=Zh (gQ.out.ah fE)
   replace uK:=Zh (uK.out.ah fE)
   replace iG:=Zh (iG.out.ah fE)
   replace HA:=Zh (HA.out.ah fE)
   replace HW:=Zh (HW.out.ah fE)
   replace jq:=Zh (jq.out.ah fE)
   clear fE x4 x6 l4 l6
   refine aY (off:=0) iG.out (λV1 fM nU=>?_)
   replace HE:=Zh (aB.bK HE.out fM (λq hq=>by subst hq;omega))
   replace qF:=Zh (qF.out.aW fM (by omega))
   replace gQ:=Zh (gQ.out.aW fM (by omega))
   replace uK:=Zh (uK.out.aW fM (by omega))
   replace iG:Hid (kH V1 b9 (.pointer (some ⟨g,k *4,none⟩))):=Zh (kH.of nU Nat.zero_lt_one rfl)
   replace HA:=Zh (HA.out.aW fM (λq hq e=>by have:=Lr.out q hq;omega))
   replace HW:=Zh (HW.out.aW fM (by omega))
   replace jq:=Zh (jq.out.aW fM (λq hq e=>by have:=HPW.out q hq;omega))
   clear fM nU
   repeat'(first|refine au ?_|refine ak (λK hK=>?_)|go_step)
   obtain⟨l9,x9⟩:=iG.out
   have sJ:Hid (tJ V1 [((⟨g,k *4+1,none⟩:Addr),(m.view (k:Int)).epoch),((⟨g,k *4+2,none⟩:Addr),(m.view (k:Int)).version)]):=Zh (λy hy=>by
    rcases List.mem_cons.1 hy with rfl|hy
    ·exact⟨g,k *4+1,rfl,HW.out.lt,HW.out.c1⟩
    ·obtain rfl:=List.mem_singleton.1 hy
     exact⟨g,k *4+2,rfl,HW.out.lt,HW.out.c2⟩)
   have JW:Hid (qZ V1 (.func (.func 156) #[] #[.pointer (some ⟨b4,0,none⟩),.pointer (some ⟨b6,0,none⟩)]) (!m.sG (j:Int))):=Zh ⟨_,_,_,_,rfl,Tryz.func156,by kernel_rfl,λw' hE=>CG (F:=λq=>a.T q≠0) ⟨a,HA.out.ah hE,λ_ h=>h⟩ QF.out (qF.out.ah hE) (gQ.out.ah hE)⟩
   have JX:Hid (qZ V1 (.func (.func 157) #[] #[.pointer (some ⟨b7,0,none⟩),.pointer (some ⟨b9,0,none⟩),.pointer (some ⟨b6,0,none⟩)]) (!(uc||decide ((j:Int)∈(m.view (k:Int)).isr)))):=Zh ⟨_,_,_,_,rfl,Tryz.func157,by kernel_rfl,λw' hE=>CJ (uK.out.ah hE) (iG.out.ah hE) (gQ.out.ah hE) (HW.out.ah hE) ((dQ.Oj jq.out).rd.ah hE)⟩
   refine dn [(0,0),(1,0),(2,0),(3,0),(4,0),(5,0),(6,0),(7,0),(8,0),(9,0),(10,1),(11,1),(12,1),(13,1),(14,0)] (by kernel_rfl) (by kernel_rfl) ?_
   repeat'(first|refine aF ?_|(refine dI (λx K hK=>?_);go_simp;refine hK _ _ (aB.alloc _ _) ?_;clear hK K;refine aZ x ?_;generalize (World.ah _ x).heap.size=bn;intro yn aU bD bC bG aS;clear x)|fail)
   refine fF (R:=λw0 r w'=>aB w0 w'∧∃ f,r=.agg #[f,.int .i64 204]∧qZ w' f (([((⟨g,k *4+1,none⟩:Addr),(m.view (k:Int)).epoch),((⟨g,k *4+2,none⟩:Addr),(m.view (k:Int)).version)]).any λx=>decide (bQ≤x.2))) Tryz.func146 (λz=>je (xs:=[((⟨g,k *4+1,none⟩:Addr),(m.view (k:Int)).epoch),((⟨g,k *4+2,none⟩:Addr),(m.view (k:Int)).version)]) ((qw [((⟨g,k *4+1,none⟩:Addr),(m.view (k:Int)).epoch),((⟨g,k *4+2,none⟩:Addr),(m.view (k:Int)).version)] aS rfl (by unfold maxLen;simp)).ah z.ext) ((sJ.out.ah (by simp)).ah z.ext)) (λz r w1 hR=>⟨hR.1,?_⟩)
   obtain⟨hE,f4,rfl,hC⟩:=hR
   replace hE:=Et z.ext hE
   replace hE:=Et (show aB V1 _ from by simp) hE
   replace HE:=Zh (Et HE.out hE)
   replace qF:=Zh (qF.out.ah hE)
   replace gQ:=Zh (gQ.out.ah hE)
   replace uK:=Zh (uK.out.ah hE)
   replace iG:=Zh (iG.out.ah hE)
   replace HA:=Zh (HA.out.ah hE)
   replace HW:=Zh (HW.out.ah hE)
   replace jq:=Zh (jq.out.ah hE)
   replace sJ:=Zh (sJ.out.ah hE)
   replace JW:=Zh (JW.out.ah hE)
   replace JX:=Zh (JX.out.ah hE)
   have FH:=Zh hC
   clear hE hC
   clear x9 l9
   obtain⟨l9,x9⟩:=iG.out
   repeat'(first|(refine dN Tryz.func62 (λz=>dD (xs:=[(.func (.func 156) #[] #[.pointer (some ⟨b4,0,none⟩),.pointer (some ⟨b6,0,none⟩)],!m.sG (j:Int),201),(.func (.func 157) #[] #[.pointer (some ⟨b7,0,none⟩),.pointer (some ⟨b9,0,none⟩),.pointer (some ⟨b6,0,none⟩)],!(uc||decide ((j:Int)∈(m.view (k:Int)).isr)),202),(f4,([((⟨g,k *4+1,none⟩:Addr),(m.view (k:Int)).epoch),((⟨g,k *4+2,none⟩:Addr),(m.view (k:Int)).version)]).any λx=>decide (bQ≤x.2),204)]) (n:=E0) ((dW _ aS rfl (by unfold maxLen;simp)).ah z.ext) (dF.cons (JW.out.ah (Et (by simp) z.ext)) (dF.cons (JX.out.ah (Et (by simp) z.ext)) (dF.cons (FH.out.ah (Et (by simp) z.ext)) dF.nil))) ((Ie HP.out QF.out).trans BD.out)) ?_)|refine aF ?_|refine aQ ?_|refine au ?_|refine ak (λK hK=>?_)|refine aj ?_|(refine dI (λx K hK=>?_);go_simp;refine hK _ _ (aB.alloc _ _) ?_;clear hK K;refine aZ x ?_;generalize (World.ah _ x).heap.size=bn;intro yn aU bD bC bG aS;clear x)|refine bH ?_|go_step)
   clear JW JX FH
   refine EF ?_
   refine And.intro rfl ?_
   repeat'(first|refine aF ?_|refine au ?_|refine ak (λK hK=>?_)|refine aj ?_|refine aC ?_|refine aG ?_|go_step)
   exact aA hd ⟨rfl,HH.out.jc (Et HE.out (by simp))⟩
 ·have hq:(m.part p&&m.aV x)=false:=by simpa using hq
  have bT:m.oJ p x uc=2:=by simp only[aH.oJ,hq,if_true]
  have bP:m.oK p x uc=m:=by simp[aH.oK,bT]
  rw[bT,bP]
  have HQ:=Zh hq
  clear bT bP h hq
  refine Fi (n:=75) Tryz.func108 ?_;intro A hd hA;simp only[ix,Nat.reduceAdd]
  (repeat'(first|refine ak (λK hK=>?_)|refine aj ?_|fail));(refine dI (λx K hK=>?_);go_simp;refine hK _ _ (aB.alloc _ _) ?_;clear hK K;refine aZ x ?_;generalize (World.ah _ x).heap.size=b4;intro yn aU bD bC bG aS;clear x);have uq:=Zh (cO.new aS.out);have wB:=Zh yn.ext;have Ll:(World.heap w).size≤b4:=aU;generalize World.ah w yn=W0 at *;clear aU bD bC bG aS yn
  (skip);(refine dI (λx K hK=>?_);go_simp;refine hK _ _ (aB.alloc _ _) ?_;clear hK K;refine aZ x ?_;generalize (World.ah _ x).heap.size=b6;intro yn aU bD bC bG aS;clear x);have wC:=Zh (cO.new aS.out);have ng:=Zh yn.ext;have DU:(World.heap W0).size≤b6:=aU;generalize World.ah W0 yn=W1 at *;clear aU bD bC bG aS yn
  (skip);(refine dI (λx K hK=>?_);go_simp;refine hK _ _ (aB.alloc _ _) ?_;clear hK K;refine aZ x ?_;generalize (World.ah _ x).heap.size=b7;intro yn aU bD bC bG aS;clear x);have EX:=Zh (cO.new aS.out);have wW:=Zh yn.ext;have ahB:(World.heap W1).size≤b7:=aU;generalize World.ah W1 yn=W2 at *;clear aU bD bC bG aS yn
  repeat'(first|refine aF ?_|refine au ?_|go_step)
  refine yS 0 rfl ?_
  (repeat'(first|refine ak (λK hK=>?_)|refine aj ?_|fail));(refine dI (λx K hK=>?_);go_simp;refine hK _ _ (aB.alloc _ _) ?_;clear hK K;refine aZ x ?_;generalize (World.ah _ x).heap.size=b9;intro yn aU bD bC bG aS;clear x);have yY:=Zh (cO.new aS.out);have ni:=Zh yn.ext;have DV:(World.heap W2).size≤b9:=aU;generalize World.ah W2 yn=W3 at *;clear aU bD bC bG aS yn
  have sD:=Et wB.out (Et ng.out (Et wW.out ni.out))
  have HE:=Zh sD
  have qF:=Zh ((kH.of uq.out Nat.zero_lt_one rfl).ah (Et ng.out (Et wW.out ni.out)))
  have gQ:=Zh ((kH.of wC.out Nat.zero_lt_one rfl).ah (Et wW.out ni.out))
  have uK:=Zh ((kH.of EX.out Nat.zero_lt_one rfl).ah ni.out)
  have iG:=yY
  have VL:W2.heap.size≤b9:=DV
  have hw6:w.heap.size≤b6:=Nat.le_trans wB.out.size DU
  have JK:=(Et wB.out (Et ng.out wW.out)).size
  have aiS:=(kH.of uq.out Nat.zero_lt_one rfl).1
  have abS:=(kH.of wC.out Nat.zero_lt_one rfl).1
  have ahC:=(kH.of EX.out Nat.zero_lt_one rfl).1
  have aiT:=ng.out.size
  have aiU:=wW.out.size
  have hw9:w.heap.size≤b9:=Nat.le_trans JK VL
  clear sD uq wC EX yY
  obtain⟨l4,x4⟩:=qF.out
  obtain⟨l6,x6⟩:=gQ.out
  repeat'(first|refine au ?_|refine ak (λK hK=>?_)|go_step)
  refine dn [(0,0),(2,0),(3,0),(5,0),(6,0),(1,1),(4,1),(7,1),(8,1),(9,1),(10,0)] (by kernel_rfl) (by kernel_rfl) ?_
  repeat'(first|refine aF ?_|fail)
  refine fF (R:=λw0 r w'=>aB w0 w'∧∃ f,r=.agg #[f,.int .i64 1]∧qZ w' f (false)) Tryz.func63 (λz=>dK (c:=false) (λw' hE=>(HH.out.ah (Et (Et HE.out z.ext) hE)).some)) (λz r w1 hR=>⟨hR.1,?_⟩)
  obtain⟨hE,f1,rfl,hC⟩:=hR
  replace hE:=Et z.ext hE
  replace HE:=Zh (Et HE.out hE)
  replace qF:=Zh (qF.out.ah hE)
  replace gQ:=Zh (gQ.out.ah hE)
  replace uK:=Zh (uK.out.ah hE)
  replace iG:=Zh (iG.out.ah hE)
  have gY:=Zh hC
  clear hE hC
  skip
  refine fF (R:=λw0 r w'=>aB w0 w'∧∃ f,r=.agg #[f,.int .i64 2]∧qZ w' f (!m.part p)) Tryz.func64 (λz=>iF p (HH.out.ah (Et HE.out z.ext))) (λz r w1 hR=>⟨hR.1,?_⟩)
  obtain⟨hE,f2,rfl,hC⟩:=hR
  replace hE:=Et z.ext hE
  replace HE:=Zh (Et HE.out hE)
  replace qF:=Zh (qF.out.ah hE)
  replace gQ:=Zh (gQ.out.ah hE)
  replace uK:=Zh (uK.out.ah hE)
  replace iG:=Zh (iG.out.ah hE)
  replace gY:=Zh (gY.out.ah hE)
  have kG:=Zh hC
  clear hE hC
  skip
  refine fF (R:=λw0 r w'=>aB w0 w'∧∃ f,r=.agg #[f,.int .i64 2]∧qZ w' f (!m.aV x)) Tryz.func155 (λz=>iw x (HH.out.ah (Et HE.out z.ext))) (λz r w1 hR=>⟨hR.1,?_⟩)
  obtain⟨hE,f3,rfl,hC⟩:=hR
  replace hE:=Et z.ext hE
  replace HE:=Zh (Et HE.out hE)
  replace qF:=Zh (qF.out.ah hE)
  replace gQ:=Zh (gQ.out.ah hE)
  replace uK:=Zh (uK.out.ah hE)
  replace iG:=Zh (iG.out.ah hE)
  replace gY:=Zh (gY.out.ah hE)
  replace kG:=Zh (kG.out.ah hE)
  have mZ:=Zh hC
  clear hE hC
  have D7:fA [(f1,false,1),(f2,!m.part p,2),(f3,!m.aV x,2)]=2:=by
   have h:=HQ.out
   simp only[fA]
   cases h1:m.part p<;>cases h2:m.aV x<;>simp_all
  have HCK:=Zh D7
  clear D7
  repeat'(first|(refine dN Tryz.func62 (λz=>dD (xs:=[(f1,false,1),(f2,!m.part p,2),(f3,!m.aV x,2)]) (n:=2) ((dW _ aS rfl (by unfold maxLen;simp)).ah z.ext) (dF.cons (gY.out.ah (Et (by simp) z.ext)) (dF.cons (kG.out.ah (Et (by simp) z.ext)) (dF.cons (mZ.out.ah (Et (by simp) z.ext)) dF.nil))) HCK.out) ?_)|refine aF ?_|refine aQ ?_|refine au ?_|refine ak (λK hK=>?_)|refine aj ?_|(refine dI (λx K hK=>?_);go_simp;refine hK _ _ (aB.alloc _ _) ?_;clear hK K;refine aZ x ?_;generalize (World.ah _ x).heap.size=bn;intro yn aU bD bC bG aS;clear x)|refine bH ?_|go_step)
  clear gY kG mZ
  refine EF ?_
  refine And.intro rfl ?_
  repeat'(first|refine aF ?_|refine au ?_|refine ak (λK hK=>?_)|refine aj ?_|refine aC ?_|refine aG ?_|go_step)
  exact aA hd ⟨rfl,HH.out.jc (Et HE.out (by simp))⟩
end Go.Ws
