/- Lemmas for the statements of this layer (joined texts); no condition. -/
import Derived.Test.YtdabdbmehmccnaaGreatCa01
import Derived.Test.YtdabdbmehmccnaaGreatCa02
import Derived.Test.YtdabdbmehmccnaaGreatCa03
import Derived.Test.YtdabdbmehmccnaaGreatCa04
import Derived.Test.YtdabdbmehmccnaaGreatCa05
import Derived.Test.YtdabdbmehmccnaaGreatCa07
import Derived.Test.YtdabdbmehmccnaaGreatCa10
namespace Go.Ws
open Go Go.RowKit Go.Proofs
set_option maxHeartbeats 4000000
set_option maxRecDepth 100000
set_option linter.unusedVariables false
set_option linter.unusedSimpArgs false
theorem Td:∀ (l m:List Int),l.Pairwise (· < ·)→m.Pairwise (· < ·)→(∀x,x∈l↔x∈m)→l=m
 | [],[],_,_,_=>rfl
 | [],y::m,_,_,h=>by have:=(h y).2 (by simp);cases this
 | x::l,[],_,_,h=>by have:=(h x).1 (by simp);cases this
 | x::l,y::m,hl,hm,h=>by
  obtain⟨h1,h2⟩:=List.pairwise_cons.1 hl
  obtain⟨h3,h4⟩:=List.pairwise_cons.1 hm
  have e:x=y:=by
   rcases List.mem_cons.1 ((h x).1 (by simp)) with e|e
   ·exact e
   ·rcases List.mem_cons.1 ((h y).2 (by simp)) with e2|e2
    ·exact e2.symm
    ·have:=h3 x e;have:=h1 y e2;omega
  subst e
  rw[Td l m h2 h4 (λz=>?_)]
  constructor
  ·intro hz
   rcases List.mem_cons.1 ((h z).1 (List.mem_cons_of_mem _ hz)) with e|e
   ·have:=h1 z hz;omega
   ·exact e
  ·intro hz
   rcases List.mem_cons.1 ((h z).2 (List.mem_cons_of_mem _ hz)) with e|e
   ·have:=h3 z hz;omega
   ·exact e
theorem VQ (a b:List Int):(zh a b).Pairwise (· < ·):=by
 unfold zh
 exact List.Pairwise.filter _ (by decide)
theorem zi {a b:List Int} (ha:Bks a) (hb:Bks b) (x:Int):x∈zh a b↔x∈a++b:=by
 unfold zh
 rw[List.mem_filter,List.mem_append]
 constructor
 ·rintro⟨-,h⟩;simpa using h
 ·intro h
  refine⟨?_,by simpa using h⟩
  have hx:0≤x∧x<4:=h.elim (λh=>ha x h) (λh=>hb x h)
  have:x=0∨x=1∨x=2∨x=3:=by omega
  simpa using this
theorem afO {a b:List Int} (ha:Bks a) (hb:Bks b) {f:Nat→Int} {m:Nat} (hi:∀ p q,p<q→q<m→f p<f q) (hh:∀ x,Pn f m x↔x∈a++b):(List.range m).map f=zh a b:=by
 refine Td _ _ ?_ (VQ a b) (λx=>?_)
 ·rw[List.pairwise_map]
  refine List.Pairwise.imp_of_mem ?_ List.pairwise_lt_range
  intro p q _ hq hpq
  exact hi p q hpq (List.mem_range.1 hq)
 ·rw[zi ha hb,←hh,List.mem_map]
  constructor
  ·rintro⟨p,hp,rfl⟩;exact⟨p,List.mem_range.1 hp,rfl⟩
  ·rintro⟨p,hp,rfl⟩;exact⟨p,List.mem_range.2 hp,rfl⟩
theorem Tf:∀ xs:List Int,xs.flatMap xK=xs.map (λx=>Value.int .i64 x)
 | []=>rfl
 | x::xs=>by rw[List.flatMap_cons,Tf xs];rfl
theorem aeW {w:World} {v:Value} {xs:List Int} (h:ig w v xs) (hx:0<xs.length):∃ g c hh,v=.slice (some ⟨g,0,none⟩) xs.length c∧xs.length≤c∧c≤maxLen∧cO w g 3 c (sK xs.length (λj=>xs.getD j 0) hh):=by
 obtain⟨hl,⟨-,h0⟩|⟨g,cap,cur,rfl,-,hh,Hl,jT,vV,UO⟩⟩:=h
 ·omega
 ·refine⟨g,cap,λj=>cur.getD j undef,rfl,Hl,jT,cur,hh,by omega,λk hk=>?_⟩
  unfold sK
  have hkc:k<cur.size:=by omega
  by_cases BO:k<xs.length
  ·rw[if_pos BO]
   have h1:(cur.toList.take (xs.length *1))[k]? =(xs.flatMap xK)[k]? :=by rw[UO]
   rw[List.getElem?_take,if_pos (by omega),Tf,List.getElem?_map,Array.getElem?_toList]at h1
   rw[h1,List.getElem?_eq_getElem BO]
   simp[List.getD_eq_getElem?_getD,List.getElem?_eq_getElem BO]
  ·rw[if_neg BO]
   simp[Array.getD,hkc]
theorem ahS {w:World} {g c m:Nat} {f:Nat→Int} {hh:Nat→Value} (h:cO w g 3 c (sK m f hh)) (hmc:m≤c) (jT:c≤maxLen):BU w (.slice (some ⟨g,0,none⟩) m c) ((List.range m).map f):=by
 refine⟨_,c,by simp,by simpa using hmc,jT,.inr ⟨g,0,rfl,h.lt,λi x hx j u hu=>?_⟩⟩
 rw[List.getElem?_map]at hx
 have him:i<m:=by
  rcases Nat.lt_or_ge i m with h1|h1
  ·exact h1
  ·rw[List.getElem?_eq_none (by simpa using h1)]at hx;cases hx
 rw[List.getElem?_range him]at hx
 cases hx
 have hj:j=0:=by have:=(Ge hu).1;simpa using this
 subst hj
 cases hu
 have:=h.cell (k:=i) (by omega)
 rw[show sK m f hh i=.int .i64 (f i) from if_pos him]at this
 have e:0+i *1+0=i:=by omega
 rw[e];exact this
theorem Qk (a b:List Int) (u1 u2:Value) (w:World) (ha:BU w u1 a) (hb:BU w u2 b) (hka:Bks a) (O7:Bks b) (hla:a.length≤4) (NZ:b.length≤4) (hb0:0<b.length):
  gK Tryz.prog 165 #[u1,u2] w λv w'=>aB w w'∧JQ w' v (zh a b)∧∀ k,v.ownBlock=some k→w.heap.size≤k:=by
 have HRA:=Zh ha
 have HRB:=Zh hb
 obtain⟨A1,c3,rfl,-⟩:=ha.int
 obtain⟨A2,c4,rfl,-⟩:=hb.int
 clear ha hb
 refine Fi (n:=14) Tryz.func165 ?_;intro A hd hA;simp only[ix,Nat.reduceAdd]
 repeat'(first|refine aF ?_|refine au ?_|refine ak (λK hK=>?_)|refine aj ?_|(refine dI (λx K hK=>?_);go_simp;refine hK _ _ (aB.alloc _ _) ?_;clear hK K;refine aZ x ?_;generalize (World.ah _ x).heap.size=bn;intro yn aU bD bC bG aS;clear x)|go_step)
 have c0:(w.ah yn).cell? ⟨bn,0,none⟩=some (.slice A1 a.length c3):=by rw[bC];rfl
 have c1:(w.ah yn).cell? ⟨bn,1,none⟩=some (.slice A2 b.length c4):=by rw[bC];rfl
 have hyw:=yn.ext.size
 refine aX Tryz.func214 (Qa a b _ _ bn _ (HRA.out.ah yn.ext) (HRB.out.ah yn.ext) bD c0 c1 hb0 (by omega)) (λr w1 hR=>?_)
 obtain⟨kY,Ba,QD⟩:=hR
 obtain⟨g,c,hh,rfl,Hl,jT,hB⟩:=aeW Ba (by simp;omega)
 have qO:=Zh (Et yn.ext kY)
 have hgw:w.heap.size≤g:=by have:=QD g rfl;omega
 have hl8:(a++b).length≤8:=by simp;omega
 obtain⟨n,hn⟩:∃ n,n=(a++b).length:=⟨_,rfl⟩
 rw[←hn]at Hl hB hl8 ⊢
 have HB:=Zh hB
 have HHA:Hid (∀x,Pn (λj=>(a++b).getD j 0) n x↔x∈a++b):=Zh (λx=>by
  subst hn
  constructor
  ·rintro⟨j,hj,rfl⟩
   show (a++b).getD j 0∈a++b
   rw[List.getD_eq_getElem?_getD,List.getElem?_eq_getElem hj];exact List.getElem_mem hj
  ·intro h
   obtain⟨j,hj,rfl⟩:=List.mem_iff_getElem.1 h
   exact⟨j,hj,by simp[List.getD_eq_getElem?_getD,List.getElem?_eq_getElem hj]⟩)
 clear Ba QD kY hB aU bD bC bG aS c0 c1 hn
 repeat'(first|refine aF ?_|refine au ?_|refine ak (λK hK=>?_)|refine aj ?_|go_step)
 refine aX Tryz.func149 (VJ g n c _ hh _ HB.out Hl jT hl8) (λr w2 hR=>?_)
 obtain⟨kL,f2,Fh,JK,hh2⟩:=hR
 have IK:=Zh kL
 clear kL HB
 repeat'(first|refine aF ?_|refine au ?_|refine ak (λK hK=>?_)|refine aj ?_|go_step)
 refine aX Tryz.func215 (NG g n c f2 hh _ Fh Hl jT hl8 JK) (λr w3 hR=>?_)
 obtain⟨jd,m,f3,h3,rfl,hmn,ru,hi3,hh3⟩:=hR
 repeat'(first|refine aF ?_|refine au ?_|refine aC ?_|go_step)
 refine aA hd ⟨?_,?_,?_⟩
 ·exact aB.bK (aB.bK qO.out IK.out (λk hk=>by subst hk;exact hgw)) jd (λk hk=>by subst hk;exact hgw)
 ·rw[←afO hka O7 hi3 (λx=>(hh3 x).trans ((hh2 x).trans (HHA.out x)))]
  exact⟨ahS ru (by omega) jT,λk hk=>by cases hk;exact ru.lt⟩
 ·intro k hk;cases hk;exact hgw
theorem aeX {k:Nat} (hk:k<([Value.int .i64 0,.int .i64 0,.int .i64 0,.slice none 0 0]:List Value).length):([Value.int .i64 0,.int .i64 0,.int .i64 0,.slice none 0 0]:List Value)[k]? =some (#[Value.int .i64 0,.int .i64 0,.int .i64 0,.slice none 0 0].getD k undef):=by
 simp only[List.length_cons,List.length_nil]at hk
 obtain rfl|rfl|rfl|rfl:k=0∨k=1∨k=2∨k=3:=by omega
 all_goals rfl
theorem Ti {w:World} {b:Nat} {F0:Nat→Prop} {s:aI} (h:oD w b F0 s) (hs:s.least≠0) (hct:fP s.counts=true) {u:Value} {l:List Int} (hu:BU w u l) (hul:l.length≤100000) (jm:∀ k,u.ownBlock=some k→l=[]∨¬ F0 k):
  gK Tryz.prog 115 #[.pointer (some ⟨b,0,none⟩),u] w λr w'=>(∃u',r=.tuple #[(s.alter l).v u',.int .i64 (s.jS l)]∧BU w' u' (s.alter l).isr)∧bF F0 w w'∧oD w' b (λk=>F0 k∨w.heap.size≤k) (s.qV l):=by
 refine h.abE (R:=λr w'=>∃ u',r=.tuple #[(s.alter l).v u',.int .i64 (s.jS l)]∧BU w' u' (s.alter l).isr) ?_
 intro F h abU RV
 have FC:=Zh h.yK
 have ao3:Hid (∀k,u.ownBlock=some k→l≠[]→k≠b):=Zh (λk hk hl e=>(jm k hk).elim hl (λh1=>h1 (abU k (by subst e;exact FC.out))))
 clear jm abU
 have HCT:=Zh hct
 clear hct
 have UG:=Zh RV
 clear RV
 have HP0:=h
 obtain⟨uL,uI,uC,h,hf⟩:=h.ex
 have H0:=h
 have BA:=Zh hf
 obtain⟨A1,c1,rfl,Na,Jr,-⟩:=h.IU.ent
 obtain⟨A2,c2,rfl,-⟩:=h.ri.int
 obtain⟨A3,c3,rfl,-⟩:=h.rc.int
 have zM:=Zh h.lt
 have qK:=h.gy.lt
 have HP:=Zh HP0
 have H:=Zh H0
 have HU:=Zh hu
 obtain⟨A0,c0,rfl,hc,jT,-⟩:=hu.int
 clear h hf H0 HP0 hu
 refine uh Tryz.func115 rfl (Nat.le_of_ble_eq_true rfl) ?_;intro A hd hA;simp only[ix,Nat.reduceAdd];replace hA:A.tmps.size=94:=hA
 repeat'(first|refine au ?_|refine ak (λK hK=>?_)|refine aj ?_|(refine dI (λx K hK=>?_);go_simp;refine hK _ _ (aB.alloc _ _) ?_;clear hK K;refine aZ x ?_;generalize (World.ah _ x).heap.size=bn;intro yn aU bD bC bG aS;clear x)|go_step)
 rename_i bv yv p1 p2 p3 p4 p5
 refine um (be:=bn) hd hA (λW hE=>by unfold execOp gI;go_simp) ?_;have wL:=Zh (cO.one aS.out);clear hd hA A;intro A hd hA;obtain⟨be,PY⟩:∃ be:Nat,be=bn:=⟨_,rfl⟩;subst PY
 have hE:aB w ((w.ah yv).ah yn):=by simp
 have HE:=Zh hE
 have oV:=Zh wL.out
 have uw:=Zh ((cO.new p5.out).ah yn.ext)
 have jm:bv≠be:=by omega
 have aki:w.heap.size≤bv:=by omega
 have aeY:w.heap.size≤be:=by have:=yv.ext.size;omega
 have Vs:=Zh (HP.out.ah hE)
 have H1:=Zh (H.out.ah hE)
 have HU1:=Zh (HU.out.ah hE)
 generalize World.ah _ yn=W at *
 clear wL hE p1 p2 p3 p4 p5 aU bD bC bG aS yn yv
 obtain⟨hlt,d0,d1,d2,d3,d8,d9,d10,d11,d12,d13,DR⟩:=H1.out.cells
 have BRK:Hid (Pure Tryz.prog 164 #[.slice A0 l.length c0] W (.bool (fP l))):=Zh (oq l _ W HU1.out)
 have CON:Hid (∀x,Pure Tryz.prog 148 #[.slice A0 l.length c0,.int .i64 x] W (.bool (decide (x∈l)))):=Zh (λx=>eX l _ x W HU1.out)
 by_cases q1:fP l=true
 ·rw[q1]at BRK
  by_cases q2:s.self∈l
  ·have q2b:decide (s.self∈l)=true:=by simpa using q2
   have D6:s.zW l=true:=by unfold aI.zW;rw[q1,q2b];rfl
   by_cases q3:s.role=3
   ·have q3b:(s.role==3)=true:=by simp[q3]
    have HBK:=Zh (nN q1)
    have HLN:Hid (l≠[]):=Zh (λe=>by rw[e]at q2;cases q2)
    have HUN:Hid (∀k,(Value.slice A0 l.length c0).ownBlock=some k→k≠b):=Zh (λk hk=>ao3.out k hk HLN.out)
    have hl4:=qj q1
    have akT:=Zh D6
    have Ir:=Zh q3
    obtain⟨A9,c9,hA9,-,-,HC⟩:=HU1.out.int
    cases hA9
    clear q1 q3 D6
    repeat'(first|refine aN Tryz.func69 (jK Vs.out hs) ?_|(refine aN Tryz.func161 (dZ 1) ?_)|refine aN Tryz.func164 (BRK.out) ?_|(refine aN Tryz.func148 (CON.out _) ?_)|(refine aN Tryz.func161 (dZ 2) ?_)|(refine aN Tryz.func161 (dZ 211) ?_)|refine dw ?_|refine aF ?_|refine au ?_|refine ak (λK hK=>?_)|refine aj ?_|refine aJ ?_|go_step)
    refine dJ [0,1,4,5,29,30,31] (λm vs w'=>∃ k:Nat,w'=W∧k+m=l.length∧vs=[.pointer (some ⟨b,0,none⟩),.slice A0 l.length c0,.pointer (some ⟨bv,0,none⟩),.pointer (some ⟨be,0,none⟩),.slice A0 l.length c0,.int .i64 l.length,.int .i64 k]∧(l.drop k).all s.uM=l.all s.uM) l.length hd hA (by decide) ⟨0,rfl,by omega,by simp,by simp⟩ ?_
    clear hd hA A;intro m vs B w' hd hA _ ⟨k,hw,hkm,jk,qR⟩;subst hw jk
    have HM:=Zh qR
    clear qR
    simp only[List.zip_cons_cons,List.zip_nil_right,List.zip_nil_left]
    by_cases Xb:k<l.length
    ·obtain⟨x,b0,o,HX,rfl,hb0,c00⟩:=HC.out k Xb
     have sZ:(k:Int)<l.length:=by omega
     obtain⟨hx0,hx4⟩:=HBK.out x (zI HX.out)
     have HDR:=Zh (Kw HX.out)
     clear HX
     have BO:=H1.out.JR x.toNat (by omega)
     by_cases mm:x∈s.isr
     ·have mb:decide (x∈s.isr)=true:=by simpa using mm
      have HIS:Hid (s.uM x=true):=Zh (by unfold aI.uM;rw[mb];rfl)
      clear mm
      repeat'(first|refine aF ?_|refine au ?_|refine ak (λK hK=>?_)|refine aj ?_|refine aG ?_|refine aJ ?_|refine bH ?_|go_step)
      refine dn [(0,0),(1,0),(2,0),(3,0),(4,0),(5,0),(6,1),(7,0),(8,0),(9,0),(10,0),(11,0),(12,0),(13,0),(14,0),(15,0),(16,0),(17,0),(18,0),(19,0),(20,0),(21,0),(22,0),(23,0),(24,0),(25,0),(26,0),(27,1)] (by kernel_rfl) (by kernel_rfl) ?_
      repeat'(first|(refine dN Tryz.func148 (λy=>eX s.isr _ x _ (H1.out.ri.ah y.ext).rd) ?_)|(refine dN Tryz.func161 (λ_=>dZ 213) ?_)|refine aF ?_|refine mg ?_|refine jF ?_|refine aQ ?_|refine au ?_|refine aj ?_|go_step)
      exact⟨_,_,rfl,hd,hA,m-1,by omega,k+1,by simp,by omega,by simp,by rw[←HM.out,HDR.out,List.all_cons,HIS.out,Bool.true_and]⟩
     ·have mb:decide (x∈s.isr)=false:=by simpa using mm
      clear mm
      by_cases z:s.known x.toNat<(if s.high<s.qM then s.qM else s.high)
      ·have HIS:Hid (s.uM x=false):=Zh (by unfold aI.uM;rw[mb,Bool.false_or];unfold ku;exact decide_eq_false (by omega))
       have jB:s.LK l=false:=by
        show l.all s.uM=false
        rw[←HM.out,HDR.out,List.all_cons,HIS.out];rfl
       have bT:s.jS l=213:=by unfold aI.jS;rw[if_neg (by rw[akT.out];decide),if_neg (by rw[Ir.out];decide),if_pos jB]
       have Jt:s.alter l=⟨0,0,0,[]⟩:=by unfold aI.alter;rw[if_neg (by rw[bT];decide)]
       have QH:s.qV l=s:=by unfold aI.qV;rw[if_neg (by rw[bT];decide)]
       have KJ:=Zh bT
       have HAL:=Zh Jt
       have HPR:=Zh QH
       have zb:decide ((if s.high<s.qM then s.qM else s.high)≤s.known x.toNat)=false:=decide_eq_false (by omega)
       have z2:¬ (if s.high<s.qM then s.qM else s.high)≤s.known x.toNat:=by omega
       clear bT Jt QH jB
       repeat'(first|refine aF ?_|refine au ?_|refine ak (λK hK=>?_)|refine aj ?_|refine aG ?_|refine aJ ?_|refine bH ?_|go_step)
       refine Ec [(0,0),(1,0),(2,0),(3,0),(4,0),(5,0),(6,1),(7,0),(8,0),(9,0),(10,0),(11,0),(12,0),(13,0),(14,0),(15,0),(16,0),(17,0),(18,0),(19,0),(20,0),(21,0),(22,0),(23,0),(24,0),(25,0),(26,0)] 27 (by kernel_rfl) (by kernel_rfl) ?_
       repeat'(first|(refine dN Tryz.func148 (λy=>eX s.isr _ x _ (H1.out.ri.ah y.ext).rd) ?_)|refine dw ?_|refine aF ?_|refine aQ ?_|fail)
       refine mM (lv:=[.bool false,.int .i64 213]) Tryz.func161 (jD 213) (λc w' hC=>?_) (hlv:=by first|rfl|(exact congrArg (λx=>[Value.bool x,Value.int .i64 213]) zb))
       obtain⟨rfl,fD⟩:=hC
       refine uS (cs:=[Value.int .i64 0,.int .i64 0,.int .i64 0,.slice none 0 0]) hd (oV.out.ah fD) (uw.out.ah fD) (λk hk=>aeX hk) jm (λW1 hM=>?_) Tryz.underlying99
       have oQ:=aB.bK (Et HE.out fD) hM (λk hk=>by subst hk;exact aeY)
       exact⟨⟨_,by rw[KJ.out,HAL.out],by rw[HAL.out];exact Rd.nil _⟩,oQ.mono (λ_ _ h=>h.elim),by rw[HPR.out];exact(HP.out.ah oQ).mono (λk hk=>.inl hk)⟩
      ·have HIS:Hid (s.uM x=true):=Zh (by unfold aI.uM;rw[mb,Bool.false_or];unfold ku;exact decide_eq_true (by omega))
       have zb:decide ((if s.high<s.qM then s.qM else s.high)≤s.known x.toNat)=true:=decide_eq_true (by omega)
       have z2:(if s.high<s.qM then s.qM else s.high)≤s.known x.toNat:=by omega
       repeat'(first|refine aF ?_|refine au ?_|refine ak (λK hK=>?_)|refine aj ?_|refine aG ?_|refine aJ ?_|refine bH ?_|go_step)
       refine dn [(0,0),(1,0),(2,0),(3,0),(4,0),(5,0),(6,1),(7,0),(8,0),(9,0),(10,0),(11,0),(12,0),(13,0),(14,0),(15,0),(16,0),(17,0),(18,0),(19,0),(20,0),(21,0),(22,0),(23,0),(24,0),(25,0),(26,0),(27,1)] (by kernel_rfl) (by kernel_rfl) ?_
       repeat'(first|(refine dN Tryz.func148 (λy=>eX s.isr _ x _ (H1.out.ri.ah y.ext).rd) ?_)|(refine dN Tryz.func161 (λ_=>dZ 213) ?_)|refine dw ?_|refine aF ?_|refine aQ ?_|refine au ?_|refine aj ?_|go_step)
       exact⟨_,_,rfl,hd,hA,m-1,by omega,k+1,by simp,by omega,by simp,by rw[←HM.out,HDR.out,List.all_cons,HIS.out,Bool.true_and]⟩
    ·have sZ:¬ (k:Int)<l.length:=by omega
     have jB:s.LK l=true:=by
      show l.all s.uM=true
      rw[←HM.out,List.drop_eq_nil_of_le (by omega)];rfl
     have bT:s.jS l=0:=by unfold aI.jS;rw[if_neg (by rw[akT.out];decide),if_neg (by rw[Ir.out];decide),if_neg (by rw[jB];decide)]
     have Jt:s.alter l=⟨s.self,s.epoch,s.version,l⟩:=by unfold aI.alter;rw[if_pos bT]
     have QH:s.qV l={s with counts:=zh s.counts l}:=by unfold aI.qV;rw[if_pos bT]
     have KJ:=Zh bT
     have HAL:=Zh Jt
     have HPR:=Zh QH
     clear bT Jt QH jB
     have zu:0<l.length:=List.length_pos_iff.2 HLN.out
     repeat'(first|refine aF ?_|refine au ?_|refine ak (λK hK=>?_)|refine aj ?_|refine dS ?_|refine bJ ?_|go_step)
     refine aX Tryz.func165 (Qk s.counts l _ _ _ H1.out.rc.rd HU1.out (nN HCT.out) HBK.out (qj HCT.out) hl4 zu) (λr W2 hR=>?_)
     obtain⟨iU,hJ,hJn⟩:=hR
     obtain⟨A5,c5,rfl,-⟩:=hJ.int
     have HJ:=Zh hJ
     have HJN:=Zh hJn
     have H2:=Zh (H1.out.ah iU)
     have rO:=Zh (Et HE.out iU)
     have Np:=Zh (oV.out.ah iU)
     have akX:=Zh (uw.out.ah iU)
     have HU2:=Zh (HU1.out.ah iU)
     have hsW:=HE.out.size
     have auO:=uw.out.lt
     have awx:=oV.out.lt
     clear iU hJ hJn hlt d0 d1 d2 d3 d8 d9 d10 d11 d12 d13 DR oV uw HU1 H1
     obtain⟨hlt,d0,d1,d2,d3,d8,d9,d10,d11,d12,d13,DR⟩:=H2.out.cells
     repeat'(first|refine aF ?_|fail)
     refine aY (off:=3) H2.out.gy (λW3 jd ru=>?_)
     have Oo:=Zh (H2.out.aj2 jd ru (HJ.out.aW jd (λk hk e=>by subst e;have:=HJN.out _ hk;omega)) (λhk=>by have:=HJN.out _ hk;omega) (λk hk h2=>by have:=zM.out k (.inr (.inl hk));have:=HJN.out k h2;omega))
     have FB:Hid (bF (· =b) w W3):=Zh (bF.trans rO.out jd (λ_ _ h=>h.elim) (λ_ _ h=>h))
     have PZ:=Zh (Np.out.aW jd (λh=>by omega))
     have ahT:=Zh (akX.out.aW jd (λh=>by omega))
     have HU3:=Zh (HU2.out.aW jd (λk hk e=>HUN.out k hk e))
     clear jd ru Np akX HU2 H2 hlt d0 d1 d2 d3 d8 d9 d10 d11 d12 d13 DR
     obtain⟨hlt,d0,d1,d2,d3,d8,d9,d10,d11,d12,d13,DR⟩:=Oo.out.cells
     obtain⟨G,hG⟩:∃ G:Nat→Prop,G=(λk=>k=bv∨k=be):=⟨_,rfl⟩
     have hGb:¬ G b:=by subst hG;rintro(h|h)<;>omega
     have HGv:Hid (G bv):=Zh (by subst hG;exact .inl rfl)
     have HGe:Hid (G be):=Zh (by subst hG;exact .inr rfl)
     clear hG
     repeat'(first|refine au ?_|refine ak (λK hK=>?_)|go_step)
     refine xZ G [(0,0),(1,0),(2,0),(3,0),(4,0),(5,0),(6,0),(7,0),(8,0),(9,0),(10,0),(11,0),(12,0),(13,0),(14,1),(15,2),(16,0),(17,2),(18,0),(19,2),(20,0),(21,2),(22,0),(23,2),(24,2)] (by kernel_rfl) (by kernel_rfl) ?_
     repeat'(first|refine Jy ?_|fail)
     refine KP Tryz.func65 (R:=λv w'=>aB W3 w'∧ig w' v l∧∀ k,v.ownBlock=some k→W3.heap.size≤k) (λx=>gK.mono (fH (HU3.out.ah x.2) (by omega)) (λv w' hR=>⟨⟨Et x.2 hR.1,hR.2.1,λk hk=>Nat.le_trans x.2.size (hR.2.2 k hk)⟩,hR.1.mono (λ_ _ h=>h.elim)⟩)) (λr W4 hR=>?_)
     obtain⟨fD,uP,hN4⟩:=hR
     obtain⟨A6,m6,c6,rfl⟩:=aT uP
     have HO4:=Zh uP
     have HN4:=Zh hN4
     have Vu:=Zh fD
     have uw:=Zh (ahT.out.ah fD)
     have oV:=Zh (PZ.out.ah fD)
     have hs3:=FB.out.size
     have ahv:=ahT.out.lt
     have abV:=PZ.out.lt
     have VR:Hid (bF (λk=>k=bv∨k=be) W4 W4):=Zh (bF.refl _ _)
     clear fD uP hN4 ahT PZ HU3 hlt d0 d1 d2 d3 d8 d9 d10 d11 d12 d13 DR
     skip
     refine kM (off:=0) uw.out HGv.out (λW5 kJ Y3 pX=>?_)
     replace uw:=Zh pX
     replace oV:=Zh (oV.out.aW kJ (λh=>by omega))
     replace VR:=Zh (bF.trans VR.out kJ (λ_ _ h=>h) (λk _ h=>.inl h))
     clear kJ Y3 pX
     repeat'(first|refine Jy ?_|fail)
     refine kM (off:=0) uw.out HGv.out (λW5 kJ Y3 pX=>?_)
     replace uw:=Zh pX
     replace oV:=Zh (oV.out.aW kJ (λh=>by omega))
     replace VR:=Zh (bF.trans VR.out kJ (λ_ _ h=>h) (λk _ h=>.inl h))
     clear kJ Y3 pX
     repeat'(first|refine Jy ?_|fail)
     refine kM (off:=1) uw.out HGv.out (λW5 kJ Y3 pX=>?_)
     replace uw:=Zh pX
     replace oV:=Zh (oV.out.aW kJ (λh=>by omega))
     replace VR:=Zh (bF.trans VR.out kJ (λ_ _ h=>h) (λk _ h=>.inl h))
     clear kJ Y3 pX
     repeat'(first|refine Jy ?_|fail)
     refine kM (off:=2) uw.out HGv.out (λW5 kJ Y3 pX=>?_)
     replace uw:=Zh pX
     replace oV:=Zh (oV.out.aW kJ (λh=>by omega))
     replace VR:=Zh (bF.trans VR.out kJ (λ_ _ h=>h) (λk _ h=>.inl h))
     clear kJ Y3 pX
     repeat'(first|refine Jy ?_|fail)
     refine kM (off:=3) uw.out HGv.out (λW5 kJ Y3 pX=>?_)
     replace uw:=Zh pX
     replace oV:=Zh (oV.out.aW kJ (λh=>by omega))
     replace VR:=Zh (bF.trans VR.out kJ (λ_ _ h=>h) (λk _ h=>.inl h))
     clear kJ Y3 pX
     skip
     refine kM (off:=0) oV.out HGe.out (λW5 kJ Y3 pX=>?_)
     replace oV:=Zh pX
     replace uw:=Zh (uw.out.aW kJ (λh=>by omega))
     replace VR:=Zh (bF.trans VR.out kJ (λ_ _ h=>h) (λk _ h=>.inr h))
     clear kJ Y3 pX
     repeat'(first|refine Eh ?_)
     repeat'(first|refine aC ?_|go_step)
     have hMA:bF F w W5:=bF.trans (bF.trans FB.out Vu.out (λk _ h=>by subst h;exact FC.out) (λ_ _ h=>h.elim)) VR.out (λ_ _ h=>h) (λk hk h=>by rcases h with rfl|rfl<;>omega)
     refine F9 (cs:=[Value.int .i64 s.self,.int .i64 s.epoch,.int .i64 s.version,.slice A6 m6 c6]) hd (oV.out.congr (g':=λ_=>.int .i64 0) (λk hk=>by obtain rfl:k=0:=(by omega);rfl)) uw.out (aoV ⟨rfl,rfl,rfl,rfl⟩) ⟨⟨.slice A6 m6 c6,by rw[KJ.out,HAL.out],?_⟩,hMA,?_⟩ Tryz.underlying99
     ·rw[HAL.out]
      exact(HO4.out.aW VR.out (λk hk h=>by have:=HN4.out k hk;rcases h with rfl|rfl<;>omega)).rd (enc:=xK) (k:=1) (λ_=>rfl)
     ·rw[HPR.out]
      refine⟨_,_,_,(Oo.out.ah Vu.out).aW VR.out ?_,?_⟩
      ·rintro k (rfl|hk|hk|hk)
       ·rintro(h|h)<;>omega
       ·have:=zM.out k (.inr (.inl hk));rintro(h|h)<;>omega
       ·have:=zM.out k (.inr (.inr (.inl hk)));rintro(h|h)<;>omega
       ·have:=HJN.out k hk;rintro(h|h)<;>omega
      ·rintro k (rfl|hk|hk|hk)
       ·exact .inl FC.out
       ·exact .inl (BA.out k (.inr (.inl hk)))
       ·exact .inl (BA.out k (.inr (.inr (.inl hk))))
       ·exact .inr (by have:=HJN.out k hk;omega)
   ·have q3b:(s.role==3)=false:=by simp[q3]
    have bT:s.jS l=211:=by unfold aI.jS;rw[if_neg (by rw[D6];decide),if_pos q3]
    have Jt:s.alter l=⟨0,0,0,[]⟩:=by unfold aI.alter;rw[if_neg (by rw[bT];decide)]
    have QH:s.qV l=s:=by unfold aI.qV;rw[if_neg (by rw[bT];decide)]
    repeat'(first|refine aN Tryz.func69 (jK Vs.out hs) ?_|(refine aN Tryz.func161 (dZ 1) ?_)|refine aN Tryz.func164 (BRK.out) ?_|(refine aN Tryz.func148 (CON.out _) ?_)|(refine aN Tryz.func161 (dZ 2) ?_)|refine dw ?_|refine aF ?_|refine au ?_|refine ak (λK hK=>?_)|refine aj ?_|go_step)
    refine AZ Tryz.func161 (jD 211) (λc w' hC=>?_)
    obtain⟨rfl,fD⟩:=hC
    refine uS (cs:=[Value.int .i64 0,.int .i64 0,.int .i64 0,.slice none 0 0]) hd (oV.out.ah fD) (uw.out.ah fD) (λk hk=>aeX hk) jm (λW1 hM=>?_) Tryz.underlying99
    have oQ:=aB.bK (Et HE.out fD) hM (λk hk=>by subst hk;exact aeY)
    exact⟨⟨_,by rw[bT,Jt],by rw[Jt];exact Rd.nil _⟩,oQ.mono (λ_ _ h=>h.elim),by rw[QH];exact(HP.out.ah oQ).mono (λk hk=>.inl hk)⟩
  ·have q2b:decide (s.self∈l)=false:=by simpa using q2
   have bT:s.jS l=2:=by unfold aI.jS;rw[if_pos (by unfold aI.zW;rw[q1,q2b];rfl)]
   have Jt:s.alter l=⟨0,0,0,[]⟩:=by unfold aI.alter;rw[if_neg (by rw[bT];decide)]
   have QH:s.qV l=s:=by unfold aI.qV;rw[if_neg (by rw[bT];decide)]
   repeat'(first|refine aN Tryz.func69 (jK Vs.out hs) ?_|(refine aN Tryz.func161 (dZ 1) ?_)|refine aN Tryz.func164 (BRK.out) ?_|(refine aN Tryz.func148 (CON.out _) ?_)|refine dw ?_|refine aF ?_|refine au ?_|refine ak (λK hK=>?_)|refine aj ?_|go_step)
   refine AZ Tryz.func161 (jD 2) (λc w' hC=>?_)
   obtain⟨rfl,fD⟩:=hC
   refine uS (cs:=[Value.int .i64 0,.int .i64 0,.int .i64 0,.slice none 0 0]) hd (oV.out.ah fD) (uw.out.ah fD) (λk hk=>aeX hk) jm (λW1 hM=>?_) Tryz.underlying99
   have oQ:=aB.bK (Et HE.out fD) hM (λk hk=>by subst hk;exact aeY)
   exact⟨⟨_,by rw[bT,Jt],by rw[Jt];exact Rd.nil _⟩,oQ.mono (λ_ _ h=>h.elim),by rw[QH];exact(HP.out.ah oQ).mono (λk hk=>.inl hk)⟩
 ·have q1f:fP l=false:=by simpa using q1
  rw[q1f]at BRK
  have bT:s.jS l=2:=by unfold aI.jS;rw[if_pos (by unfold aI.zW;rw[q1f];rfl)]
  have Jt:s.alter l=⟨0,0,0,[]⟩:=by unfold aI.alter;rw[if_neg (by rw[bT];decide)]
  have QH:s.qV l=s:=by unfold aI.qV;rw[if_neg (by rw[bT];decide)]
  repeat'(first|refine aN Tryz.func69 (jK Vs.out hs) ?_|(refine aN Tryz.func161 (dZ 1) ?_)|refine aN Tryz.func164 (BRK.out) ?_|(refine pq ?_)|refine aF ?_|refine mg ?_|refine au ?_|refine ak (λK hK=>?_)|refine aj ?_|go_step)
  refine AZ Tryz.func161 (jD 2) (λc w' hC=>?_)
  obtain⟨rfl,fD⟩:=hC
  refine uS (cs:=[Value.int .i64 0,.int .i64 0,.int .i64 0,.slice none 0 0]) hd (oV.out.ah fD) (uw.out.ah fD) (λk hk=>aeX hk) jm (λW1 hM=>?_) Tryz.underlying99
  have oQ:=aB.bK (Et HE.out fD) hM (λk hk=>by subst hk;exact aeY)
  exact⟨⟨_,by rw[bT,Jt],by rw[Jt];exact Rd.nil _⟩,oQ.mono (λ_ _ h=>h.elim),by rw[QH];exact(HP.out.ah oQ).mono (λk hk=>.inl hk)⟩
theorem zk (s:aI):s.iT.version=s.version:=(Oz s).2.2.1
theorem Zr {s:aI} (h:s.oU) (a:aeT):(s.step a).oU:=by
 have hg:=h.bU
 have hv:=h.ver
 unfold aI.step
 split
 ·refine⟨VB hg _,?_⟩
  unfold aI.learn
  split
  ·rename_i hm
   have Xi:0≤a.view.version∧a.view.version≤2147483647:=by
    simp only[dL.BN,Bool.and_eq_true,rZ,decide_eq_true_eq]at hm
    exact hm.1.1.1.2
   split
   ·exact hv
   ·split
    ·unfold aI.pU
     split
     ·split
      ·show 0≤(s.Dp a.view).iT.version∧(s.Dp a.view).iT.version≤2147483647
       rw[zk];exact Xi
      ·exact hv
     ·split
      ·split<;>exact hv
      ·exact hv
    ·show 0≤aI.version (if a.view.leader= -1 then{s.Fq a.view with role:=1} else if a.view.leader=s.self then s.uZ a.view else s.Fq a.view)∧aI.version (if a.view.leader= -1 then{s.Fq a.view with role:=1} else if a.view.leader=s.self then s.uZ a.view else s.Fq a.view)≤2147483647
     split
     ·exact⟨Int.le_refl _,by show (0:Int)≤_;decide⟩
     ·split
      ·unfold aI.uZ
       rw[zk];exact Xi
      ·exact⟨Int.le_refl _,by show (0:Int)≤_;decide⟩
  ·exact hv
 ·split
  ·refine⟨ab1 hg _,?_⟩
   unfold aI.app;split<;>exact hv
  ·split
   ·refine⟨Vy hg,?_⟩
    unfold aI.flush;rw[zk];exact hv
   ·split
    ·refine⟨Vz hg _ _,?_⟩
     unfold aI.serve
     split
     ·exact hv
     ·split
      ·rw[zk];exact hv
      ·exact hv
    ·split
     ·refine⟨Y8 hg _,?_⟩
      unfold aI.take
      split
      ·exact hv
      ·split<;>exact hv
     ·split
      ·refine⟨Zq hg _,?_⟩
       unfold aI.qV;split<;>exact hv
      ·split
       ·refine⟨VE hg _,?_⟩
        unfold aI.crash
        split
        ·exact hv
        ·exact⟨Int.le_refl _,by show (0:Int)≤_;decide⟩
       ·exact h
section
variable {P : Program} {ops : Array Oper} {hs : List Nat} {Q : jo} {f : Nat} {listed : Array Bool} {A : Act} {fl : List (Nat × Value)} {w : World}
end
section
variable {w W W' : World} {b b9 b11 : Nat} {F X F' : Nat → Prop} {s s' : aI} {uL uI uC vL vI vC : Value}
end
structure eu where
 kind:Int
 to:Int
 part:Int
 view:dL
 fetch:pW
 reply:iM
 alter:Uy
 ent:cZ
def eu.zero:eu:=⟨0,0,0,⟨0,0,0,[]⟩,⟨0,0,0,0,0⟩,iM.zero,⟨0,0,0,[]⟩,⟨0,0,0,0,0,0⟩⟩
structure bV where
 kind:Int
 a:Int
 b:Int
 c:Int
 deriving DecidableEq,Inhabited
structure aO where
 ctl:aH
 gG:List (List aI)
 iq:List eu
namespace aO
variable (c : aO)
def rep (p b:Int):aI:=(c.gG.getD p.toNat []).getD b.toNat (aI.lI 0 1)
def aP (p b:Int) (r:aI):aO:={c with gG:=c.gG.set p.toNat ((c.gG.getD p.toNat []).set b.toNat r)}
def new (f:gB) (least:Int):aO:=⟨aH.new f,List.replicate f.parts.toNat ((qU f.aK).map λb=>aI.lI b least),[]⟩
def put (m:eu):aO:=if c.iq.length<256 then{c with iq:=c.iq++[m]} else c
def AX (m:eu):Bool:=m.kind==4||m.kind==6
def lC (m:eu):aO×Int:=
 if m.kind=4 then({c with ctl:=c.ctl.alter m.part m.alter.leader m.alter.epoch m.alter.version m.alter.isr},c.ctl.nS m.part m.alter.leader m.alter.epoch m.alter.version m.alter.isr) else
 if m.kind=6 then({c with ctl:=c.ctl.fO m.ent.id m.ent.num m.part},c.ctl.kK m.ent.id m.ent.num m.part) else
 if m.kind=1 then(c.aP m.part m.to ((c.rep m.part m.to).learn m.view).1,((c.rep m.part m.to).learn m.view).2) else
 if m.kind=2 then
  (if(c.rep m.part m.to).ji m.fetch 4=0∧c.ctl.aV m.fetch.mD=true
   then(c.aP m.part m.to ((c.rep m.part m.to).serve m.fetch 4)).put {eu.zero with kind:=3,to:=m.fetch.mD,part:=m.part,reply:=(c.rep m.part m.to).reply m.fetch 4}
   else c.aP m.part m.to ((c.rep m.part m.to).serve m.fetch 4),(c.rep m.part m.to).ji m.fetch 4) else
 if m.kind=3 then(c.aP m.part m.to ((c.rep m.part m.to).take m.reply),(c.rep m.part m.to).lD m.reply) else
 (c.aP m.part m.to ((c.rep m.part m.to).app m.ent),(c.rep m.part m.to).oI m.ent)
def l7 (a:Int):Nat:=(a.emod c.iq.length).toNat
def lq (i:Nat):aO:={c with iq:=c.iq.take i++c.iq.drop (i+1)}
def rC (x:bV):aO×Int:=
 if c.iq.length=0 then(c,5) else
 if x.kind=13 then(c.lq (c.l7 x.a),0) else
 if x.kind=12 then c.lC (c.iq.getD (c.l7 x.a) eu.zero) else
 (c.lq (c.l7 x.a)).lC (c.iq.getD (c.l7 x.a) eu.zero)
def qL (i:Int):aO×Int:=
 if c.ctl.id i=false then(c,2) else if(c.ctl.ay i).state≠2 then(c,5) else
 ({c with ctl:=c.ctl.lI i},if c.ctl.mP i=203 then 0 else c.ctl.mP i)
def zX (i:Int) (w:bW) (p to:Int):eu:={eu.zero with kind:=5,to:=to,part:=p,ent:=⟨0,i,w.num,0,w.state-1,0⟩}
def iY (i:Int) (w:bW):List Int→aO→aO
 | [],c=>c
 | p::ps,c=>iY i w ps (if 0≤(c.ctl.view p).leader then c.put (zX i w p (c.ctl.view p).leader) else c)
def mark (i:Int):aO×Int:=
 if c.ctl.id i=false then(c,2) else if(c.ctl.ay i).state<3 then(c,5) else(iY i (c.ctl.ay i) (c.ctl.ay i).parts c,0)
def jw (b dY:Int):List Int→aO→aO
 | [],c=>c
 | p::ps,c=>jw b dY ps (c.aP p b ((c.rep p b).crash dY).1)
def lK (n:Int) (x:Int):List Int:=(qU n).filter λb=>x/2^b.toNat%2==1
def sO (l:List cZ) (i:Int):Option Int:=((l.filter λe=>(e.id==i)&&(e.kind != 1)).getLast?).map (·.num)
def gU (p:Int) (l:List cZ):List Int→aO→aO
 | [],c=>c
 | i::is,c=>gU p l is (match sO l i with|some n=>c.put {eu.zero with kind:=6,to:= -1,part:=p,ent:=⟨0,i,n,0,0,0⟩}|none=>c)
def one (x:bV):aO×Int:=
 if x.kind=4 then(c.put {eu.zero with kind:=1,to:=x.b,part:=x.a,view:=c.ctl.view x.a},0) else
 if x.kind=5 then
  (if c.ctl.aV x.c=false then(c,2) else if(c.rep x.a x.b).role=2 then(c.put {eu.zero with kind:=2,to:=x.c,part:=x.a,fetch:=(c.rep x.a x.b).Us},0) else(c,211)) else
 if x.kind=6 then(c.aP x.a x.b (c.rep x.a x.b).flush,0) else
 if x.kind=8 then
  (if x.c<0∨2^c.ctl.form.aK.toNat≤x.c then(c,2) else
   (if(c.rep x.a x.b).jS (lK c.ctl.form.aK x.c)=0
    then(c.aP x.a x.b ((c.rep x.a x.b).qV (lK c.ctl.form.aK x.c))).put {eu.zero with kind:=4,to:= -1,part:=x.a,alter:=(c.rep x.a x.b).alter (lK c.ctl.form.aK x.c)}
    else c.aP x.a x.b ((c.rep x.a x.b).qV (lK c.ctl.form.aK x.c)),(c.rep x.a x.b).jS (lK c.ctl.form.aK x.c))) else
 if x.kind=10 then
  (if(c.rep x.a x.b).role≠3 then(c,211) else(gU x.a ((c.rep x.a x.b).log.take (c.rep x.a x.b).high.toNat) (qU c.ctl.form.ids) c,0)) else
 (c.aP x.a x.b ((c.rep x.a x.b).app ⟨0,-1,0,0,1,x.c⟩),(c.rep x.a x.b).oI ⟨0,-1,0,0,1,x.c⟩)
def step (x:bV):aO×Int:=
 if x.kind=1 then({c with ctl:=c.ctl.oK x.a x.b (x.c != 0)},c.ctl.oJ x.a x.b (x.c != 0)) else
 if x.kind=2 then({c with ctl:=c.ctl.fence x.a},c.ctl.iV x.a) else
 if x.kind=3 then({c with ctl:=c.ctl.lV x.a},c.ctl.nR x.a) else
 if x.kind=7 then(if c.ctl.aV x.a=false∨x.b<0 then(c,2) else(jw x.a x.b (qU c.ctl.form.parts) c,0)) else
 if x.kind=9 then c.mark x.a else
 if x.kind=11∨x.kind=12∨x.kind=13 then c.rC x else
 if x.kind=15 then c.qL x.a else
 if x.kind=4∨x.kind=5∨x.kind=6∨x.kind=8∨x.kind=10∨x.kind=14 then(if(c.ctl.part x.a&&c.ctl.aV x.b)=false then(c,2) else c.one x) else(c,2)
def dR (p:Int):List cZ:=(c.gG.getD p.toNat []).foldl (λout r=>if(out.length:Int)<r.high then r.log.take r.high.toNat else out) []
end aO
structure Gt (f:gB) (m:eu):Prop where
 kind:1≤m.kind∧m.kind≤7
 part:0≤m.part∧m.part<f.parts
 to:aO.AX m=false→0≤m.to∧m.to<f.aK
 tom:aO.AX m=true→m.to= -1
 isr:m.view.isr.length≤1000
 entries:m.reply.entries.length≤1000
 alter:m.alter.isr.length≤1000
structure aO.dH (c:aO):Prop where
 ctl:c.ctl.dH
 rlen:c.gG.length=c.ctl.form.parts.toNat
 row:∀ l∈c.gG,l.length=c.ctl.form.aK.toNat
 fine:∀ l∈c.gG,∀r∈l,r.oU
 Ql:c.iq.length≤256
 msgs:∀ m∈c.iq,Gt c.ctl.form m
end Go.Ws
namespace Go.Ws
open Go Go.RowKit Go.Proofs
set_option maxHeartbeats 4000000
set_option maxRecDepth 100000
set_option linter.unusedVariables false
set_option linter.unusedSimpArgs false
section
variable {m : aH}
theorem zY (p b:Int) (u:Bool):(m.oK p b u).form=m.form:=by unfold aH.oK;split<;>rfl
theorem zZ (b:Int):(m.fence b).form=m.form:=by unfold aH.fence;split<;>rfl
theorem uN (b:Int):(m.lV b).form=m.form:=by unfold aH.lV;split<;>rfl
theorem Ad (p l e v:Int) (isr:List Int):(m.alter p l e v isr).form=m.form:=by unfold aH.alter;split<;>rfl
theorem DC (i:Int):(m.lI i).form=m.form:=by unfold aH.lI;split<;>rfl
theorem yh (i n p:Int):(m.fO i n p).form=m.form:=by unfold aH.fO;split<;>rfl
end
section
variable {c : aO}
theorem aO.dH.yt (h:c.dH) {m:aH} (hm:m.dH) (hf:m.form=c.ctl.form):({c with ctl:=m}:aO).dH:=
 ⟨hm,by rw[show (({c with ctl:=m}:aO).ctl.form)=c.ctl.form from hf];exact h.rlen,by rw[show (({c with ctl:=m}:aO).ctl.form)=c.ctl.form from hf];exact h.row,h.fine,h.Ql,by rw[show (({c with ctl:=m}:aO).ctl.form)=c.ctl.form from hf];exact h.msgs⟩
theorem wX (h:c.dH) {m:eu} (hm:Gt c.ctl.form m):(c.put m).dH:=by
 unfold aO.put
 split
 ·refine⟨h.ctl,h.rlen,h.row,h.fine,by show (c.iq++[m]).length≤256;simp;omega,?_⟩
  intro x hx
  rcases List.mem_append.1 hx with hx|hx
  ·exact h.msgs x hx
  ·obtain rfl:x=m:=by simpa using hx
   exact hm
 ·exact h
theorem JY (m:eu):(c.put m).ctl=c.ctl∧(c.put m).gG=c.gG:=by unfold aO.put;split<;>exact⟨rfl,rfl⟩
theorem kQ (h:c.dH) (p b:Int) {r:aI} (hr:r.oU):(c.aP p b r).dH:=by
 refine⟨h.ctl,by show (c.gG.set _ _).length=_;rw[List.length_set];exact h.rlen,?_,?_,h.Ql,h.msgs⟩
 ·intro l hl
  by_cases hp:p.toNat<c.gG.length
  ·rcases List.mem_or_eq_of_mem_set hl with hl|rfl
   ·exact h.row l hl
   ·show ((c.gG.getD p.toNat []).set _ _).length=c.ctl.form.aK.toNat
    rw[List.length_set];exact h.row _ (mY hp)
  ·have:(c.aP p b r).gG=c.gG:=List.set_eq_of_length_le (by omega)
   rw[this]at hl;exact h.row l hl
 ·intro l hl x hx
  by_cases hp:p.toNat<c.gG.length
  ·rcases List.mem_or_eq_of_mem_set hl with hl|rfl
   ·exact h.fine l hl x hx
   ·rcases List.mem_or_eq_of_mem_set hx with hx|rfl
    ·exact h.fine _ (mY hp) x hx
    ·exact hr
  ·have:(c.aP p b r).gG=c.gG:=List.set_eq_of_length_le (by omega)
   rw[this]at hl;exact h.fine l hl x hx
theorem aO.dH.rep (h:c.dH) {p b:Int} (hp:0≤p∧p<c.ctl.form.parts) (hb:0≤b∧b<c.ctl.form.aK):(c.rep p b).oU:=by
 have h1:=h.rlen
 have h2:c.gG.getD p.toNat []∈c.gG:=mY (by omega)
 have h3:=h.row _ h2
 exact h.fine _ h2 _ (mY (by omega))
theorem wE (h:c.dH) (i:Nat):(c.lq i).dH:=by
 refine⟨h.ctl,h.rlen,h.row,h.fine,?_,?_⟩
 ·show (c.iq.take i++c.iq.drop (i+1)).length≤256
  have:=h.Ql
  rw[List.length_append,List.length_take,List.length_drop];omega
 ·intro x hx
  rcases List.mem_append.1 hx with hx|hx
  ·exact h.msgs x (List.mem_of_mem_take hx)
  ·exact h.msgs x (List.mem_of_mem_drop hx)
theorem Af {s:aI} (h:s.oU) (a:aeT) {t:aI} (ht:s.step a=t):t.oU:=ht▸Zr h a
theorem LM {s:aI} (h:s.oU) (v:dL):(s.learn v).1.oU:=Af h {kind:=1,n:=0,near:=false,view:=v,ent:=⟨0,0,0,0,0,0⟩,fetch:=⟨0,0,0,0,0⟩,reply:=iM.zero,list:=[]} rfl
theorem CV {s:aI} (h:s.oU) (e:cZ):(s.app e).oU:=Af h {kind:=2,n:=0,near:=false,view:=⟨0,0,0,[]⟩,ent:=e,fetch:=⟨0,0,0,0,0⟩,reply:=iM.zero,list:=[]} rfl
theorem LP {s:aI} (h:s.oU):s.flush.oU:=Af h {kind:=3,n:=0,near:=false,view:=⟨0,0,0,[]⟩,ent:=⟨0,0,0,0,0,0⟩,fetch:=⟨0,0,0,0,0⟩,reply:=iM.zero,list:=[]} rfl
theorem LQ {s:aI} (h:s.oU) (f:pW) (n:Int):(s.serve f n).oU:=Af h {kind:=5,n:=n,near:=false,view:=⟨0,0,0,[]⟩,ent:=⟨0,0,0,0,0,0⟩,fetch:=f,reply:=iM.zero,list:=[]} rfl
theorem Ii {s:aI} (h:s.oU) (p:iM):(s.take p).oU:=Af h {kind:=6,n:=0,near:=false,view:=⟨0,0,0,[]⟩,ent:=⟨0,0,0,0,0,0⟩,fetch:=⟨0,0,0,0,0⟩,reply:=p,list:=[]} rfl
theorem Ij {s:aI} (h:s.oU) (l:List Int):(s.qV l).oU:=Af h {kind:=7,n:=0,near:=false,view:=⟨0,0,0,[]⟩,ent:=⟨0,0,0,0,0,0⟩,fetch:=⟨0,0,0,0,0⟩,reply:=iM.zero,list:=l} rfl
theorem Ag {s:aI} (h:s.oU) (n:Int):(s.crash n).1.oU:=Af h {kind:=8,n:=n,near:=false,view:=⟨0,0,0,[]⟩,ent:=⟨0,0,0,0,0,0⟩,fetch:=⟨0,0,0,0,0⟩,reply:=iM.zero,list:=[]} rfl
theorem OJ {b least:Int} (hb:0≤b∧b<4) (hl:1≤least∧least≤4):(aI.lI b least).oU:=
 ⟨Y7 (by simp[pF,rZ];omega),by show (0:Int)≤0∧(0:Int)≤_;decide⟩
theorem OL {f:gB} {least:Int} (hf:f.right=true) (hl:1≤least∧least≤4):(aO.new f least).dH:=by
 have hr:=gB.dX hf
 refine⟨OA hf,by show (List.replicate _ _).length=_;simp[aO.new,aH.new],?_,?_,by simp[aO.new],λm hm=>by cases hm⟩
 ·intro l hl
  obtain⟨-,rfl⟩:=List.mem_replicate.1 hl
  show ((qU f.aK).map _).length=f.aK.toNat
  simp[qU]
 ·intro l zF r tC
  obtain⟨-,rfl⟩:=List.mem_replicate.1 zF
  obtain⟨b,hb,rfl⟩:=List.mem_map.1 tC
  have:=uU.1 hb
  exact OJ (by omega) hl
theorem Ik (s:aI) (f:pW):(s.reply f 4).entries.length≤4:=by
 unfold aI.reply
 split
 ·exact Nat.zero_le _
 ·split
  ·show ((s.log.drop f.offset.toNat).take (iD 4 4096).toNat).length≤4
   rw[List.length_take]
   have:(iD 4 4096).toNat=4:=by decide
   omega
  ·exact Nat.zero_le _
theorem LU (h:c.dH) {m:eu} (hm:Gt c.ctl.form m):(c.lC m).1.dH:=by
 unfold aO.lC
 split
 ·exact h.yt (Le h.ctl _ _ _ _ _) (Ad _ _ _ _ _)
 rename_i k4
 split
 ·exact h.yt (IY h.ctl _ _ _) (yh _ _ _)
 rename_i k6
 have hmt:aO.AX m=false:=by simp[aO.AX,k4,k6]
 have bP:=hm.to hmt
 have hr:=h.rep hm.part bP
 split
 ·exact kQ h _ _ (LM hr _)
 split
 ·show (if _ then _ else _:aO).dH
  have h1:=kQ h m.part m.to (LQ hr m.fetch 4)
  split
  ·rename_i hs
   have hb:=dV hs.2
   refine wX h1 ⟨by show (1:Int)≤3∧(3:Int)≤7;decide,hm.part,λ_=>hb,(λe=>by cases e),by show (0:Nat)≤1000;omega,?_,by show (0:Nat)≤1000;omega⟩
   show ((c.rep m.part m.to).reply m.fetch 4).entries.length≤1000
   have:=Ik (c.rep m.part m.to) m.fetch
   omega
  ·exact h1
 split
 ·exact kQ h _ _ (Ii hr _)
 ·exact kQ h _ _ (CV hr _)
theorem CW (h:c.iq.length≠0) (a:Int):c.l7 a<c.iq.length:=by
 unfold aO.l7
 have h1:(0:Int)<c.iq.length:=by omega
 have h2:=Int.emod_lt_of_pos a h1
 have h3:=Int.emod_nonneg a (by omega:(c.iq.length:Int)≠0)
 show (a%(c.iq.length:Int)).toNat<_
 omega
theorem Qm (h:c.dH) (x:bV):(c.rC x).1.dH:=by
 unfold aO.rC
 split
 ·exact h
 ·rename_i h0
  have hm:=h.msgs _ (mY (d:=eu.zero) (CW h0 x.a))
  split
  ·exact wE h _
  ·split
   ·exact LU h hm
   ·exact LU (wE h _) hm
theorem Tj (h:c.dH) (i:Int):(c.qL i).1.dH:=by
 unfold aO.qL
 split
 ·exact h
 ·split
  ·exact h
  ·exact h.yt (VF h.ctl i) (DC i)
theorem Ah (i:Int) (w:bW):∀ (ps:List Int) (c:aO),c.dH→(∀p∈ps,0≤p∧p<c.ctl.form.parts)→(aO.iY i w ps c).dH
 | [],c,h,_=>h
 | p::ps,c,h,hp=>by
  unfold aO.iY
  have hpp:=hp p (by simp)
  split
  ·rename_i hl
   have hv:=h.ctl.view (p:=p) (by simp[aH.part];omega)
   have h1:(c.put (aO.zX i w p (c.ctl.view p).leader)).dH:=wX h ⟨by show (1:Int)≤5∧(5:Int)≤7;decide,hpp,λ_=>⟨hl,hv.uZ.2⟩,(λe=>by cases e),by show (0:Nat)≤1000;omega,by show (0:Nat)≤1000;omega,by show (0:Nat)≤1000;omega⟩
   exact Ah i w ps _ h1 (λq hq=>by rw[(JY _).1];exact hp q (by simp[hq]))
  ·exact Ah i w ps c h (λq hq=>hp q (by simp[hq]))
theorem Zt (h:c.dH) (i:Int):(c.mark i).1.dH:=by
 unfold aO.mark
 split
 ·exact h
 ·rename_i hi
  split
  ·exact h
  ·exact Ah i _ _ c h (h.ctl.ay (by simpa using hi)).parts
theorem Em (b dY:Int) (hb:∀ c:aO,c.dH→True):∀ (ps:List Int) (c:aO),c.dH→(0≤b∧b<c.ctl.form.aK)→(∀p∈ps,0≤p∧p<c.ctl.form.parts)→(aO.jw b dY ps c).dH
 | [],c,h,_,_=>h
 | p::ps,c,h,h1,hp=>by
  unfold aO.jw
  exact Em b dY hb ps _ (kQ h p b (Ag (h.rep (hp p (by simp)) h1) dY)) h1 (λq hq=>hp q (by simp[hq]))
theorem wZ (p:Int) (l:List cZ):∀ (is:List Int) (c:aO),c.dH→(0≤p∧p<c.ctl.form.parts)→(aO.gU p l is c).dH
 | [],c,h,_=>h
 | i::is,c,h,hp=>by
  unfold aO.gU
  split
  ·refine wZ p l is _ (wX h ⟨by show (1:Int)≤6∧(6:Int)≤7;decide,hp,(λe=>by cases e),λ_=>rfl,by show (0:Nat)≤1000;omega,by show (0:Nat)≤1000;omega,by show (0:Nat)≤1000;omega⟩) (by rw[(JY _).1];exact hp)
  ·exact wZ p l is c h hp
theorem OM (s:aI) (l:List Int):(s.alter l).isr.length≤l.length:=by
 unfold aI.alter;split
 ·exact Nat.le_refl _
 ·exact Nat.zero_le _
theorem VT {n:Int} (hn:n≤4) (x:Int):(aO.lK n x).length≤4:=by
 unfold aO.lK
 refine Nat.le_trans (List.length_filter_le _ _) ?_
 simp[qU];omega
theorem acu (h:c.dH) (x:bV) (hp:c.ctl.part x.a=true) (hb:c.ctl.aV x.b=true):(c.one x).1.dH:=by
 have BP:=fV hp
 have JL:=dV hb
 have hr:=h.rep BP JL
 have hf:=gB.dX h.ctl.right
 unfold aO.one
 split
 ·have hv:=h.ctl.view hp
  refine wX h ⟨by show (1:Int)≤1∧(1:Int)≤7;decide,BP,λ_=>JL,(λe=>by cases e),?_,by show (0:Nat)≤1000;omega,by show (0:Nat)≤1000;omega⟩
  show (c.ctl.view x.a).isr.length≤1000
  have:fP (c.ctl.view x.a).isr=true∨True:=.inr trivial
  have hl:∀ (l:List Int) (k:Int),(∀b∈l,k≤b∧b<c.ctl.form.aK)→l.Pairwise (· < ·)→(l.length:Int)≤c.ctl.form.aK-k∨l=[]:=by
   intro l
   induction l with
   | nil=>intro k _ _;exact .inr rfl
   | cons a l ih=>
    intro k h1 h2
    obtain⟨h3,h4⟩:=List.pairwise_cons.1 h2
    have ha:=h1 a (by simp)
    rcases ih (a+1) (λb hb=>by have:=h3 b hb;have:=(h1 b (by simp[hb])).2;omega) h4 with h5|rfl
    ·left;rw[List.length_cons];push_cast;omega
    ·left;simp;omega
  rcases hl _ 0 hv.isr hv.rise with h1|h1
  ·omega
  ·rw[h1];simp
 split
 ·split
  ·exact h
  ·rename_i hc
   split
   ·exact wX h ⟨by show (1:Int)≤2∧(2:Int)≤7;decide,BP,λ_=>dV (by simpa using hc),(λe=>by cases e),by show (0:Nat)≤1000;omega,by show (0:Nat)≤1000;omega,by show (0:Nat)≤1000;omega⟩
   ·exact h
 split
 ·exact kQ h _ _ (LP hr)
 split
 ·split
  ·exact h
  ·show (if _ then _ else _:aO).dH
   have h1:=kQ h x.a x.b (Ij hr (aO.lK c.ctl.form.aK x.c))
   split
   ·refine wX h1 ⟨by show (1:Int)≤4∧(4:Int)≤7;decide,BP,(λe=>by cases e),λ_=>rfl,by show (0:Nat)≤1000;omega,by show (0:Nat)≤1000;omega,?_⟩
    show ((c.rep x.a x.b).alter (aO.lK c.ctl.form.aK x.c)).isr.length≤1000
    have h2:=OM (c.rep x.a x.b) (aO.lK c.ctl.form.aK x.c)
    have h3:=VT hf.1.2 x.c
    omega
   ·exact h1
 split
 ·split
  ·exact h
  ·exact wZ _ _ _ c h BP
 ·exact kQ h _ _ (CV hr _)
theorem VU (h:c.dH) (x:bV):(c.step x).1.dH:=by
 unfold aO.step
 split
 ·exact h.yt (ER h.ctl _ _ _) (zY _ _ _)
 split
 ·exact h.yt (Ld h.ctl _) (zZ _)
 split
 ·exact h.yt (Nr h.ctl _) (uN _)
 split
 ·split
  ·exact h
  ·rename_i hn
   have hb:c.ctl.aV x.a=true:=by
    cases hb:c.ctl.aV x.a with
    | true=>rfl
    | false=>exact absurd (.inl hb) hn
   exact Em _ _ (λ_ _=>trivial) _ c h (dV hb) (λp hp=>uU.1 hp)
 split
 ·exact Zt h _
 split
 ·exact Qm h x
 split
 ·exact Tj h _
 split
 ·split
  ·exact h
  ·rename_i hpb
   have:c.ctl.part x.a=true∧c.ctl.aV x.b=true:=by simpa using hpb
   exact acu h x this.1 this.2
 ·exact h
end
structure lF where
 m:eu
 uV:Value
 uE:Value
 uA:Value
abbrev xg (x:lF):List Value:=[.int .i64 x.m.kind,.int .i64 x.m.to,.int .i64 x.m.part,.int .i64 x.m.view.leader,.int .i64 x.m.view.epoch,.int .i64 x.m.view.version,x.uV,
 .int .i64 x.m.fetch.mD,.int .i64 x.m.fetch.epoch,.int .i64 x.m.fetch.offset,.int .i64 x.m.fetch.last,.int .i64 x.m.fetch.flushed,
 .int .i64 x.m.reply.epoch,.int .i64 x.m.reply.base,.int .i64 x.m.reply.last,.bool x.m.reply.cut,.int .i64 x.m.reply.jv,.int .i64 x.m.reply.qI,x.uE,.int .i64 x.m.reply.high,
 .int .i64 x.m.alter.leader,.int .i64 x.m.alter.epoch,.int .i64 x.m.alter.version,x.uA,
 .int .i64 x.m.ent.ep,.int .i64 x.m.ent.id,.int .i64 x.m.ent.num,.int .i64 x.m.ent.seq,.int .i64 x.m.ent.kind,.int .i64 x.m.ent.val]
abbrev Yq (x:Value):List Value:=[x]
abbrev ps1 (x:Nat):List Value:=[.pointer (some ⟨x,0,none⟩)]
structure zl (w:World) (T:Nat→Nat) (x:lF):Prop where
 v:ig w x.uV x.m.view.isr
 e:BX w x.uE x.m.reply.entries
 a:ig w x.uA x.m.alter.isr
 tv:∀ k,x.uV.ownBlock=some k→T k=6
 te:∀ k,x.uE.ownBlock=some k→T k=6
 ta:∀ k,x.uA.ownBlock=some k→T k=6
def LV (f:gB) (bm:Nat) (uR uB:Value):Nat→Value
 | 0=>.int .i64 f.aK
 | 1=>.int .i64 f.parts
 | 2=>.int .i64 f.ids
 | 3=>.pointer (some ⟨bm,0,none⟩)
 | 4=>uR
 | _=>uB
structure og where
 bm:Nat
 uR:Value
 uB:Value
 rows:List Value
 ptrs:List (List Nat)
 ms:List lF
 T:Nat→Nat
structure iJ (w:World) (b:Nat) (A:og) (c:aO):Prop where
 gy:cO w b 107 6 (LV c.ctl.form A.bm A.uR A.uB)
 ctl:gX w A.bm (λk=>A.T k=2) c.ctl
 outer:dQ Yq 1 112 w A.uR A.rows
 row:∀ p u,A.rows[p]? =some u→∃ ps,A.ptrs[p]? =some ps∧dQ ps1 1 49 w u ps∧∀ k,u.ownBlock=some k→A.T k=8+p
 rlen:A.rows.length=c.gG.length
 Tm:A.ptrs.length=c.gG.length
 gG:∀ p ps l,A.ptrs[p]? =some ps→c.gG[p]? =some l→ps.length=l.length∧∀ i q r,ps[i]? =some q→l[i]? =some r→oD w q (λk=>A.T k=16+4 *p+i) r
 iq:dQ xg 30 104 w A.uB A.ms
 bm:A.ms.map (·.m)=c.iq
 inner:∀ x∈A.ms,zl w A.T x
 tb:A.T b=1
 tR:∀ k,A.uR.ownBlock=some k→A.T k=3
 tB:∀ k,A.uB.ownBlock=some k→A.T k=5
 lt:∀ k,A.T k≠0→k<w.heap.size
 bU:c.dH
def iO (w:World) (b:Nat) (F:Nat→Prop) (c:aO):Prop:=∃ A,iJ w b A c∧∀ k,A.T k≠0→F k
def eP (w:World) (b:Nat) (F:Nat→Prop) (c':aO) (w':World):Prop:=bF F w w'∧iO w' b (λk=>F k∨w.heap.size≤k) c'
section
variable {w w' : World} {b : Nat} {A : og} {c : aO} {F G : Nat → Prop} {T : Nat → Nat} {x : lF}
theorem zl.aW (h:zl w T x) (hM:bF G w w') (hG:∀ k,T k=6→¬ G k):zl w' T x:=
 ⟨h.v.aW hM (λk hk=>hG k (h.tv k hk)),h.e.aW hM (λk hk=>hG k (h.te k hk)),h.a.aW hM (λk hk=>hG k (h.ta k hk)),h.tv,h.te,h.ta⟩
theorem zl.aaN {T':Nat→Nat} (h:zl w T x) (hT:∀ k,T k=6→T' k=6):zl w T' x:=
 ⟨h.v,h.e,h.a,λk hk=>hT k (h.tv k hk),λk hk=>hT k (h.te k hk),λk hk=>hT k (h.ta k hk)⟩
theorem iJ.aW (h:iJ w b A c) (hM:bF G w w') (hG:∀ k,A.T k≠0→¬ G k):iJ w' b A c:=
 ⟨h.gy.aW hM (hG _ (by rw[h.tb];decide)),h.ctl.aW hM (λk hk=>hG k (by rw[hk];decide)),h.outer.aW hM (λk hk=>hG k (by rw[h.tR k hk];decide)),
  λp u hu=>by
   obtain⟨ps,h1,h2,h3⟩:=h.row p u hu
   exact⟨ps,h1,h2.aW hM (λk hk=>hG k (by rw[h3 k hk];omega)),h3⟩,h.rlen,h.Tm,
  λp ps l hp hl=>⟨(h.gG p ps l hp hl).1,λi q r hq hr=>((h.gG p ps l hp hl).2 i q r hq hr).aW hM (λk hk=>hG k (by rw[hk];omega))⟩,
  h.iq.aW hM (λk hk=>hG k (by rw[h.tB k hk];decide)),h.bm,λx hx=>(h.inner x hx).aW hM (λk hk=>hG k (by rw[hk];decide)),h.tb,h.tR,h.tB,λk hk=>Nat.lt_of_lt_of_le (h.lt k hk) hM.size,h.bU⟩
theorem iJ.ah (h:iJ w b A c) (hE:aB w w'):iJ w' b A c:=h.aW hE (λ_ _ h=>h)
theorem iO.aW (h:iO w b F c) (hM:bF G w w') (hG:∀ k,F k→¬ G k):iO w' b F c:=by
 obtain⟨A,h,hF⟩:=h
 exact⟨A,h.aW hM (λk hk=>hG k (hF k hk)),hF⟩
theorem iO.ah (h:iO w b F c) (hE:aB w w'):iO w' b F c:=h.aW hE (λ_ _ h=>h)
theorem iO.mono (h:iO w b F c) (hF:∀ k,F k→G k):iO w b G c:=by
 obtain⟨A,h,h2⟩:=h
 exact⟨A,h,λk hk=>hF k (h2 k hk)⟩
theorem iO.bU (h:iO w b F c):c.dH:=by obtain⟨A,h,-⟩:=h;exact h.bU
theorem iO.jc (h:iO w b F c) (hE:aB w w'):eP w b F c w':=⟨hE.aW,(h.ah hE).mono λ_ h=>.inl h⟩
theorem iJ.cells (h:iJ w b A c):b<w.heap.size∧w.cell? ⟨b,0,none⟩=some (.int .i64 c.ctl.form.aK)∧w.cell? ⟨b,1,none⟩=some (.int .i64 c.ctl.form.parts)∧w.cell? ⟨b,2,none⟩=some (.int .i64 c.ctl.form.ids)∧
  w.cell? ⟨b,3,none⟩=some (.pointer (some ⟨A.bm,0,none⟩))∧w.cell? ⟨b,4,none⟩=some A.uR∧w.cell? ⟨b,5,none⟩=some A.uB:=
 ⟨h.gy.lt,h.gy.cell (by omega),h.gy.cell (by omega),h.gy.cell (by omega),h.gy.cell (by omega),h.gy.cell (by omega),h.gy.cell (by omega)⟩
theorem iO.cells (h:iO w b F c):b<w.heap.size∧w.cell? ⟨b,0,none⟩=some (.int .i64 c.ctl.form.aK)∧w.cell? ⟨b,1,none⟩=some (.int .i64 c.ctl.form.parts)∧w.cell? ⟨b,2,none⟩=some (.int .i64 c.ctl.form.ids)∧∃ bm,w.cell? ⟨b,3,none⟩=some (.pointer (some ⟨bm,0,none⟩)):=by
 obtain⟨A,h,-⟩:=h
 obtain⟨h1,h2,h3,h4,h5,-⟩:=h.cells
 exact⟨h1,h2,h3,h4,_,h5⟩
theorem iJ.rep (h:iJ w b A c) {p i:Nat} (hp:p<c.ctl.form.parts.toNat) (hi:i<c.ctl.form.aK.toNat):∃ u ps q,A.rows[p]? =some u∧A.ptrs[p]? =some ps∧dQ ps1 1 49 w u ps∧(∀k,u.ownBlock=some k→A.T k=8+p)∧ps[i]? =some q∧ps.length=c.ctl.form.aK.toNat∧
  oD w q (λk=>A.T k=16+4 *p+i) (c.rep p i)∧(c.rep p i).oU:=by
 have h1:=h.bU.rlen
 have h2:=h.rlen
 obtain⟨u,hu⟩:∃ u,A.rows[p]? =some u:=⟨_,List.getElem?_eq_getElem (by omega)⟩
 obtain⟨ps,wK,ho,ht⟩:=h.row p u hu
 obtain⟨l,hl⟩:∃ l,c.gG[p]? =some l:=⟨_,List.getElem?_eq_getElem (by omega)⟩
 obtain⟨h3,h4⟩:=h.gG p ps l wK hl
 have h5:=h.bU.row l (List.mem_of_getElem? hl)
 obtain⟨q,hq⟩:∃ q,ps[i]? =some q:=⟨_,List.getElem?_eq_getElem (by omega)⟩
 obtain⟨r,hr⟩:∃ r,l[i]? =some r:=⟨_,List.getElem?_eq_getElem (by omega)⟩
 have e:c.rep p i=r:=by
  show (c.gG.getD ((p:Int)).toNat []).getD ((i:Int)).toNat (aI.lI 0 1)=r
  rw[Int.toNat_natCast,Int.toNat_natCast,List.getD_eq_getElem?_getD (l:=c.gG),hl]
  show l.getD i (aI.lI 0 1)=r
  rw[List.getD_eq_getElem?_getD,hr];rfl
 refine⟨u,ps,q,hu,wK,ho,ht,hq,by omega,by rw[e];exact h4 i q r hq hr,?_⟩
 rw[e];exact h.bU.fine l (List.mem_of_getElem? hl) r (List.mem_of_getElem? hr)
def pG (T:Nat→Nat) (w w':World) (t:Nat):Nat→Nat:=λk=>if w.heap.size≤k∧k<w'.heap.size then t else T k
theorem xk {t k:Nat} (h:k<w.heap.size):pG T w w' t k=T k:=if_neg (by omega)
theorem xq {t k:Nat} (h:w.heap.size≤k) (h2:k<w'.heap.size):pG T w w' t k=t:=if_pos ⟨h,h2⟩
theorem iJ.aP (h:iJ w b A c) {p i:Nat} (hp:p<c.ctl.form.parts.toNat) (hi:i<c.ctl.form.aK.toNat) {q:Nat} {ps:List Nat} (wK:A.ptrs[p]? =some ps) (hq:ps[i]? =some q) {r:aI} (hM:bF (λk=>A.T k=16+4 *p+i) w w')
  (hR:oD w' q (λk=>A.T k=16+4 *p+i∨w.heap.size≤k) r) (hr:r.oU):iJ w' b {A with T:=pG A.T w w' (16+4 *p+i)} (c.aP p i r):=by
 have hs:=hM.size
 have bT:∀ k t,A.T k=t→t≠16+4 *p+i→¬ A.T k=16+4 *p+i:=λk t h1 h2 h3=>h2 (h1.symm.trans h3)
 have hT:∀ k t,A.T k=t→t≠0→pG A.T w w' (16+4 *p+i) k=t:=λk t h1 h2=>by rw[xk (h.lt k (by rw[h1];exact h2))];exact h1
 have h1:=h.bU.rlen
 have hfp:=gB.dX h.bU.ctl.right
 have aaO:∀ l,c.gG[p]? =some l→c.gG.getD p []=l:=λl hl=>by rw[List.getD_eq_getElem?_getD,hl];rfl
 refine⟨h.gy.aW hM (bT _ _ h.tb (by omega)),(h.ctl.aW hM (λk hk=>bT _ _ hk (by omega))).mono (λk hk=>hT k 2 hk (by decide)),h.outer.aW hM (λk hk=>bT _ _ (h.tR k hk) (by omega)),?_,?_,?_,?_,h.iq.aW hM (λk hk=>bT _ _ (h.tB k hk) (by omega)),h.bm,
  λx hx=>((h.inner x hx).aW hM (λk hk=>bT _ _ hk (by omega))).aaN (λk hk=>hT k 6 hk (by decide)),hT _ _ h.tb (by decide),λk hk=>hT _ _ (h.tR k hk) (by decide),λk hk=>hT _ _ (h.tB k hk) (by decide),?_,kQ h.bU p i hr⟩
 ·intro p' u hu
  obtain⟨ps',e1,e2,e3⟩:=h.row p' u hu
  have Xr:p'<c.gG.length:=by rw[←h.rlen];exact(Ge hu).1
  exact⟨ps',e1,e2.aW hM (λk hk=>bT _ _ (e3 k hk) (by omega)),λk hk=>hT _ _ (e3 k hk) (by omega)⟩
 ·show A.rows.length=(c.gG.set _ _).length
  rw[List.length_set];exact h.rlen
 ·show A.ptrs.length=(c.gG.set _ _).length
  rw[List.length_set];exact h.Tm
 ·intro p' ps' l' Xr zF
  have Yj:(c.gG.set p ((c.gG.getD p []).set i r))[p']? =some l':=zF
  by_cases e:p'=p
  ·subst e
   rw[wK]at Xr
   cases Xr
   rw[List.getElem?_set_self (by omega)]at Yj
   cases Yj
   obtain⟨l,hl⟩:∃ l,c.gG[p']? =some l:=⟨_,List.getElem?_eq_getElem (by omega)⟩
   rw[aaO l hl]
   obtain⟨e1,e2⟩:=h.gG p' ps l wK hl
   refine⟨by rw[List.length_set];exact e1,λi' q' r' nG tC=>?_⟩
   by_cases ei:i'=i
   ·subst ei
    rw[hq]at nG
    cases nG
    have hlt:i'<l.length:=by rw[←e1];exact(Ge hq).1
    rw[List.getElem?_set_self hlt]at tC
    cases tC
    exact hR.Fp.mono λk hk=>by
     rcases hk.1 with h3|h3
     ·exact hT k _ h3 (by omega)
     ·exact xq h3 hk.2
   ·rw[List.getElem?_set_ne (λe=>ei e.symm)]at tC
    have hlt:=(Ge tC).1
    have hl4:=h.bU.row l (List.mem_of_getElem? hl)
    exact((e2 i' q' r' nG tC).aW hM (λk hk=>bT _ _ hk (by omega))).mono λk hk=>hT k _ hk (by omega)
  ·rw[List.getElem?_set_ne (λe'=>e e'.symm)]at Yj
   obtain⟨e1,e2⟩:=h.gG p' ps' l' Xr Yj
   refine⟨e1,λi' q' r' nG tC=>?_⟩
   have hlt:=(Ge tC).1
   have hl4:=h.bU.row l' (List.mem_of_getElem? Yj)
   have hn:16+4 *p'+i'≠16+4 *p+i:=by omega
   exact((e2 i' q' r' nG tC).aW hM (λk hk=>bT _ _ hk hn)).mono λk hk=>hT k _ hk (by omega)
 ·intro k hk
  have sF:pG A.T w w' (16+4 *p+i) k≠0:=hk
  by_cases h3:w.heap.size≤k∧k<w'.heap.size
  ·exact h3.2
  ·unfold pG at sF
   rw[if_neg h3]at sF
   exact Nat.lt_of_lt_of_le (h.lt k sF) hs
theorem iJ.ahU (h:iJ w b A c) {m:aH} (hf:m.form=c.ctl.form) (hM:bF (λk=>A.T k=2) w w') (hm:gX w' A.bm (λk=>A.T k=2∨w.heap.size≤k) m):iJ w' b {A with T:=pG A.T w w' 2} {c with ctl:=m}:=by
 have hs:=hM.size
 have bT:∀ k t,A.T k=t→t≠2→¬ A.T k=2:=λk t h1 h2 h3=>h2 (h1.symm.trans h3)
 have hT:∀ k t,A.T k=t→t≠0→pG A.T w w' 2 k=t:=λk t h1 h2=>by rw[xk (h.lt k (by rw[h1];exact h2))];exact h1
 refine⟨?_,hm.Fp.mono (λk hk=>?_),h.outer.aW hM (λk hk=>bT _ _ (h.tR k hk) (by decide)),?_,h.rlen,h.Tm,?_,h.iq.aW hM (λk hk=>bT _ _ (h.tB k hk) (by decide)),h.bm,
  λx hx=>((h.inner x hx).aW hM (λk hk=>bT _ _ hk (by decide))).aaN (λk hk=>hT k 6 hk (by decide)),hT _ _ h.tb (by decide),λk hk=>hT _ _ (h.tR k hk) (by decide),λk hk=>hT _ _ (h.tB k hk) (by decide),?_,h.bU.yt hm.bU hf⟩
 ·show cO w' b _ 6 (LV m.form A.bm A.uR A.uB)
  rw[hf];exact h.gy.aW hM (bT _ _ h.tb (by decide))
 ·rcases hk.1 with h3|h3
  ·exact hT k 2 h3 (by decide)
  ·exact xq h3 hk.2
 ·intro p u hu
  obtain⟨ps,e1,e2,e3⟩:=h.row p u hu
  exact⟨ps,e1,e2.aW hM (λk hk=>bT _ _ (e3 k hk) (by omega)),λk hk=>hT _ _ (e3 k hk) (by omega)⟩
 ·intro p ps l hp hl
  obtain⟨e1,e2⟩:=h.gG p ps l hp hl
  exact⟨e1,λi q r hq hr=>((e2 i q r hq hr).aW hM (λk hk=>bT _ _ hk (by omega))).mono λk hk=>hT k _ hk (by omega)⟩
 ·intro k hk
  have sF:pG A.T w w' 2 k≠0:=hk
  by_cases h3:w.heap.size≤k∧k<w'.heap.size
  ·exact h3.2
  ·unfold pG at sF
   rw[if_neg h3]at sF
   exact Nat.lt_of_lt_of_le (h.lt k sF) hs
theorem Gu {t k:Nat} (hF:∀ k,T k≠0→F k) (h:pG T w w' t k≠0):F k∨w.heap.size≤k:=by
 by_cases h3:w.heap.size≤k∧k<w'.heap.size
 ·exact .inr h3.1
 ·unfold pG at h
  rw[if_neg h3]at h
  exact .inl (hF k h)
theorem iJ.to {A':og} {c':aO} {w1:World} (h:iJ w' b A' c') (hE:aB w w1) (hM:bF G w1 w') (hG:∀ k,k<w.heap.size→G k→F k) (hT:∀ k,A'.T k≠0→F k∨w.heap.size≤k):eP w b F c' w':=
 ⟨bF.trans hE hM (λ_ _ h=>h.elim) hG,A',h,hT⟩
end
theorem Zu {w:World}:Pure Tryz.prog 44 #[.pointer none] w (.bool true):=by
 refine Fi (n:=12) Tryz.func44 ?_;intro A hd hA;simp only[ix,Nat.reduceAdd]
 repeat'(first|refine aF ?_|refine mg ?_|refine jF ?_|refine au ?_|refine ak (λK hK=>?_)|refine aj ?_|refine aC ?_|go_step)
 exact aA hd ⟨rfl,by simp⟩
theorem iO.some {w:World} {b:Nat} {F:Nat→Prop} {c:aO} (h:iO w b F c):Pure Tryz.prog 44 #[.pointer (some ⟨b,0,none⟩)] w (.bool false):=by
 obtain⟨hlt,c0,c1,c2,bm,c3⟩:=h.cells
 clear h
 refine Fi (n:=12) Tryz.func44 ?_;intro A hd hA;simp only[ix,Nat.reduceAdd]
 repeat'(first|refine dw ?_|refine aF ?_|refine au ?_|refine ak (λK hK=>?_)|refine aj ?_|refine aC ?_|go_step)
 exact aA hd ⟨rfl,by simp⟩
theorem Tn {w:World} {b:Nat} (hb:b<w.heap.size) (hc:w.cell? ⟨b,3,none⟩=some (.pointer none)):Pure Tryz.prog 44 #[.pointer (some ⟨b,0,none⟩)] w (.bool true):=by
 refine Fi (n:=12) Tryz.func44 ?_;intro A hd hA;simp only[ix,Nat.reduceAdd]
 repeat'(first|refine dw ?_|refine aF ?_|refine au ?_|refine ak (λK hK=>?_)|refine aj ?_|refine aC ?_|go_step)
 exact aA hd ⟨rfl,by simp⟩
theorem uX {w:World} {b:Nat} {F:Nat→Prop} {c:aO} (p:Int) (h:iO w b F c):Pure Tryz.prog 61 #[.pointer (some ⟨b,0,none⟩),.int .i64 p] w (.bool (c.ctl.part p)):=by
 obtain⟨hlt,c0,c1,c2,bm,c3⟩:=h.cells
 clear h
 by_cases q1:0≤p
 ·by_cases q2:p<c.ctl.form.parts
  ·have hv:c.ctl.part p=true:=by simp[aH.part];omega
   rw[hv]
   refine Fi (n:=16) Tryz.func61 ?_;intro A hd hA;simp only[ix,Nat.reduceAdd]
   repeat'(first|refine dw ?_|refine aF ?_|refine au ?_|refine ak (λK hK=>?_)|refine aj ?_|refine aC ?_|go_step)
   exact aA hd ⟨rfl,by simp⟩
  ·have hv:c.ctl.part p=false:=by simp[aH.part];omega
   rw[hv]
   refine Fi (n:=16) Tryz.func61 ?_;intro A hd hA;simp only[ix,Nat.reduceAdd]
   repeat'(first|refine dw ?_|refine aF ?_|refine au ?_|refine ak (λK hK=>?_)|refine aj ?_|refine aC ?_|go_step)
   exact aA hd ⟨rfl,by simp⟩
 ·have hv:c.ctl.part p=false:=by simp[aH.part];omega
  rw[hv]
  refine Fi (n:=16) Tryz.func61 ?_;intro A hd hA;simp only[ix,Nat.reduceAdd]
  repeat'(first|refine aF ?_|refine mg ?_|refine jF ?_|refine au ?_|refine ak (λK hK=>?_)|refine aj ?_|refine aC ?_|go_step)
  exact aA hd ⟨rfl,by simp⟩
theorem iP {w:World} {b:Nat} {F:Nat→Prop} {c:aO} (p:Int) (h:iO w b F c):Pure Tryz.prog 67 #[.pointer (some ⟨b,0,none⟩),.int .i64 p] w (.bool (c.ctl.aV p)):=by
 obtain⟨hlt,c0,c1,c2,bm,c3⟩:=h.cells
 clear h
 by_cases q1:0≤p
 ·by_cases q2:p<c.ctl.form.aK
  ·have hv:c.ctl.aV p=true:=by simp[aH.aV];omega
   rw[hv]
   refine Fi (n:=16) Tryz.func67 ?_;intro A hd hA;simp only[ix,Nat.reduceAdd]
   repeat'(first|refine dw ?_|refine aF ?_|refine au ?_|refine ak (λK hK=>?_)|refine aj ?_|refine aC ?_|go_step)
   exact aA hd ⟨rfl,by simp⟩
  ·have hv:c.ctl.aV p=false:=by simp[aH.aV];omega
   rw[hv]
   refine Fi (n:=16) Tryz.func67 ?_;intro A hd hA;simp only[ix,Nat.reduceAdd]
   repeat'(first|refine dw ?_|refine aF ?_|refine au ?_|refine ak (λK hK=>?_)|refine aj ?_|refine aC ?_|go_step)
   exact aA hd ⟨rfl,by simp⟩
 ·have hv:c.ctl.aV p=false:=by simp[aH.aV];omega
  rw[hv]
  refine Fi (n:=16) Tryz.func67 ?_;intro A hd hA;simp only[ix,Nat.reduceAdd]
  repeat'(first|refine aF ?_|refine mg ?_|refine jF ?_|refine au ?_|refine ak (λK hK=>?_)|refine aj ?_|refine aC ?_|go_step)
  exact aA hd ⟨rfl,by simp⟩
abbrev bV.v (x:bV):Value:=.agg #[.int .i64 x.kind,.int .i64 x.a,.int .i64 x.b,.int .i64 x.c]
theorem OO {w:World} {b:Nat} {F:Nat→Prop} {c:aO} (x:bV) (h:iO w b F c) (hx:(c.ctl.part x.a&&c.ctl.aV x.b)=false):Pure Tryz.prog 111 #[.pointer (some ⟨b,0,none⟩),x.v] w (.tuple #[.pointer none,.int .i64 2]):=by
 have HH:=Zh h
 clear h
 by_cases hp:c.ctl.part x.a=true
 ·have hb:c.ctl.aV x.b=false:=by rw[hp,Bool.true_and]at hx;exact hx
  have HP:=Zh hp
  have HB:=Zh hb
  clear hx hp hb
  refine Fi (n:=30) Tryz.func111 ?_;intro A hd hA;simp only[ix,Nat.reduceAdd]
  repeat'(first|refine aN Tryz.func61 (HP.out▸uX x.a (HH.out.ah (by simp))) ?_|refine fU Tryz.func67 (λ_=>HB.out▸iP x.b (HH.out.ah (by simp))) ?_|refine dw ?_|refine aF ?_|refine au ?_|refine ak (λK hK=>?_)|refine aj ?_|refine aC ?_|(refine dI (λx K hK=>?_);go_simp;refine hK _ _ (aB.alloc _ _) ?_;clear hK K;refine aZ x ?_;generalize (World.ah _ x).heap.size=bn;intro yn aU bD bC bG aS;clear x)|refine bH ?_|go_step)
  exact dB hd ⟨rfl,by simp⟩
 ·have hp:c.ctl.part x.a=false:=by simpa using hp
  have HP:=Zh hp
  clear hx hp
  refine Fi (n:=30) Tryz.func111 ?_;intro A hd hA;simp only[ix,Nat.reduceAdd]
  repeat'(first|refine aN Tryz.func61 (HP.out▸uX x.a (HH.out.ah (by simp))) ?_|(refine pq ?_)|refine aF ?_|refine mg ?_|refine jF ?_|refine au ?_|refine ak (λK hK=>?_)|refine aj ?_|refine aC ?_|(refine dI (λx K hK=>?_);go_simp;refine hK _ _ (aB.alloc _ _) ?_;clear hK K;refine aZ x ?_;generalize (World.ah _ x).heap.size=bn;intro yn aU bD bC bG aS;clear x)|refine bH ?_|go_step)
  exact dB hd ⟨rfl,by simp⟩
theorem CX {w:World} {b:Nat} {A0:og} {c:aO} (x:bV) (h:iJ w b A0 c) {p i:Nat} (hxa:x.a=p) (DJ:x.b=i) (hp:c.ctl.part x.a=true) (hb:c.ctl.aV x.b=true) {q:Nat} {ps:List Nat} (wK:A0.ptrs[p]? =some ps) (hq:ps[i]? =some q):
  Pure Tryz.prog 111 #[.pointer (some ⟨b,0,none⟩),x.v] w (.tuple #[.pointer (some ⟨q,0,none⟩),.int .i64 0]):=by
 have HH:Hid (iO w b (λk=>A0.T k≠0) c):=Zh ⟨A0,h,λ_ h=>h⟩
 obtain⟨kind,xa,xb,xc⟩:=x
 dsimp only at hxa DJ hp hb
 subst hxa DJ
 have BP:=fV hp
 have JL:=dV hb
 obtain⟨u,ps',q',hu,acv,ho,ht,nG,iR,-,-⟩:=h.rep (p:=p) (i:=i) (by omega) (by omega)
 rw[wK]at acv
 cases acv
 rw[hq]at nG
 cases nG
 obtain⟨g,cg,iZ,Dq,jT,Ib,iK⟩:=dQ.at (enc:=Yq) (k:=1) (λ_=>rfl) h.outer hu
 obtain⟨g2,cg2,Iw,VW,Uz,Zv,sV⟩:=dQ.at (enc:=ps1) (k:=1) (λ_=>rfl) ho hq
 obtain⟨hlt,-,-,-,c3,c4,-⟩:=h.cells
 rw[iZ]at c4
 have d0:=iK 0 _ rfl
 have d1:=sV 0 _ rfl
 rw[Nat.mul_one,Nat.add_zero]at d0 d1
 rw[Iw]at d0
 have h1:p<A0.rows.length:=(Ge hu).1
 have h2:i<ps.length:=(Ge hq).1
 have h3:(p:Int)<A0.rows.length:=by omega
 have h4:(i:Int)<ps.length:=by omega
 have HP:=Zh hp
 have HB:=Zh hb
 clear h hp hb hu wK ho ht hq iK sV iZ Iw iR BP JL
 refine Fi (n:=30) Tryz.func111 ?_;intro A hd hA;simp only[ix,Nat.reduceAdd]
 repeat'(first|refine aN Tryz.func61 (HP.out▸uX (p:Int) (HH.out.ah (by simp))) ?_|refine fU Tryz.func67 (λ_=>HB.out▸iP (i:Int) (HH.out.ah (by simp))) ?_|refine dw ?_|refine aF ?_|refine au ?_|refine ak (λK hK=>?_)|refine aj ?_|refine aG ?_|(refine dI (λx K hK=>?_);go_simp;refine hK _ _ (aB.alloc _ _) ?_;clear hK K;refine aZ x ?_;generalize (World.ah _ x).heap.size=bn;intro yn aU bD bC bG aS;clear x)|refine bJ ?_|go_step)
 refine dA (by kernel_rfl) (by kernel_rfl) ?_
 repeat'(first|refine aF ?_|refine aQ ?_|refine aC ?_|go_step)
 exact dB hd ⟨rfl,by simp⟩
abbrev lF.v (x:lF):Value:=.agg #[.int .i64 x.m.kind,.int .i64 x.m.to,.int .i64 x.m.part,.int .i64 x.m.view.leader,.int .i64 x.m.view.epoch,.int .i64 x.m.view.version,x.uV,.int .i64 x.m.fetch.mD,.int .i64 x.m.fetch.epoch,.int .i64 x.m.fetch.offset,.int .i64 x.m.fetch.last,.int .i64 x.m.fetch.flushed,.int .i64 x.m.reply.epoch,.int .i64 x.m.reply.base,.int .i64 x.m.reply.last,.bool x.m.reply.cut,.int .i64 x.m.reply.jv,.int .i64 x.m.reply.qI,x.uE,.int .i64 x.m.reply.high,.int .i64 x.m.alter.leader,.int .i64 x.m.alter.epoch,.int .i64 x.m.alter.version,x.uA,.int .i64 x.m.ent.ep,.int .i64 x.m.ent.id,.int .i64 x.m.ent.num,.int .i64 x.m.ent.seq,.int .i64 x.m.ent.kind,.int .i64 x.m.ent.val]
structure Ja (w:World) (x:lF):Prop where
 v:BU w x.uV x.m.view.isr
 e:yQ w x.uE x.m.reply.entries
 a:BU w x.uA x.m.alter.isr
 lv:x.m.view.isr.length≤100000
 le:x.m.reply.entries.length≤100000
 la:x.m.alter.isr.length≤100000
theorem Ja.ah {w w':World} {x:lF} (h:Ja w x) (hE:aB w w'):Ja w' x:=⟨h.v.ah hE,h.e.ah hE,h.a.ah hE,h.lv,h.le,h.la⟩
structure CY (w w':World) (y:lF):Prop where
 v:ig w' y.uV y.m.view.isr
 e:BX w' y.uE y.m.reply.entries
 a:ig w' y.uA y.m.alter.isr
 fv:∀ k,y.uV.ownBlock=some k→w.heap.size≤k
 fe:∀ k,y.uE.ownBlock=some k→w.heap.size≤k
 fa:∀ k,y.uA.ownBlock=some k→w.heap.size≤k
theorem CY.ah {w w1 w2:World} {y:lF} (h:CY w w1 y) (hE:aB w1 w2):CY w w2 y:=⟨h.v.ah hE,h.e.ah hE,h.a.ah hE,h.fv,h.fe,h.fa⟩
theorem Gv {w:World} {x:lF} (h:Ja w x):gK Tryz.prog 84 #[x.v] w λr w'=>aB w w'∧∃ y:lF,y.m=x.m∧r=y.v∧CY w w' y:=by
 obtain⟨m,uV,uE,uA⟩:=x
 obtain⟨Av,cv,hv,-⟩:=h.v.int
 obtain⟨Ae,ce,he,-⟩:=h.e.ent
 obtain⟨Aa,ca,ha,-⟩:=h.a.int
 dsimp only at hv he ha
 subst hv he ha
 have HR:=Zh h
 clear h
 refine Fi (n:=22) Tryz.func84 ?_;intro A hd hA;simp only[ix,Nat.reduceAdd]
 (repeat'(first|refine ak (λK hK=>?_)|refine aj ?_|fail));(refine dI (λx K hK=>?_);go_simp;refine hK _ _ (aB.alloc _ _) ?_;clear hK K;refine aZ x ?_;generalize (World.ah _ x).heap.size=b1;intro yn aU bD bC bG aS;clear x);have iy:=Zh (cO.new aS.out);have lS:=Zh yn.ext;have yG:(World.heap w).size≤b1:=aU;generalize World.ah w yn=W0 at *;clear aU bD bC bG aS yn
 (skip);(refine dI (λx K hK=>?_);go_simp;refine hK _ _ (aB.alloc _ _) ?_;clear hK K;refine aZ x ?_;generalize (World.ah _ x).heap.size=b2;intro yn aU bD bC bG aS;clear x);have Qn:=Zh (cO.new aS.out);have LW:=Zh yn.ext;have Tq:(World.heap W0).size≤b2:=aU;generalize World.ah W0 yn=W1 at *;clear aU bD bC bG aS yn
 have jO:=Zh (iy.out.ah LW.out)
 have su:=Qn
 have HE:=Zh (Et lS.out LW.out)
 have Xf:w.heap.size≤b1:=yG
 have Ym:w.heap.size≤b2:=Nat.le_trans lS.out.size Tq
 have h12:b1<b2:=Nat.lt_of_lt_of_le iy.out.lt Tq
 clear iy Qn lS LW yG Tq
 have v0:=jO.out.cell (k:=6) (by simp)
 have v1:=jO.out.cell (k:=18) (by simp)
 have v2:=jO.out.cell (k:=23) (by simp)
 simp at v0 v1 v2
 have Dt:=jO.out.lt
 repeat'(first|refine au ?_|refine ak (λK hK=>?_)|go_step)
 refine dn [(0,0),(1,0),(2,0),(4,0),(5,0),(6,0),(8,0),(9,0),(10,0),(3,1),(12,0),(13,0),(7,1),(11,1),(14,2),(15,0),(16,0),(17,2),(18,0),(19,0),(20,2)] (by kernel_rfl) (by kernel_rfl) ?_
 repeat'(first|refine aF ?_|fail)
 refine fF (R:=λw0 r w'=>aB w0 w'∧ig w' r m.view.isr∧∀ q,r.ownBlock=some q→w0.heap.size≤q) Tryz.func65 (λz=>fH (HR.out.v.ah (Et HE.out z.ext)) (Nat.le_trans HR.out.lv (by decide))) (λz rv w3 hR=>⟨hR.1,?_⟩)
 obtain⟨jX,zy,yM⟩:=hR
 replace jX:=Et z.ext jX
 have He:=Zh zy
 have Zw:Hid (∀q,rv.ownBlock=some q→W1.heap.size≤q):=Zh (λq hq=>Nat.le_trans z.ext.size (yM q hq))
 obtain⟨y3,rfl⟩:=jX.get
 clear jX zy yM z
 repeat'(first|refine aF ?_|fail)
 refine fF (R:=λw0 r w'=>aB w0 w'∧ig w' r m.alter.isr∧∀ q,r.ownBlock=some q→w0.heap.size≤q) Tryz.func65 (λz=>fH (HR.out.a.ah (Et HE.out (Et y3.ext z.ext))) (Nat.le_trans HR.out.la (by decide))) (λz ra w4 hR=>⟨hR.1,?_⟩)
 obtain⟨jX,zy,yM⟩:=hR
 replace He:=Zh (He.out.ah (Et z.ext jX))
 replace jX:=Et y3.ext (Et z.ext jX)
 have HOA:=Zh zy
 have HFA:Hid (∀q,ra.ownBlock=some q→W1.heap.size≤q):=Zh (λq hq=>Nat.le_trans y3.ext.size (Nat.le_trans z.ext.size (yM q hq)))
 obtain⟨y4,rfl⟩:=jX.get
 clear jX zy yM z y3
 skip
 refine fF (R:=λw0 r w'=>aB w0 w'∧BX w' r m.reply.entries∧∀ q,r.ownBlock=some q→w0.heap.size≤q) Tryz.func70 (λz=>qm (HR.out.e.ah (Et HE.out (Et y4.ext z.ext))) (Nat.le_trans HR.out.le (by decide))) (λz re w5 hR=>⟨hR.1,?_⟩)
 obtain⟨jX,zy,yM⟩:=hR
 replace He:=Zh (He.out.ah (Et z.ext jX))
 replace HOA:=Zh (HOA.out.ah (Et z.ext jX))
 replace jX:=Et y4.ext (Et z.ext jX)
 have JB:=Zh zy
 have zB:Hid (∀q,re.ownBlock=some q→W1.heap.size≤q):=Zh (λq hq=>Nat.le_trans y4.ext.size (Nat.le_trans z.ext.size (yM q hq)))
 obtain⟨A3,n3,c3,rfl⟩:=aT He.out
 obtain⟨A4,n4,c4,rfl⟩:=aT HOA.out
 obtain⟨A5,n5,c5,rfl⟩:=aT JB.out
 have arY:b2<W1.heap.size:=su.out.lt
 replace jO:=Zh (jO.out.ah jX)
 replace su:=Zh (su.out.ah jX)
 have KY:=Zh (Et HE.out jX)
 have Jo:=HE.out.size
 clear jX zy yM z y4 v0 v1 v2 HE
 skip
 refine aY (off:=6) jO.out (λW3 hM hB=>?_)
 replace KY:=Zh (aB.bK KY.out hM (λk hk=>by subst hk;omega))
 replace su:=Zh (su.out.aW hM (by omega))
 replace He:=Zh (He.out.aW hM (λk hk e=>by have:=Zw.out k hk;omega))
 replace HOA:=Zh (HOA.out.aW hM (λk hk e=>by have:=HFA.out k hk;omega))
 replace JB:=Zh (JB.out.aW hM (λk hk e=>by have:=zB.out k hk;omega))
 replace jO:=Zh hB
 clear hM hB
 repeat'(first|refine aF ?_|fail)
 refine aY (off:=23) jO.out (λW4 hM hB=>?_)
 replace KY:=Zh (aB.bK KY.out hM (λk hk=>by subst hk;omega))
 replace su:=Zh (su.out.aW hM (by omega))
 replace He:=Zh (He.out.aW hM (λk hk e=>by have:=Zw.out k hk;omega))
 replace HOA:=Zh (HOA.out.aW hM (λk hk e=>by have:=HFA.out k hk;omega))
 replace JB:=Zh (JB.out.aW hM (λk hk e=>by have:=zB.out k hk;omega))
 replace jO:=Zh hB
 clear hM hB
 repeat'(first|refine aF ?_|fail)
 refine aY (off:=18) jO.out (λW5 hM hB=>?_)
 replace KY:=Zh (aB.bK KY.out hM (λk hk=>by subst hk;omega))
 replace su:=Zh (su.out.aW hM (by omega))
 replace He:=Zh (He.out.aW hM (λk hk e=>by have:=Zw.out k hk;omega))
 replace HOA:=Zh (HOA.out.aW hM (λk hk e=>by have:=HFA.out k hk;omega))
 replace JB:=Zh (JB.out.aW hM (λk hk e=>by have:=zB.out k hk;omega))
 replace jO:=Zh hB
 clear hM hB
 repeat'(first|refine aQ ?_|refine ak (λK hK=>?_)|refine aj ?_|go_step)
 have nU:cO W5 b1 104 30 (λk=>(xg ⟨m,.slice A3 n3 c3,.slice A5 n5 c5,.slice A4 n4 c4⟩).getD k undef):=jO.out.congr (λk hk=>match k,hk with|0,_=>rfl|1,_=>rfl|2,_=>rfl|3,_=>rfl|4,_=>rfl|5,_=>rfl|6,_=>rfl|7,_=>rfl|8,_=>rfl|9,_=>rfl|10,_=>rfl|11,_=>rfl|12,_=>rfl|13,_=>rfl|14,_=>rfl|15,_=>rfl|16,_=>rfl|17,_=>rfl|18,_=>rfl|19,_=>rfl|20,_=>rfl|21,_=>rfl|22,_=>rfl|23,_=>rfl|24,_=>rfl|25,_=>rfl|26,_=>rfl|27,_=>rfl|28,_=>rfl|29,_=>rfl|n+30,h=>absurd h (by simp))
 refine yR nU ?_ (hu:=Tryz.underlying104)
 have zA:(Value.agg ((List.range 30).map λk=>(xg ⟨m,.slice A3 n3 c3,.slice A5 n5 c5,.slice A4 n4 c4⟩).getD k undef).toArray)=(lF.v ⟨m,.slice A3 n3 c3,.slice A5 n5 c5,.slice A4 n4 c4⟩):=rfl
 rw[zA]
 clear zA nU
 skip
 refine aY (off:=0) su.out (λW6 hM hB=>?_)
 replace KY:=Zh (aB.bK KY.out hM (λk hk=>by subst hk;omega))
 replace He:=Zh (He.out.aW hM (λk hk e=>by have:=Zw.out k hk;omega))
 replace HOA:=Zh (HOA.out.aW hM (λk hk e=>by have:=HFA.out k hk;omega))
 replace JB:=Zh (JB.out.aW hM (λk hk e=>by have:=zB.out k hk;omega))
 replace su:=Zh hB
 clear hM hB
 repeat'(first|refine au ?_|refine aC ?_|go_step)
 exact jH (cs:=xg ⟨m,.slice A3 n3 c3,.slice A5 n5 c5,.slice A4 n4 c4⟩) hd ⟨KY.out,⟨m,.slice A3 n3 c3,.slice A5 n5 c5,.slice A4 n4 c4⟩,rfl,rfl,⟨He.out,JB.out,HOA.out,λk hk=>by have:=Zw.out k hk;omega,λk hk=>by have:=zB.out k hk;omega,λk hk=>by have:=HFA.out k hk;omega⟩⟩ su.out (λk hk=>Ns k hk) Tryz.underlying104
theorem JZ:LD Tryz.prog xg 30 65 104 288:=⟨λ_=>rfl,Tryz.underlying65,by decide,(lF.v ⟨eu.zero,.slice none 0 0,.slice none 0 0,.slice none 0 0⟩),by kernel_rfl,rfl⟩
theorem XY {y:lF} {A1 A2 A3:Option Addr} {n1 n2 n3 c1 c2 c3:Nat} (h1:y.uV=.slice A1 n1 c1) (h2:y.uE=.slice A2 n2 c2) (h3:y.uA=.slice A3 n3 c3):∀ u∈xg y,u.oneCell'=true:=by
 obtain⟨m,uV,uE,uA⟩:=y
 dsimp only at h1 h2 h3
 subst h1 h2 h3
 intro u hu
 simp only[xg,List.mem_cons,List.not_mem_nil,or_false]at hu
 rcases hu with rfl|rfl|rfl|rfl|rfl|rfl|rfl|rfl|rfl|rfl|rfl|rfl|rfl|rfl|rfl|rfl|rfl|rfl|rfl|rfl|rfl|rfl|rfl|rfl|rfl|rfl|rfl|rfl|rfl|rfl<;>rfl
section
variable {w w1 w2 w3 : World} {b : Nat} {A : og} {c : aO} {v' : Value} {y : lF} {F : Nat → Prop}
theorem OQ {f:gB} {bm:Nat} {uR uB v':Value} (k:Nat) (hk:k<6):LV f bm uR v' k=put (LV f bm uR uB) 5 [v'] k:=by
 obtain rfl|rfl|rfl|rfl|rfl|rfl:k=0∨k=1∨k=2∨k=3∨k=4∨k=5:=by omega
 all_goals rfl
theorem iJ.acw (h:iJ w b A c) (hE:aB w w1) (kL:bF (λq=>A.uB.ownBlock=some q) w1 w2) {ms:List lF} (hV:dQ xg 30 104 w2 v' ms) (hF:∀ k,v'.ownBlock=some k→A.uB.ownBlock=some k∨w1.heap.size≤k)
  (hms:∀ x∈ms,x∈A.ms∨CY w w1 x) (jd:bF (· =b) w2 w3) (hB:cO w3 b 107 6 (LV c.ctl.form A.bm A.uR v')) {c':aO} (hc:c'={c with iq:=ms.map (·.m)}) (hg:c'.dH):
  ∃T',iJ w3 b {A with uB:=v',ms:=ms,T:=T'} c'∧(∀k,A.T k≠0→T' k=A.T k)∧∀ k,T' k≠0→A.T k≠0∨(w.heap.size≤k∧(v'.ownBlock=some k∨k<w1.heap.size)):=by
 subst hc
 have hM:bF (λq=>A.uB.ownBlock=some q∨q=b) w w3:=bF.trans (bF.trans hE kL (H:=λq=>A.uB.ownBlock=some q) (λ_ _ h=>h.elim) (λ_ _ h=>h)) jd (λ_ _ h=>.inl h) (λ_ _ h=>.inr h)
 have Jo:=hE.size
 have JK:=kL.size
 have hs3:=jd.size
 have vK:∀ k,A.T k≠0→(λk=>if k<w.heap.size then A.T k else if v'.ownBlock=some k then 5 else if k<w1.heap.size then 6 else 0) k=A.T k:=λk hk=>if_pos (h.lt k hk)
 have Hg:∀ {k t},A.T k=t→t≠0→(λk=>if k<w.heap.size then A.T k else if v'.ownBlock=some k then 5 else if k<w1.heap.size then 6 else 0) k=t:=λh1 h2=>by rw[vK _ (by rw[h1];exact h2),h1]
 have bT:∀ k t,A.T k=t→t≠1→t≠5→¬ (A.uB.ownBlock=some k∨k=b):=λk t h1 h2 h3 hg=>by
  rcases hg with hg|hg
  ·have:=h.tB k hg;omega
  ·subst hg;have:=h.tb;omega
 have BJ:∀ k,w.heap.size≤k→k<w1.heap.size→(λk=>if k<w.heap.size then A.T k else if v'.ownBlock=some k then 5 else if k<w1.heap.size then 6 else 0) k=6:=λk h1 h2=>by
  show (if k<w.heap.size then _ else _)=6
  rw[if_neg (by omega),if_neg (λe=>?_),if_pos h2]
  rcases hF k e with h3|h3
  ·have:=h.lt k (by rw[h.tB k h3];decide);omega
  ·omega
 have Iu:∀ k,w.heap.size≤k→¬ (A.uB.ownBlock=some k∨k=b):=λk h1 hg=>by
  rcases hg with hg|hg
  ·have:=h.lt k (by rw[h.tB k hg];decide);omega
  ·subst hg;have:=h.gy.lt;omega
 have ahW:bF (λq=>A.uB.ownBlock=some q∨q=b) w1 w3:=bF.trans kL jd (λ_ _ h=>.inl h) (λ_ _ h=>.inr h)
 refine⟨λk=>if k<w.heap.size then A.T k else if v'.ownBlock=some k then 5 else if k<w1.heap.size then 6 else 0,⟨hB,(h.ctl.aW hM (λk hk=>bT _ _ hk (by decide) (by decide))).mono (λk hk=>Hg hk (by decide)),h.outer.aW hM (λk hk=>bT _ _ (h.tR k hk) (by decide) (by decide)),?_,h.rlen,h.Tm,?_,?_,rfl,?_,Hg h.tb (by decide),λk hk=>Hg (h.tR k hk) (by decide),?_,?_,hg⟩,vK,?_⟩
 ·intro p u hu
  obtain⟨ps,e1,e2,e3⟩:=h.row p u hu
  have Xr:p<c.gG.length:=by rw[←h.rlen];exact(Ge hu).1
  exact⟨ps,e1,e2.aW hM (λk hk=>bT _ _ (e3 k hk) (by omega) (by omega)),λk hk=>Hg (e3 k hk) (by omega)⟩
 ·intro p ps l hp hl
  obtain⟨e1,e2⟩:=h.gG p ps l hp hl
  exact⟨e1,λi q r hq hr=>((e2 i q r hq hr).aW hM (λk hk=>bT _ _ hk (by omega) (by omega))).mono λk hk=>Hg hk (by omega)⟩
 ·refine dQ.aW hV jd λk hk e=>?_
  subst e
  rcases hF k hk with h3|h3
  ·have h4:=h.tB k h3;rw[h.tb]at h4;omega
  ·have:=h.gy.lt;omega
 ·intro x hx
  rcases hms x hx with h1|h1
  ·exact((h.inner x h1).aW hM (λk hk=>bT _ _ hk (by decide) (by decide))).aaN (λk hk=>Hg hk (by decide))
  ·exact⟨h1.v.aW ahW (λk hk=>Iu k (h1.fv k hk)),h1.e.aW ahW (λk hk=>Iu k (h1.fe k hk)),h1.a.aW ahW (λk hk=>Iu k (h1.fa k hk)),λk hk=>BJ k (h1.fv k hk) (h1.v.lt k hk),λk hk=>BJ k (h1.fe k hk) (h1.e.lt k hk),λk hk=>BJ k (h1.fa k hk) (h1.a.lt k hk)⟩
 ·intro k hk
  rcases hF k hk with h3|h3
  ·exact Hg (h.tB k h3) (by decide)
  ·show (if k<w.heap.size then _ else _)=5
   rw[if_neg (by omega)];exact if_pos hk
 ·intro k hk
  have sF:(if k<w.heap.size then A.T k else if v'.ownBlock=some k then 5 else if k<w1.heap.size then 6 else 0)≠0:=hk
  by_cases h1:k<w.heap.size
  ·omega
  ·rw[if_neg h1]at sF
   by_cases h2:v'.ownBlock=some k
   ·have:=hV.lt k h2;omega
   ·rw[if_neg h2]at sF
    by_cases h3:k<w1.heap.size
    ·omega
    ·rw[if_neg h3]at sF;exact absurd rfl sF
 ·intro k hk
  have sF:(if k<w.heap.size then A.T k else if v'.ownBlock=some k then 5 else if k<w1.heap.size then 6 else 0)≠0:=hk
  by_cases h1:k<w.heap.size
  ·rw[if_pos h1]at sF;exact .inl sF
  ·refine .inr ⟨by omega,?_⟩
   rw[if_neg h1]at sF
   by_cases h2:v'.ownBlock=some k
   ·exact .inl h2
   ·rw[if_neg h2]at sF
    by_cases h3:k<w1.heap.size
    ·exact .inr h3
    ·rw[if_neg h3]at sF;exact absurd rfl sF
end
theorem Ak {w:World} {b:Nat} {F:Nat→Prop} {c:aO} {x:lF} (h:iO w b F c) (hx:Ja w x) (lU:Gt c.ctl.form x.m):gK Tryz.prog 106 #[.pointer (some ⟨b,0,none⟩),x.v] w λr w'=>r=.tuple #[]∧eP w b F (c.put x.m) w':=by
 have HH:=Zh h
 obtain⟨A0,h0,hF⟩:=h
 have HA:=Zh h0
 have HF:=Zh hF
 have HX:=Zh hx
 have QM:=Zh lU
 obtain⟨hlt,-,-,-,-,-,c5⟩:=h0.cells
 obtain⟨AB,nB,cB,hB⟩:=aT h0.iq
 have hnB:nB=c.iq.length:=by have h1:=dQ.rd (enc:=xg) (k:=30) (λ_=>rfl) h0.iq;rw[hB]at h1;rw[←h0.bm,List.length_map];exact(h1.length).symm▸rfl
 rw[hB]at c5
 subst hnB
 have Jt:A0.ms.length=c.iq.length:=by rw[←h0.bm,List.length_map]
 have HUB:=Zh hB
 have VX:=h0.bU.Ql
 obtain⟨m,uV,uE,uA⟩:=x
 obtain⟨Av,cv,hv,-⟩:=hx.v.int
 obtain⟨Ae,ce,he,-⟩:=hx.e.ent
 obtain⟨Aa,ca,ha,-⟩:=hx.a.int
 dsimp only at hv he ha
 subst hv he ha
 clear h0 hF hx lU hB
 by_cases Bl:c.iq.length<256
 ·have hri:(c.iq.length:Int)<256:=by omega
  have adB:c.put m={c with iq:=c.iq++[m]}:=by unfold aO.put;rw[if_pos Bl]
  have ao5:=Zh adB
  clear adB
  refine Fi (n:=21) Tryz.func106 ?_;intro A hd hA;simp only[ix,Nat.reduceAdd]
  (repeat'(first|refine ak (λK hK=>?_)|refine aj ?_|fail));(refine dI (λx K hK=>?_);go_simp;refine hK _ _ (aB.alloc _ _) ?_;clear hK K;refine aZ x ?_;generalize (World.ah _ x).heap.size=b3;intro yn aU bD bC bG aS;clear x);have qJ:=Zh (cO.new aS.out);have pI:=Zh yn.ext;have qQ:(World.heap w).size≤b3:=aU;generalize World.ah w yn=W0 at *;clear aU bD bC bG aS yn
  have xI:=qJ
  have BD:=pI
  have Xt:w.heap.size≤b3:=qQ
  obtain⟨y0,rfl⟩:=pI.out.get
  clear qJ pI qQ
  repeat'(first|refine aF ?_|refine au ?_|refine ak (λK hK=>?_)|refine aj ?_|refine bH ?_|go_step)
  refine dn [(0,0),(1,0),(2,0),(3,0),(4,0),(5,0),(6,1),(7,1),(8,2),(9,0),(10,0),(11,2)] (by kernel_rfl) (by kernel_rfl) ?_
  repeat'(first|refine aF ?_|fail)
  have ru:cO (w.ah y0) b3 104 30 (λk=>(xg ⟨m,.slice Av m.view.isr.length cv,.slice Ae m.reply.entries.length ce,.slice Aa m.alter.isr.length ca⟩).getD k undef):=xI.out.congr (λk hk=>match k,hk with|0,_=>rfl|1,_=>rfl|2,_=>rfl|3,_=>rfl|4,_=>rfl|5,_=>rfl|6,_=>rfl|7,_=>rfl|8,_=>rfl|9,_=>rfl|10,_=>rfl|11,_=>rfl|12,_=>rfl|13,_=>rfl|14,_=>rfl|15,_=>rfl|16,_=>rfl|17,_=>rfl|18,_=>rfl|19,_=>rfl|20,_=>rfl|21,_=>rfl|22,_=>rfl|23,_=>rfl|24,_=>rfl|25,_=>rfl|26,_=>rfl|27,_=>rfl|28,_=>rfl|29,_=>rfl|n+30,h=>absurd h (by simp))
  refine yR ru ?_ (hu:=Tryz.underlying104)
  have zA:(Value.agg ((List.range 30).map λk=>(xg ⟨m,.slice Av m.view.isr.length cv,.slice Ae m.reply.entries.length ce,.slice Aa m.alter.isr.length ca⟩).getD k undef).toArray)=(lF.v ⟨m,.slice Av m.view.isr.length cv,.slice Ae m.reply.entries.length ce,.slice Aa m.alter.isr.length ca⟩):=rfl
  rw[zA]
  clear zA ru
  skip
  refine fF (R:=λw0 r w'=>aB w0 w'∧∃ y:lF,y.m=m∧r=y.v∧CY w0 w' y) Tryz.func84 (λz=>Gv (HX.out.ah (Et BD.out z.ext))) (λz r w3 hR=>⟨hR.1,?_⟩)
  obtain⟨jX,y,hym,rfl,hy⟩:=hR
  have sD:aB w w3:=Et BD.out (Et z.ext jX)
  have HY:Hid (CY w w3 y):=Zh ⟨hy.v,hy.e,hy.a,λk hk=>Nat.le_trans (Et BD.out z.ext).size (hy.fv k hk),λk hk=>Nat.le_trans (Et BD.out z.ext).size (hy.fe k hk),λk hk=>Nat.le_trans (Et BD.out z.ext).size (hy.fa k hk)⟩
  obtain⟨ym,yV,yE,yA⟩:=y
  obtain⟨A1,n1,c1,h1⟩:=aT hy.v
  obtain⟨A2,n2,c2,h2⟩:=aT hy.e
  obtain⟨A3,n3,c3,h3⟩:=aT hy.a
  dsimp only at h1 h2 h3 hym
  subst h1 h2 h3 hym
  obtain⟨y3,rfl⟩:=sD.get
  clear jX hy sD z xI BD
  repeat'(first|(refine dI (λx K hK=>?_);go_simp;refine hK _ _ (aB.alloc _ _) ?_;clear hK K;refine aZ x ?_;generalize (World.ah _ x).heap.size=bn;intro yn aU bD bC bG aS;clear x)|fail)
  have fE:aB w ((w.ah y3).ah yn):=by simp
  refine LG (xs:=A0.ms) (ys:=[(⟨ym,.slice A1 n1 c1,.slice A2 n2 c2,.slice A3 n3 c3⟩:lF)]) JZ (λq hq=>by obtain rfl:=List.mem_singleton.1 hq;exact XY rfl rfl rfl) (by have h:=HA.out.iq.ah fE;rw[HUB.out]at h;exact h) (Rd.one (x:=(⟨ym,.slice A1 n1 c1,.slice A2 n2 c2,.slice A3 n3 c3⟩:lF)) bD bC rfl) (by simp;omega) (by unfold maxLen;simp;omega) (λv' W5 kJ vS BF=>?_)
  have hyn:CY w ((w.ah y3).ah yn) ⟨ym,.slice A1 n1 c1,.slice A2 n2 c2,.slice A3 n3 c3⟩:=HY.out.ah (by simp)
  have jm:¬ (Value.slice AB c.iq.length cB).ownBlock=some b:=λe=>by
   have h1:=HA.out.tB b (by rw[HUB.out];exact e)
   have h2:=HA.out.tb
   omega
  have pX:=(HA.out.gy.ah fE).aW kJ jm
  obtain⟨A6,m6,c6,rfl⟩:=aT vS
  have FD:=Zh pX
  have XU:=Zh vS
  have uo:=Zh kJ
  have MS:=Zh BF
  have HYN:=Zh hyn
  have P9:=Zh fE
  have Kr:=fE.size
  generalize World.ah (World.ah w y3) yn=V4 at *
  clear aU bD bC bG aS vS kJ BF pX jm fE hyn
  repeat'(first|refine aF ?_|fail)
  refine aY (off:=5) FD.out (λW6 jP nY=>?_)
  have hgd:(c.put ym).dH:=wX HA.out.bU QM.out
  obtain⟨T',Xl,Pv,QI⟩:=HA.out.acw P9.out (by rw[HUB.out];exact uo.out) XU.out (λk hk=>by
   rcases MS.out with h|⟨g,h,hle⟩
   ·rw[h]at hk;rw[HUB.out];exact .inl hk
   ·rw[h]at hk;cases hk;exact .inr hle) (λq hq=>by
   rcases List.mem_append.1 hq with h|h
   ·exact .inl h
   ·obtain rfl:=List.mem_singleton.1 h
    exact .inr HYN.out) jP (nY.congr (λq hq=>OQ q hq)) (c':=c.put ym) (by rw[ao5.out,List.map_append,HA.out.bm];rfl) hgd
  have bP:eP w b F (c.put ym) W6:=Xl.to P9.out (bF.trans uo.out jP (H:=λq=>(Value.slice AB c.iq.length cB).ownBlock=some q∨q=b) (λ_ _ h=>.inl h) (λ_ _ h=>.inr h)) (λq _ hq=>by
   rcases hq with hq|rfl
   ·exact HF.out q (by rw[HA.out.tB q (by rw[HUB.out];exact hq)];decide)
   ·exact HF.out q (by rw[HA.out.tb];decide)) (λk hk=>by
   rcases QI k hk with h|h
   ·exact .inl (HF.out k h)
   ·exact .inr h.1)
  have jG:=Zh bP
  clear bP Xl Pv QI hgd jP nY
  repeat'(first|refine aQ ?_|fail)
  exact iL hd ⟨rfl,jG.out⟩
 ·have hri:¬ (c.iq.length:Int)<256:=by omega
  have adB:c.put m=c:=by unfold aO.put;rw[if_neg Bl]
  rw[adB]
  clear adB
  refine Fi (n:=21) Tryz.func106 ?_;intro A hd hA;simp only[ix,Nat.reduceAdd]
  repeat'(first|refine aF ?_|refine au ?_|refine ak (λK hK=>?_)|refine aj ?_|refine aG ?_|(refine dI (λx K hK=>?_);go_simp;refine hK _ _ (aB.alloc _ _) ?_;clear hK K;refine aZ x ?_;generalize (World.ah _ x).heap.size=bn;intro yn aU bD bC bG aS;clear x)|refine bJ ?_|go_step)
  exact iL hd ⟨rfl,HH.out.jc (by simp)⟩
section
variable {w w0 w1 : World} {b : Nat} {A : og} {c : aO} {F : Nat → Prop}
theorem iJ.yt (h:iJ w b A c) (hF:∀ k,A.T k≠0→F k) (hE:aB w w0) {m:aH} (hm:wS w0 A.bm (λk=>A.T k=2) m w1) (hf:m.form=c.ctl.form):eP w b F {c with ctl:=m} w1:=
 ((h.ah hE).ahU hf hm.1 hm.2).to hE hm.1 (λk _ hk=>hF k (by rw[hk];decide)) (λk hk=>by
  rcases Gu (F:=F) hF hk with h1|h1
  ·exact .inl h1
  ·exact .inr (Nat.le_trans hE.size h1))
theorem iJ.Jb (h:iJ w b A c) (hF:∀ k,A.T k≠0→F k) (hE:aB w w0) {p i:Nat} (hp:p<c.ctl.form.parts.toNat) (hi:i<c.ctl.form.aK.toNat) {q:Nat} {ps:List Nat} (wK:A.ptrs[p]? =some ps) (hq:ps[i]? =some q) {r:aI} (hM:bF (λk=>A.T k=16+4 *p+i) w0 w1)
  (hR:oD w1 q (λk=>A.T k=16+4 *p+i∨w0.heap.size≤k) r) (hr:r.oU):eP w b F (c.aP p i r) w1:=
 ((h.ah hE).aP hp hi wK hq hM hR hr).to hE hM (λk _ hk=>hF k (by rw[hk];omega)) (λk hk=>by
  rcases Gu (F:=F) hF hk with h1|h1
  ·exact .inl h1
  ·exact .inr (Nat.le_trans hE.size h1))
end
theorem VY {w:World} {b:Nat} {F:Nat→Prop} {c:aO} (x:bV) (h:iO w b F c):gK Tryz.prog 45 #[.pointer (some ⟨b,0,none⟩),x.v] w λr w'=>r=.int .i64 (c.ctl.oJ x.a x.b (x.c != 0))∧eP w b F {c with ctl:=c.ctl.oK x.a x.b (x.c != 0)} w':=by
 have HH:=Zh h
 obtain⟨A0,h0,hF⟩:=h
 have HA:=Zh h0
 have HF:=Zh hF
 obtain⟨hlt,-,-,-,c3,-,-⟩:=h0.cells
 clear h0 hF
 refine Fi (n:=17) Tryz.func45 ?_;intro A hd hA;simp only[ix,Nat.reduceAdd]
 repeat'(first|refine aF ?_|refine au ?_|refine ak (λK hK=>?_)|refine aj ?_|(refine dI (λx K hK=>?_);go_simp;refine hK _ _ (aB.alloc _ _) ?_;clear hK K;refine aZ x ?_;generalize (World.ah _ x).heap.size=bn;intro yn aU bD bC bG aS;clear x)|go_step)
 refine dA (by kernel_rfl) (by kernel_rfl) ?_
 repeat'(first|refine aF ?_|fail)
 refine aX Tryz.func108 (VK x.a x.b (x.c != 0) (HA.out.ctl.ah (by simp))) (λr w2 hR=>?_)
 obtain⟨rfl,hm⟩:=hR
 have bP:=HA.out.yt HF.out (by simp) hm (zY _ _ _)
 have jG:=Zh bP
 clear bP hm
 repeat'(first|refine aF ?_|refine aQ ?_|refine aC ?_|go_step)
 exact aA hd ⟨rfl,jG.out⟩
theorem VZ {w:World} {b:Nat} {F:Nat→Prop} {c:aO} (x:bV) (h:iO w b F c):gK Tryz.prog 46 #[.pointer (some ⟨b,0,none⟩),x.v] w λr w'=>r=.int .i64 (c.ctl.iV x.a)∧eP w b F {c with ctl:=c.ctl.fence x.a} w':=by
 have HH:=Zh h
 obtain⟨A0,h0,hF⟩:=h
 have HA:=Zh h0
 have HF:=Zh hF
 obtain⟨hlt,-,-,-,c3,-,-⟩:=h0.cells
 clear h0 hF
 refine Fi (n:=12) Tryz.func46 ?_;intro A hd hA;simp only[ix,Nat.reduceAdd]
 repeat'(first|refine aF ?_|refine au ?_|refine ak (λK hK=>?_)|refine aj ?_|(refine dI (λx K hK=>?_);go_simp;refine hK _ _ (aB.alloc _ _) ?_;clear hK K;refine aZ x ?_;generalize (World.ah _ x).heap.size=bn;intro yn aU bD bC bG aS;clear x)|go_step)
 refine dA (by kernel_rfl) (by kernel_rfl) ?_
 repeat'(first|refine aF ?_|fail)
 refine aX Tryz.func109 (VP x.a (HA.out.ctl.ah (by simp))) (λr w2 hR=>?_)
 obtain⟨rfl,hm⟩:=hR
 have bP:=HA.out.yt HF.out (by simp) hm (zZ _)
 have jG:=Zh bP
 clear bP hm
 repeat'(first|refine aF ?_|refine aQ ?_|refine aC ?_|go_step)
 exact aA hd ⟨rfl,jG.out⟩
theorem NH {w:World} {b:Nat} {F:Nat→Prop} {c:aO} (x:bV) (h:iO w b F c):gK Tryz.prog 47 #[.pointer (some ⟨b,0,none⟩),x.v] w λr w'=>r=.int .i64 (c.ctl.nR x.a)∧eP w b F {c with ctl:=c.ctl.lV x.a} w':=by
 have HH:=Zh h
 obtain⟨A0,h0,hF⟩:=h
 have HA:=Zh h0
 have HF:=Zh hF
 obtain⟨hlt,-,-,-,c3,-,-⟩:=h0.cells
 clear h0 hF
 refine Fi (n:=12) Tryz.func47 ?_;intro A hd hA;simp only[ix,Nat.reduceAdd]
 repeat'(first|refine aF ?_|refine au ?_|refine ak (λK hK=>?_)|refine aj ?_|(refine dI (λx K hK=>?_);go_simp;refine hK _ _ (aB.alloc _ _) ?_;clear hK K;refine aZ x ?_;generalize (World.ah _ x).heap.size=bn;intro yn aU bD bC bG aS;clear x)|go_step)
 refine dA (by kernel_rfl) (by kernel_rfl) ?_
 repeat'(first|refine aF ?_|fail)
 refine aX Tryz.func110 (Ny x.a (HA.out.ctl.ah (by simp))) (λr w2 hR=>?_)
 obtain⟨rfl,hm⟩:=hR
 have bP:=HA.out.yt HF.out (by simp) hm (uN _)
 have jG:=Zh bP
 clear bP hm
 repeat'(first|refine aF ?_|refine aQ ?_|refine aC ?_|go_step)
 exact aA hd ⟨rfl,jG.out⟩
theorem V6 {w:World} {b:Nat} {F:Nat→Prop} {c:aO} (x:bV) (h:iO w b F c):gK Tryz.prog 50 #[.pointer (some ⟨b,0,none⟩),x.v] w λr w'=>r=.int .i64 (if(c.ctl.part x.a&&c.ctl.aV x.b)=false then 2 else 0)∧eP w b F (if(c.ctl.part x.a&&c.ctl.aV x.b)=false then c else c.aP x.a x.b (c.rep x.a x.b).flush) w':=by
 by_cases hq:(c.ctl.part x.a&&c.ctl.aV x.b)=false
 ·rw[if_pos hq,if_pos hq]
  have HH:=Zh h
  have HQ:=Zh hq
  clear h hq
  refine Fi (n:=18) Tryz.func50 ?_;intro A hd hA;simp only[ix,Nat.reduceAdd]
  repeat'(first|refine aN Tryz.func111 (OO x (HH.out.ah (by simp)) HQ.out) ?_|refine aF ?_|refine au ?_|refine ak (λK hK=>?_)|refine aj ?_|refine aC ?_|(refine dI (λx K hK=>?_);go_simp;refine hK _ _ (aB.alloc _ _) ?_;clear hK K;refine aZ x ?_;generalize (World.ah _ x).heap.size=bn;intro yn aU bD bC bG aS;clear x)|refine bH ?_|go_step)
  exact aA hd ⟨rfl,HH.out.jc (by simp)⟩
 ·rw[if_neg hq,if_neg hq]
  have jM:c.ctl.part x.a=true∧c.ctl.aV x.b=true:=by simpa using hq
  obtain⟨kind,xa,xb,xc⟩:=x
  dsimp only at jM
  obtain⟨p,rfl⟩:∃ p:Nat,xa=p:=⟨xa.toNat,by have:=fV jM.1;omega⟩
  obtain⟨i,rfl⟩:∃ i:Nat,xb=i:=⟨xb.toNat,by have:=dV jM.2;omega⟩
  have BP:=fV jM.1
  have JL:=dV jM.2
  have HH:=Zh h
  obtain⟨A0,h0,hF⟩:=h
  obtain⟨u,ps,q,-,wK,-,-,FM,-,jy,gu⟩:=h0.rep (p:=p) (i:=i) (by omega) (by omega)
  have HA:=Zh h0
  have HF:=Zh hF
  have J3:=Zh wK
  have J4:=Zh FM
  have qy:=Zh jy
  have oW:=Zh gu
  have Jp:p<c.ctl.form.parts.toNat:=by omega
  have ou:i<c.ctl.form.aK.toNat:=by omega
  have Zx:=Zh Jp
  have Lp:=Zh ou
  have CZ:=Zh jM
  clear h0 hF hq wK FM jy gu BP JL Jp ou jM
  dsimp only
  refine Fi (n:=18) Tryz.func50 ?_;intro A hd hA;simp only[ix,Nat.reduceAdd]
  repeat'(first|refine aN Tryz.func111 (CX ⟨kind,(p:Int),(i:Int),xc⟩ (HA.out.ah (by simp)) rfl rfl CZ.out.1 CZ.out.2 J3.out J4.out) ?_|refine aF ?_|refine au ?_|refine ak (λK hK=>?_)|refine aj ?_|refine aG ?_|(refine dI (λx K hK=>?_);go_simp;refine hK _ _ (aB.alloc _ _) ?_;clear hK K;refine aZ x ?_;generalize (World.ah _ x).heap.size=bn;intro yn aU bD bC bG aS;clear x)|refine bJ ?_|go_step)
  refine aX Tryz.func113 (RN (qy.out.ah (by simp)) oW.out.bU.ne oW.out.bU.bks) (λr w2 hR=>?_)
  obtain⟨rfl,hM,AU⟩:=hR
  have bP:=HA.out.Jb HF.out (by simp) Zx.out Lp.out J3.out J4.out hM (AU.mono λ_ h=>.inl h) (LP oW.out)
  have jG:=Zh bP
  clear bP hM AU
  repeat'(first|refine aF ?_|refine au ?_|refine aC ?_|go_step)
  exact aA hd ⟨rfl,jG.out⟩
theorem V7 {w:World} {b:Nat} {F:Nat→Prop} {c:aO} (x:bV) (h:iO w b F c):gK Tryz.prog 58 #[.pointer (some ⟨b,0,none⟩),x.v] w λr w'=>r=.int .i64 (if(c.ctl.part x.a&&c.ctl.aV x.b)=false then 2 else(c.rep x.a x.b).oI ⟨0,-1,0,0,1,x.c⟩)∧eP w b F (if(c.ctl.part x.a&&c.ctl.aV x.b)=false then c else c.aP x.a x.b ((c.rep x.a x.b).app ⟨0,-1,0,0,1,x.c⟩)) w':=by
 by_cases hq:(c.ctl.part x.a&&c.ctl.aV x.b)=false
 ·rw[if_pos hq,if_pos hq]
  have HH:=Zh h
  have HQ:=Zh hq
  clear h hq
  refine Fi (n:=25) Tryz.func58 ?_;intro A hd hA;simp only[ix,Nat.reduceAdd]
  repeat'(first|refine aN Tryz.func111 (OO x (HH.out.ah (by simp)) HQ.out) ?_|refine aF ?_|refine au ?_|refine ak (λK hK=>?_)|refine aj ?_|refine aC ?_|(refine dI (λx K hK=>?_);go_simp;refine hK _ _ (aB.alloc _ _) ?_;clear hK K;refine aZ x ?_;generalize (World.ah _ x).heap.size=bn;intro yn aU bD bC bG aS;clear x)|refine bH ?_|go_step)
  exact aA hd ⟨rfl,HH.out.jc (by simp)⟩
 ·rw[if_neg hq,if_neg hq]
  have jM:c.ctl.part x.a=true∧c.ctl.aV x.b=true:=by simpa using hq
  obtain⟨kind,xa,xb,xc⟩:=x
  dsimp only at jM
  obtain⟨p,rfl⟩:∃ p:Nat,xa=p:=⟨xa.toNat,by have:=fV jM.1;omega⟩
  obtain⟨i,rfl⟩:∃ i:Nat,xb=i:=⟨xb.toNat,by have:=dV jM.2;omega⟩
  have BP:=fV jM.1
  have JL:=dV jM.2
  have HH:=Zh h
  obtain⟨A0,h0,hF⟩:=h
  obtain⟨u,ps,q,-,wK,-,-,FM,-,jy,gu⟩:=h0.rep (p:=p) (i:=i) (by omega) (by omega)
  have HA:=Zh h0
  have HF:=Zh hF
  have J3:=Zh wK
  have J4:=Zh FM
  have qy:=Zh jy
  have oW:=Zh gu
  have Jp:p<c.ctl.form.parts.toNat:=by omega
  have ou:i<c.ctl.form.aK.toNat:=by omega
  have Zx:=Zh Jp
  have Lp:=Zh ou
  have CZ:=Zh jM
  clear h0 hF hq wK FM jy gu BP JL Jp ou jM
  dsimp only
  refine Fi (n:=25) Tryz.func58 ?_;intro A hd hA;simp only[ix,Nat.reduceAdd]
  repeat'(first|refine aN Tryz.func111 (CX ⟨kind,(p:Int),(i:Int),xc⟩ (HA.out.ah (by simp)) rfl rfl CZ.out.1 CZ.out.2 J3.out J4.out) ?_|refine aF ?_|refine au ?_|refine ak (λK hK=>?_)|refine aj ?_|refine aG ?_|(refine dI (λx K hK=>?_);go_simp;refine hK _ _ (aB.alloc _ _) ?_;clear hK K;refine aZ x ?_;generalize (World.ah _ x).heap.size=bn;intro yn aU bD bC bG aS;clear x)|refine bJ ?_|go_step)
  refine aX Tryz.func120 (KW (qy.out.ah (by simp)) oW.out.bU.ne oW.out.bU.ok oW.out.bU.len ⟨0,-1,0,0,1,xc⟩) (λr w2 hR=>?_)
  obtain⟨rfl,hM,AU⟩:=hR
  have bP:=HA.out.Jb HF.out (by simp) Zx.out Lp.out J3.out J4.out hM AU (CV oW.out _)
  have jG:=Zh bP
  clear bP hM AU
  repeat'(first|refine aF ?_|refine au ?_|refine ak (λK hK=>?_)|refine aj ?_|refine aC ?_|go_step)
  exact aA hd ⟨rfl,jG.out⟩
theorem eP.then {w w1 w2:World} {b:Nat} {F:Nat→Prop} {c c':aO} (h:eP w b F c w1) (h2:eP w1 b (λk=>(F k∨w.heap.size≤k)) c' w2):eP w b F c' w2:=by
 refine⟨bF.trans h.1 h2.1 (λ_ _ h=>h) (λk hk hg=>?_),h2.2.mono λk hk=>?_⟩
 ·rcases hg with hg|hg
  ·exact hg
  ·omega
 ·rcases hk with hk|hk
  ·exact hk
  ·exact .inr (Nat.le_trans h.1.size hk)
theorem eP.ext {w w1 w2:World} {b:Nat} {F:Nat→Prop} {c:aO} (hE:aB w w1) (h:eP w1 b F c w2):eP w b F c w2:=
 ⟨bF.trans hE h.1 (λ_ _ h=>h.elim) (λ_ _ h=>h),h.2.mono λk hk=>hk.imp id (λh=>Nat.le_trans hE.size h)⟩
theorem V8 {w:World} {b:Nat} {F:Nat→Prop} {c:aO} (x:bV) (h:iO w b F c):gK Tryz.prog 49 #[.pointer (some ⟨b,0,none⟩),x.v] w λr w'=>r=.int .i64 (if(c.ctl.part x.a&&c.ctl.aV x.b)=false then 2 else(if c.ctl.aV x.c=false then 2 else if(c.rep x.a x.b).role=2 then 0 else 211))∧eP w b F (if(c.ctl.part x.a&&c.ctl.aV x.b)=false then c else(if c.ctl.aV x.c=false then c else if(c.rep x.a x.b).role=2 then c.put {eu.zero with kind:=2,to:=x.c,part:=x.a,fetch:=(c.rep x.a x.b).Us} else c)) w':=by
 by_cases hq:(c.ctl.part x.a&&c.ctl.aV x.b)=false
 ·rw[if_pos hq,if_pos hq]
  have HH:=Zh h
  have HQ:=Zh hq
  clear h hq
  refine Fi (n:=39) Tryz.func49 ?_;intro A hd hA;simp only[ix,Nat.reduceAdd]
  repeat'(first|refine aN Tryz.func111 (OO x (HH.out.ah (by simp)) HQ.out) ?_|(refine pq ?_)|refine aF ?_|refine mg ?_|refine jF ?_|refine au ?_|refine ak (λK hK=>?_)|refine aj ?_|refine aC ?_|(refine dI (λx K hK=>?_);go_simp;refine hK _ _ (aB.alloc _ _) ?_;clear hK K;refine aZ x ?_;generalize (World.ah _ x).heap.size=bn;intro yn aU bD bC bG aS;clear x)|refine bH ?_|go_step)
  exact aA hd ⟨rfl,HH.out.jc (by simp)⟩
 ·rw[if_neg hq,if_neg hq]
  have jM:c.ctl.part x.a=true∧c.ctl.aV x.b=true:=by simpa using hq
  obtain⟨kind,xa,xb,xc⟩:=x
  dsimp only at jM
  obtain⟨p,rfl⟩:∃ p:Nat,xa=p:=⟨xa.toNat,by have:=fV jM.1;omega⟩
  obtain⟨i,rfl⟩:∃ i:Nat,xb=i:=⟨xb.toNat,by have:=dV jM.2;omega⟩
  have BP:=fV jM.1
  have JL:=dV jM.2
  have HH:=Zh h
  obtain⟨A0,h0,hF⟩:=h
  obtain⟨u,ps,q,-,wK,-,-,FM,-,jy,gu⟩:=h0.rep (p:=p) (i:=i) (by omega) (by omega)
  have HA:=Zh h0
  have HF:=Zh hF
  have J3:=Zh wK
  have J4:=Zh FM
  have qy:=Zh jy
  have oW:=Zh gu
  have Jp:p<c.ctl.form.parts.toNat:=by omega
  have ou:i<c.ctl.form.aK.toNat:=by omega
  have Zx:=Zh Jp
  have Lp:=Zh ou
  have CZ:=Zh jM
  clear h0 hF hq wK FM jy gu BP JL Jp ou jM
  dsimp only
  have amj:∀ z:World,True:=λ_=>trivial
  clear amj
  by_cases D5:c.ctl.aV xc=false
  ·rw[if_pos D5,if_pos D5]
   have HBR:=Zh D5
   clear D5
   refine Fi (n:=39) Tryz.func49 ?_;intro A hd hA;simp only[ix,Nat.reduceAdd]
   repeat'(first|refine aN Tryz.func111 (CX ⟨kind,(p:Int),(i:Int),xc⟩ (HA.out.ah (by simp)) rfl rfl CZ.out.1 CZ.out.2 J3.out J4.out) ?_|refine fU Tryz.func67 (λ_=>HBR.out▸iP xc (HH.out.ah (by simp))) ?_|refine dw ?_|refine aF ?_|refine au ?_|refine ak (λK hK=>?_)|refine aj ?_|refine aC ?_|(refine dI (λx K hK=>?_);go_simp;refine hK _ _ (aB.alloc _ _) ?_;clear hK K;refine aZ x ?_;generalize (World.ah _ x).heap.size=bn;intro yn aU bD bC bG aS;clear x)|refine bH ?_|go_step)
   exact aA hd ⟨rfl,HH.out.jc (by simp)⟩
  ·have D5:c.ctl.aV xc=true:=by simpa using D5
   have HBR:=Zh D5
   by_cases MX:(c.rep p i).role=2
   ·simp only[D5,Bool.true_eq_false,if_false,MX,if_true]
    have HRO:=Zh MX
    clear MX D5
    refine Fi (n:=39) Tryz.func49 ?_;intro A hd hA;simp only[ix,Nat.reduceAdd]
    repeat'(first|refine aN Tryz.func111 (CX ⟨kind,(p:Int),(i:Int),xc⟩ (HA.out.ah (by simp)) rfl rfl CZ.out.1 CZ.out.2 J3.out J4.out) ?_|refine fU Tryz.func67 (λ_=>HBR.out▸iP xc (HH.out.ah (by simp))) ?_|refine dw ?_|refine aF ?_|refine au ?_|refine ak (λK hK=>?_)|refine aj ?_|refine aG ?_|(refine dI (λx K hK=>?_);go_simp;refine hK _ _ (aB.alloc _ _) ?_;clear hK K;refine aZ x ?_;generalize (World.ah _ x).heap.size=bn;intro yn aU bD bC bG aS;clear x)|refine bJ ?_|go_step)
    refine aX Tryz.func112 (ahk (qy.out.ah (by simp)) oW.out.bU.ne oW.out.bU.BN HRO.out) (λr w2 hR=>?_)
    obtain⟨rfl,iU⟩:=hR
    obtain⟨y2,rfl⟩:=iU.get
    clear iU
    repeat'(first|refine aF ?_|refine au ?_|(refine jr (λyn bn aU bD bC bG aS=>?_))|refine ak (λK hK=>?_)|refine aj ?_|refine bH ?_|go_step)
    refine aX Tryz.func106 (Ak (x:=⟨{eu.zero with kind:=2,to:=xc,part:=(p:Int),fetch:=(c.rep p i).Us},.slice none 0 0,.slice none 0 0,.slice none 0 0⟩) (HH.out.ah (by simp)) ⟨Rd.nil _,Rd.nil _,Rd.nil _,Nat.zero_le _,Nat.zero_le _,Nat.zero_le _⟩ ⟨by show (1:Int)≤2∧(2:Int)≤7;decide,fV CZ.out.1,λ_=>dV HBR.out,(λe=>by cases e),Nat.zero_le _,Nat.zero_le _,Nat.zero_le _⟩) (λr w3 hR=>?_)
    obtain⟨rfl,bP⟩:=hR
    have jG:=Zh (bP.ext (w:=w) (by simp))
    clear bP
    repeat'(first|refine aF ?_|refine au ?_|refine ak (λK hK=>?_)|refine aj ?_|refine aC ?_|go_step)
    exact aA hd ⟨rfl,jG.out⟩
   ·simp only[D5,Bool.true_eq_false,if_false,if_neg MX]
    have HRO:=Zh MX
    clear MX D5
    refine Fi (n:=39) Tryz.func49 ?_;intro A hd hA;simp only[ix,Nat.reduceAdd]
    repeat'(first|refine aN Tryz.func111 (CX ⟨kind,(p:Int),(i:Int),xc⟩ (HA.out.ah (by simp)) rfl rfl CZ.out.1 CZ.out.2 J3.out J4.out) ?_|refine fU Tryz.func67 (λ_=>HBR.out▸iP xc (HH.out.ah (by simp))) ?_|refine dw ?_|refine aF ?_|refine au ?_|refine ak (λK hK=>?_)|refine aj ?_|refine aG ?_|(refine dI (λx K hK=>?_);go_simp;refine hK _ _ (aB.alloc _ _) ?_;clear hK K;refine aZ x ?_;generalize (World.ah _ x).heap.size=bn;intro yn aU bD bC bG aS;clear x)|refine bJ ?_|go_step)
    refine aX Tryz.func112 (ahl (qy.out.ah (by simp)) oW.out.bU.ne HRO.out) (λr w2 hR=>?_)
    obtain⟨rfl,iU⟩:=hR
    obtain⟨y2,rfl⟩:=iU.get
    clear iU
    repeat'(first|refine aF ?_|refine au ?_|(refine jr (λyn bn aU bD bC bG aS=>?_))|refine ak (λK hK=>?_)|refine aj ?_|refine aC ?_|refine aG ?_|refine bJ ?_|go_step)
    exact aA hd ⟨rfl,HH.out.jc (by simp)⟩
end Go.Ws
