/- Lemmas for the statements of this layer (joined texts); no condition. -/
import Derived.Scope
import Derived.ScopeJumps
import Derived.Test.YtdabdbmehmccnaaGreatCa00
import Derived.Test.YtdabdbmehmccnaaGreatCa01
import Derived.Test.YtdabdbmehmccnaaGreatCa02
namespace Go.Ws
open Go Go.RowKit Go.Proofs
set_option maxHeartbeats 4000000
set_option maxRecDepth 100000
set_option linter.unusedVariables false
set_option linter.unusedSimpArgs false
theorem dQ.empty {α:Type} {enc:α→ List Value} {k b:Nat} {E:TypeId} {w:World} (hb:w.heap[b]? =some (.cells #[] E)):dQ enc k E w (.slice (some ⟨b,0,none⟩) 0 0) ([]:List α):=
 ⟨by simp,.inr ⟨b,0,#[],rfl,Nat.zero_le _,hb,Nat.le_refl _,Nat.zero_le _,by simp,by simp⟩⟩
theorem abB (a:Option Addr) (n c:Nat) (w:World):(binOp .eql 43 (.slice a n c) (.slice none 0 0)).run Tryz.prog w=.ok (.bool a.isNone) w:=by
 cases a<;>rfl
theorem fH {w:World} {v:Value} {l:List Int} (hl:BU w v l) (hn:l.length≤1000000):gK Tryz.prog 65 #[v] w λv' w'=>aB w w'∧ig w' v' l∧∀ b,v'.ownBlock=some b→w.heap.size≤b:=by
 have zu:=Zh hl
 obtain⟨A0,c,rfl,hc,jT,HA⟩:=hl
 clear HA
 cases A0 with
 | none=>
  have wF:l=[]:=by
   obtain⟨A',c',h1,_,_,h4⟩:=zu.out
   cases h1
   rcases h4 with⟨_,h⟩|⟨b,o,h,_⟩
   ·exact h
   ·cases h
  subst wF
  have g:=λw=>abB none 0 c w
  refine Fi (n:=8) Tryz.func65 ?_;intro A hd hA;simp only[ix,Nat.reduceAdd]
  repeat'(first|refine aF ?_|refine au ?_|refine ak (λK hK=>?_)|refine aj ?_|refine aC ?_|refine bH ?_|go_step)
  exact aA hd ⟨by simp,dQ.nil _,by intro b hb;cases hb⟩
 | some a=>
  have g:=λw=>abB (some a) l.length c w
  refine Fi (n:=8) Tryz.func65 ?_;intro A hd hA;simp only[ix,Nat.reduceAdd]
  repeat'(first|refine aF ?_|refine au ?_|refine ak (λK hK=>?_)|refine aj ?_|refine aG ?_|(refine dI (λx K hK=>?_);go_simp;refine hK _ _ (aB.alloc _ _) ?_;clear hK K;refine aZ x ?_;generalize (World.ah _ x).heap.size=bn;intro yn aU bD bC bG aS;clear x)|refine bJ ?_|go_step)
  refine nZ (xs:=[]) xU (dQ.empty aS.out) (zu.out.ah (by simp)) (by simp;omega) (by unfold maxLen;simp;omega) (λv' W' hM hO hF _=>?_)
  repeat'(first|refine aF ?_|refine au ?_|refine aC ?_|go_step)
  refine aA hd ⟨aB.bK yn.2 hM (λb hb=>by cases hb;exact aU),hO,λb hb=>?_⟩
  have hs:w.heap.size≤(w.ah yn).heap.size:=yn.2.size
  rcases hF with h|⟨g,h,hg⟩
  ·rw[h]at hb;cases hb;exact aU
  ·rw[h]at hb;cases hb;omega
structure dL where
 leader:Int
 epoch:Int
 version:Int
 isr:List Int
def VV (w:World) (v:Value) (x:dL):Prop:=∃ u,v=.agg #[.int .i64 x.leader,.int .i64 x.epoch,.int .i64 x.version,u]∧BU w u x.isr
def dL.BN (v:dL):Bool:=decide (-1≤v.leader)&&decide (v.leader<4)&&rZ v.epoch 0 2147483647&&rZ v.version 0 2147483647&&fP v.isr&&decide (0<v.isr.length)&&(v.leader== -1||decide (v.leader∈v.isr))
theorem VV.ah {w w':World} {v:Value} {x:dL} (h:VV w v x) (hE:aB w w'):VV w' v x:=by
 obtain⟨u,h1,h2⟩:=h
 exact⟨u,h1,h2.ah hE⟩
theorem KN {w:World} {v:Value} {x:dL} (h:VV w v x):Pure Tryz.prog 216 #[v] w (.bool x.BN):=by
 obtain⟨u,rfl,hu⟩:=h
 have HU:=Zh hu
 obtain⟨A0,c,rfl,-⟩:=hu
 by_cases h1: -1≤x.leader
 ·by_cases h2:x.leader<4
  ·by_cases h3:rZ x.epoch 0 2147483647=true
   ·by_cases h4:rZ x.version 0 2147483647=true
    ·by_cases h5:fP x.isr=true
     ·by_cases h6:0<x.isr.length
      ·by_cases h7:x.leader= -1
       ·have hm:x.BN=true:=by simp[dL.BN,h1,h2,h3,h4,h5,h6,h7]
        rw[hm]
        refine Fi (n:=44) Tryz.func216 ?_;intro A hd hA;simp only[ix,Nat.reduceAdd]
        repeat'(first|refine fU Tryz.func257 (λ_=>nM _ _) ?_|refine fU Tryz.func164 (λ_=>oq _ _ _ (HU.out.ah (by simp))) ?_|(refine pq ?_)|refine dw ?_|refine aF ?_|refine mg ?_|refine au ?_|refine ak (λK hK=>?_)|refine aj ?_|refine aC ?_|(refine dI (λx K hK=>?_);go_simp;refine hK _ _ (aB.alloc _ _) ?_;clear hK K;refine aZ x ?_;generalize (World.ah _ x).heap.size=bn;intro yn aU bD bC bG aS;clear x)|go_step)
        exact aA hd ⟨rfl,by simp⟩
       ·have h7b:(x.leader== -1)=false:=beq_false_of_ne h7
        by_cases h8:x.leader∈x.isr
        ·have hm:x.BN=true:=by simp[dL.BN,h1,h2,h3,h4,h5,h6,h7,h8]
         rw[hm]
         refine Fi (n:=44) Tryz.func216 ?_;intro A hd hA;simp only[ix,Nat.reduceAdd]
         repeat'(first|refine fU Tryz.func257 (λ_=>nM _ _) ?_|refine fU Tryz.func164 (λ_=>oq _ _ _ (HU.out.ah (by simp))) ?_|refine fU Tryz.func148 (λ_=>eX _ _ _ _ (HU.out.ah (by simp))) ?_|refine dw ?_|refine aF ?_|refine au ?_|refine ak (λK hK=>?_)|refine aj ?_|refine aC ?_|(refine dI (λx K hK=>?_);go_simp;refine hK _ _ (aB.alloc _ _) ?_;clear hK K;refine aZ x ?_;generalize (World.ah _ x).heap.size=bn;intro yn aU bD bC bG aS;clear x)|go_step)
         exact aA hd ⟨rfl,by simp⟩
        ·have hm:x.BN=false:=by simp[dL.BN,h1,h2,h3,h4,h5,h6,h7,h8]
         rw[hm]
         refine Fi (n:=44) Tryz.func216 ?_;intro A hd hA;simp only[ix,Nat.reduceAdd]
         repeat'(first|refine fU Tryz.func257 (λ_=>nM _ _) ?_|refine fU Tryz.func164 (λ_=>oq _ _ _ (HU.out.ah (by simp))) ?_|refine fU Tryz.func148 (λ_=>eX _ _ _ _ (HU.out.ah (by simp))) ?_|refine dw ?_|refine aF ?_|refine au ?_|refine ak (λK hK=>?_)|refine aj ?_|refine aC ?_|(refine dI (λx K hK=>?_);go_simp;refine hK _ _ (aB.alloc _ _) ?_;clear hK K;refine aZ x ?_;generalize (World.ah _ x).heap.size=bn;intro yn aU bD bC bG aS;clear x)|go_step)
         exact aA hd ⟨rfl,by simp⟩
      ·have hm:x.BN=false:=by simp[dL.BN,h1,h2,h3,h4,h5,h6]
       rw[hm]
       refine Fi (n:=44) Tryz.func216 ?_;intro A hd hA;simp only[ix,Nat.reduceAdd]
       repeat'(first|refine fU Tryz.func257 (λ_=>nM _ _) ?_|refine fU Tryz.func164 (λ_=>oq _ _ _ (HU.out.ah (by simp))) ?_|(refine pq ?_)|refine dw ?_|refine aF ?_|refine mg ?_|refine jF ?_|refine au ?_|refine ak (λK hK=>?_)|refine aj ?_|refine aC ?_|(refine dI (λx K hK=>?_);go_simp;refine hK _ _ (aB.alloc _ _) ?_;clear hK K;refine aZ x ?_;generalize (World.ah _ x).heap.size=bn;intro yn aU bD bC bG aS;clear x)|go_step)
       exact aA hd ⟨rfl,by simp⟩
     ·have hm:x.BN=false:=by simp[dL.BN,h1,h2,h3,h4,h5]
      rw[hm]
      refine Fi (n:=44) Tryz.func216 ?_;intro A hd hA;simp only[ix,Nat.reduceAdd]
      repeat'(first|refine fU Tryz.func257 (λ_=>nM _ _) ?_|refine fU Tryz.func164 (λ_=>oq _ _ _ (HU.out.ah (by simp))) ?_|(refine pq ?_)|refine dw ?_|refine aF ?_|refine mg ?_|refine jF ?_|refine au ?_|refine ak (λK hK=>?_)|refine aj ?_|refine aC ?_|(refine dI (λx K hK=>?_);go_simp;refine hK _ _ (aB.alloc _ _) ?_;clear hK K;refine aZ x ?_;generalize (World.ah _ x).heap.size=bn;intro yn aU bD bC bG aS;clear x)|go_step)
      exact aA hd ⟨rfl,by simp⟩
    ·have hm:x.BN=false:=by simp[dL.BN,h1,h2,h3,h4]
     rw[hm]
     refine Fi (n:=44) Tryz.func216 ?_;intro A hd hA;simp only[ix,Nat.reduceAdd]
     repeat'(first|refine fU Tryz.func257 (λ_=>nM _ _) ?_|(refine pq ?_)|refine dw ?_|refine aF ?_|refine mg ?_|refine jF ?_|refine au ?_|refine ak (λK hK=>?_)|refine aj ?_|refine aC ?_|(refine dI (λx K hK=>?_);go_simp;refine hK _ _ (aB.alloc _ _) ?_;clear hK K;refine aZ x ?_;generalize (World.ah _ x).heap.size=bn;intro yn aU bD bC bG aS;clear x)|go_step)
     exact aA hd ⟨rfl,by simp⟩
   ·have hm:x.BN=false:=by simp[dL.BN,h1,h2,h3]
    rw[hm]
    refine Fi (n:=44) Tryz.func216 ?_;intro A hd hA;simp only[ix,Nat.reduceAdd]
    repeat'(first|refine fU Tryz.func257 (λ_=>nM _ _) ?_|(refine pq ?_)|refine dw ?_|refine aF ?_|refine mg ?_|refine jF ?_|refine au ?_|refine ak (λK hK=>?_)|refine aj ?_|refine aC ?_|(refine dI (λx K hK=>?_);go_simp;refine hK _ _ (aB.alloc _ _) ?_;clear hK K;refine aZ x ?_;generalize (World.ah _ x).heap.size=bn;intro yn aU bD bC bG aS;clear x)|go_step)
    exact aA hd ⟨rfl,by simp⟩
  ·have hm:x.BN=false:=by simp[dL.BN,h1,h2]
   rw[hm]
   refine Fi (n:=44) Tryz.func216 ?_;intro A hd hA;simp only[ix,Nat.reduceAdd]
   repeat'(first|(refine pq ?_)|refine dw ?_|refine aF ?_|refine mg ?_|refine jF ?_|refine au ?_|refine ak (λK hK=>?_)|refine aj ?_|refine aC ?_|(refine dI (λx K hK=>?_);go_simp;refine hK _ _ (aB.alloc _ _) ?_;clear hK K;refine aZ x ?_;generalize (World.ah _ x).heap.size=bn;intro yn aU bD bC bG aS;clear x)|go_step)
   exact aA hd ⟨rfl,by simp⟩
 ·have hm:x.BN=false:=by simp[dL.BN,h1]
  rw[hm]
  refine Fi (n:=44) Tryz.func216 ?_;intro A hd hA;simp only[ix,Nat.reduceAdd]
  repeat'(first|(refine pq ?_)|refine aF ?_|refine mg ?_|refine jF ?_|refine au ?_|refine ak (λK hK=>?_)|refine aj ?_|refine aC ?_|(refine dI (λx K hK=>?_);go_simp;refine hK _ _ (aB.alloc _ _) ?_;clear hK K;refine aZ x ?_;generalize (World.ah _ x).heap.size=bn;intro yn aU bD bC bG aS;clear x)|go_step)
  exact aA hd ⟨rfl,by simp⟩
def iD (a b:Int):Int:=if b<a then b else a
theorem jE (a b:Int):iD a b=min a b:=by unfold iD;split<;>omega
def oN (self:Int) (known:Nat→Int) (l:List Int) (n:Int):Int:=l.foldl (λn b=>if b=self then n else iD n (known b.toNat)) n
theorem F5 (self:Int) (known:Nat→Int) (l:List Int) (n x:Int):oN self known (l++[x]) n=if x=self then oN self known l n else iD (oN self known l n) (known x.toNat):=by simp[oN]
def aI.iT (s:aI):aI:=if s.role=3 then{s with high:=ku s.high (oN s.self s.known s.counts s.flushed)} else s
def Bks (l:List Int):Prop:=∀ b∈l,0≤b∧b<4
theorem xY {w:World} {b:Nat} {F:Nat→Prop} {s:aI} (h:oD w b F s) (hc:Bks s.counts):gK Tryz.prog 163 #[.pointer (some ⟨b,0,none⟩)] w λ_ w'=>bF F w w'∧oD w' b F s.iT:=by
 have hF:=Zh (h.yK)
 have HF:=h
 obtain⟨uL,uI,uC,h,hf⟩:=h.ex
 have H:=Zh h
 have BA:=Zh hf
 have HR:=Zh HF
 clear HF hf
 obtain⟨hlt,-,-,-,d3,d8,-,d10,-,-,d13,DR⟩:=h.cells
 clear h
 by_cases hr:s.role=3
 ·have hrb:(s.role != 3)=false:=by simp[hr]
  obtain⟨A0,c,rfl,Bq,jT,HC⟩:=H.out.rc.int
  have HC:=Zh HC
  have HBK:=Zh hc
  clear hc
  refine Fi (n:=49) Tryz.func163 ?_;intro A hd hA;simp only[ix,Nat.reduceAdd]
  repeat'(first|refine aF ?_|refine au ?_|refine ak (λK hK=>?_)|refine aj ?_|refine aG ?_|refine aJ ?_|refine bJ ?_|go_step)
  refine dJ [0,2,18,19,20] (λn vs w'=>∃ k:Nat,w'=w∧k+n=s.counts.length∧vs=[.pointer (some ⟨b,0,none⟩),.int .i64 (oN s.self s.known (s.counts.take k) s.flushed),.slice A0 s.counts.length c,.int .i64 s.counts.length,.int .i64 k]) s.counts.length hd hA (by decide) ⟨0,rfl,by omega,by simp[oN]⟩ ?_
  clear hd hA A;intro n vs B w' hd hA _ ⟨k,hw,hk,jk⟩;subst hw jk
  simp only[List.zip_cons_cons,List.zip_nil_right,List.zip_nil_left]
  by_cases hk2:k<s.counts.length
  ·obtain⟨x,b0,o,HX,rfl,hb,c0⟩:=HC.out k hk2
   have sZ:(k:Int)<s.counts.length:=by omega
   have HXX:=Zh HX
   clear HX
   obtain⟨hx0,hx4⟩:=HBK.out x (List.mem_of_getElem? HXX.out)
   by_cases Xc:x=s.self
   ·have DJ:(x != s.self)=false:=by simp[Xc]
    have HXS:=Zh Xc
    clear Xc
    repeat'(first|refine aF ?_|refine au ?_|refine ak (λK hK=>?_)|refine aj ?_|refine aG ?_|refine aJ ?_|refine bH ?_|refine bJ ?_|go_step)
    exact⟨_,_,rfl,hd,hA,n-1,by omega,k+1,trivial,by omega,by simp[gV HXX.out,F5,HXS.out]⟩
   ·have DJ:(x != s.self)=true:=by simp[Xc]
    have HXS:=Zh Xc
    have BO:=H.out.JR x.toNat (by omega)
    clear Xc
    repeat'(first|refine aF ?_|refine au ?_|refine ak (λK hK=>?_)|refine aj ?_|refine aG ?_|refine aJ ?_|refine bH ?_|go_step)
    exact⟨_,_,rfl,hd,hA,n-1,by omega,k+1,trivial,by omega,by simp[gV HXX.out,F5,HXS.out,iD]⟩
  ·obtain rfl:k=s.counts.length:=by omega
   repeat'(first|refine aF ?_|refine au ?_|refine ak (λK hK=>?_)|refine aj ?_|refine dS ?_|refine bJ ?_|go_step)
   refine aY (off:=14) H.out.gy (λW1 fM nU=>?_)
   have H1:=eG.dY (s':=s.iT) H.out fM nU (by unfold aI.iT;rw[if_pos hr]) (by unfold aI.iT;rw[if_pos hr]) (by unfold aI.iT;rw[if_pos hr]) (by
    unfold aI.iT;rw[if_pos hr]
    refine tK ⟨?_,?_,?_,?_,?_,?_,?_,?_,?_,?_,?_,?_,?_,?_,?_⟩<;>first|rfl|(rw[BZ 0 (by simp[Value.cells]) rfl];simp[yC,Value.cells,ku];done)|skip)
   repeat'(first|refine au ?_|fail)
   refine iL hd ⟨fM.mono (λk _ hk=>by subst hk;exact hF.out),⟨_,_,_,H1,BA.out⟩⟩
 ·have hrb:(s.role != 3)=true:=by simp[hr]
  have hs:s.iT=s:=by unfold aI.iT;rw[if_neg hr]
  have HS:=Zh hs
  refine Fi (n:=49) Tryz.func163 ?_;intro A hd hA;simp only[ix,Nat.reduceAdd]
  repeat'(first|refine aF ?_|refine au ?_|refine ak (λK hK=>?_)|refine aj ?_|refine aC ?_|refine bH ?_|go_step)
  exact iL hd ⟨bF.refl _ _,by rw[HS.out];exact HR.out⟩
def aI.Dp (s:aI) (v:dL):aI:={s with version:=v.version,isr:=v.isr,counts:=v.isr}
section
variable {w w' : World} {b : Nat} {uL uI uC u : Value} {s s' : aI} {l : List Int}
theorem eG.an5 (h:eG w b uL uI uC s) (hM:bF (· =b) w w') (hB:cO w' b 128 15 (put (yC s uL uI uC) 2 [u])) (hr:JQ w' u l) (n1:u.ownBlock≠some b) (n2:∀ k,uL.ownBlock=some k→u.ownBlock≠some k):eG w' b uL u uC {s with isr:=l}:=
 ⟨hB.congr (tK (by refine⟨?_,?_,?_,?_,?_,?_,?_,?_,?_,?_,?_,?_,?_,?_,?_⟩<;>rfl)),h.yK.aW hM (λk hk he=>h.nL (he▸hk)),hr,h.rc.aW hM (λk hk he=>h.nC (he▸hk)),h.nL,n1,h.nC,λk hk=>⟨n2 k hk,(h.nX k hk).2⟩⟩
theorem eG.aj2 (h:eG w b uL uI uC s) (hM:bF (· =b) w w') (hB:cO w' b 128 15 (put (yC s uL uI uC) 3 [u])) (hr:JQ w' u l) (n1:u.ownBlock≠some b) (n2:∀ k,uL.ownBlock=some k→u.ownBlock≠some k):eG w' b uL uI u {s with counts:=l}:=
 ⟨hB.congr (tK (by refine⟨?_,?_,?_,?_,?_,?_,?_,?_,?_,?_,?_,?_,?_,?_,?_⟩<;>rfl)),h.yK.aW hM (λk hk he=>h.nL (he▸hk)),h.ri.aW hM (λk hk he=>h.nI (he▸hk)),hr,h.nL,h.nI,n1,λk hk=>⟨(h.nX k hk).1,n2 k hk⟩⟩
theorem eG.aj3 {l:List cZ} (h:eG w b uL uI uC s) (hM:bF (· =b) w w') (hB:cO w' b 128 15 (put (yC s uL uI uC) 12 [u])) (hr:BX w' u l) (n1:u.ownBlock≠some b) (n2:∀ k,u.ownBlock=some k→uI.ownBlock≠some k∧uC.ownBlock≠some k):eG w' b u uI uC {s with log:=l}:=
 ⟨hB.congr (tK (by refine⟨?_,?_,?_,?_,?_,?_,?_,?_,?_,?_,?_,?_,?_,?_,?_⟩<;>rfl)),hr,h.ri.aW hM (λk hk he=>h.nI (he▸hk)),h.rc.aW hM (λk hk he=>h.nC (he▸hk)),n1,h.nI,h.nC,n2⟩
theorem eG.ahb {x:Int} (h:eG w b uL uI uC s) (hM:bF (· =b) w w') (hB:cO w' b 128 15 (put (yC s uL uI uC) 0 [.int .i64 x])):eG w' b uL uI uC {s with version:=x}:=
 h.dY hM hB rfl rfl rfl (tK (by refine⟨?_,?_,?_,?_,?_,?_,?_,?_,?_,?_,?_,?_,?_,?_,?_⟩<;>rfl))
theorem eG.ahc {x:Int} (h:eG w b uL uI uC s) (hM:bF (· =b) w w') (hB:cO w' b 128 15 (put (yC s uL uI uC) 1 [.int .i64 x])):eG w' b uL uI uC {s with qM:=x}:=
 h.dY hM hB rfl rfl rfl (tK (by refine⟨?_,?_,?_,?_,?_,?_,?_,?_,?_,?_,?_,?_,?_,?_,?_⟩<;>rfl))
theorem eG.F6 {x:Int} (h:eG w b uL uI uC s) (hM:bF (· =b) w w') (hB:cO w' b 128 15 (put (yC s uL uI uC) 10 [.int .i64 x])):eG w' b uL uI uC {s with role:=x}:=
 h.dY hM hB rfl rfl rfl (tK (by refine⟨?_,?_,?_,?_,?_,?_,?_,?_,?_,?_,?_,?_,?_,?_,?_⟩<;>rfl))
theorem eG.abC {x:Int} (h:eG w b uL uI uC s) (hM:bF (· =b) w w') (hB:cO w' b 128 15 (put (yC s uL uI uC) 11 [.int .i64 x])):eG w' b uL uI uC {s with epoch:=x}:=
 h.dY hM hB rfl rfl rfl (tK (by refine⟨?_,?_,?_,?_,?_,?_,?_,?_,?_,?_,?_,?_,?_,?_,?_⟩<;>rfl))
theorem eG.Vh {x:Int} (h:eG w b uL uI uC s) (hM:bF (· =b) w w') (hB:cO w' b 128 15 (put (yC s uL uI uC) 13 [.int .i64 x])):eG w' b uL uI uC {s with flushed:=x}:=
 h.dY hM hB rfl rfl rfl (tK (by refine⟨?_,?_,?_,?_,?_,?_,?_,?_,?_,?_,?_,?_,?_,?_,?_⟩<;>rfl))
theorem eG.PU {x:Int} (h:eG w b uL uI uC s) (hM:bF (· =b) w w') (hB:cO w' b 128 15 (put (yC s uL uI uC) 14 [.int .i64 x])):eG w' b uL uI uC {s with high:=x}:=
 h.dY hM hB rfl rfl rfl (tK (by refine⟨?_,?_,?_,?_,?_,?_,?_,?_,?_,?_,?_,?_,?_,?_,?_⟩<;>rfl))
def EM (g:Nat→Int) (i:Nat) (x:Int):Nat→Int:=λj=>if j=i then x else g j
theorem eG.RG {x:Int} (h:eG w b uL uI uC s) {i:Nat} (hi:i<4) (hM:bF (· =b) w w') (hB:cO w' b 128 15 (put (yC s uL uI uC) (4+i) [.int .i64 x])):eG w' b uL uI uC {s with known:=EM s.known i x}:=by
 obtain rfl|rfl|rfl|rfl:i=0∨i=1∨i=2∨i=3:=by omega
 all_goals exact h.dY hM hB rfl rfl rfl (tK (by refine⟨?_,?_,?_,?_,?_,?_,?_,?_,?_,?_,?_,?_,?_,?_,?_⟩<;>rfl))
theorem eG.XK (h:eG w b uL uI uC s) (hM:bF (· =b) w w') (hB:cO w' b 128 15 (put (yC s uL uI uC) 0 [.int .i64 0,.int .i64 0,.slice none 0 0,.slice none 0 0,.int .i64 0,.int .i64 0,.int .i64 0,.int .i64 0])):
  eG w' b uL (.slice none 0 0) (.slice none 0 0) {s with version:=0,qM:=0,isr:=[],counts:=[],known:=λ_=>0}:=
 ⟨hB.congr (tK (by refine⟨?_,?_,?_,?_,?_,?_,?_,?_,?_,?_,?_,?_,?_,?_,?_⟩<;>rfl)),h.yK.aW hM (λk hk he=>h.nL (he▸hk)),JQ.nil _,JQ.nil _,h.nL,(λh=>nomatch h),(λh=>nomatch h),λk hk=>⟨(λh=>nomatch h),(λh=>nomatch h)⟩⟩
end
theorem aT {α:Type} {enc:α→ List Value} {k:Nat} {E:TypeId} {w:World} {v:Value} {xs:List α} (h:dQ enc k E w v xs):∃ A n c,v=.slice A n c:=by
 rcases h.G6 with⟨h,_⟩|⟨g,c,h,_⟩
 ·exact⟨_,_,_,h⟩
 ·exact⟨_,_,_,h⟩
theorem IJ {w:World} {b:Nat} {F:Nat→Prop} {s:aI} {v:Value} {x:dL} (h:oD w b F s) (hv:VV w v x) (hn:x.isr.length≤1000000):
  gK Tryz.prog 218 #[.pointer (some ⟨b,0,none⟩),v] w λ_ w'=>bF F w w'∧oD w' b (λk=>F k∨w.heap.size≤k) (s.Dp x):=by
 have FC:=Zh (h.yK)
 obtain⟨uL,uI,uC,h,hf⟩:=h.ex
 have H:=Zh h
 have BA:=Zh hf
 have hlt:=h.gy.lt
 have zM:=Zh h.lt
 clear h hf
 obtain⟨u,rfl,hu⟩:=hv
 have HU:=Zh hu
 clear hu
 refine Fi (n:=24) Tryz.func218 ?_;intro A hd hA;simp only[ix,Nat.reduceAdd]
 repeat'(first|refine au ?_|refine ak (λK hK=>?_)|refine aj ?_|(refine dI (λx K hK=>?_);go_simp;refine hK _ _ (aB.alloc _ _) ?_;clear hK K;refine aZ x ?_;generalize (World.ah _ x).heap.size=bn;intro yn aU bD bC bG aS;clear x)|go_step)
 have NT:bn≠b:=by omega
 refine dn [(0,0),(1,0),(2,0),(3,0),(4,0),(5,0),(6,0),(8,0),(9,0),(7,1),(10,1),(11,0),(12,0),(13,0),(14,2),(15,0),(16,0),(17,0),(18,2),(19,0),(20,0),(21,0),(22,2)] (by kernel_rfl) (by kernel_rfl) ?_
 repeat'(first|refine aF ?_|fail)
 refine fF (R:=λw0 v' w'=>aB w0 w'∧ig w' v' x.isr∧∀ b,v'.ownBlock=some b→w0.heap.size≤b) Tryz.func65 (λz=>fH (HU.out.ah (by simp)) hn) (λz1 u1 w1 hR=>⟨hR.1,?_⟩)
 have UN:=Zh hR
 obtain⟨y1,rfl⟩:=hR.1.get
 clear hR
 skip
 refine fF (R:=λw0 v' w'=>aB w0 w'∧ig w' v' x.isr∧∀ b,v'.ownBlock=some b→w0.heap.size≤b) Tryz.func65 (λz=>fH (HU.out.ah (by simp)) hn) (λz2 u2 w2 hR=>⟨hR.1,?_⟩)
 have Ku:=Zh hR
 obtain⟨y2,rfl⟩:=hR.1.get
 clear hR
 generalize hW:World.ah _ y2=W
 have hE:aB w W:=by rw[←hW];simp
 have h1:ig W u1 x.isr:=by rw[←hW];exact(UN.out.2.1).aW (Et z2.2 y2.2) (λ_ _ h=>h)
 have h2:ig W u2 x.isr:=by rw[←hW];exact Ku.out.2.1
 have s1:∀ k,u1.ownBlock=some k→w.heap.size≤k:=λk hk=>Nat.le_trans (Et yn.2 z1.2).size (UN.out.2.2 k hk)
 have s2:∀ k,u2.ownBlock=some k→w.heap.size≤k:=λk hk=>Nat.le_trans (Et (Et (Et yn.2 z1.2) y1.2) z2.2).size (Ku.out.2.2 k hk)
 have HW:=Zh (H.out.ah hE)
 have H1:=Zh h1
 have H2:=Zh h2
 have HE:=Zh hE
 have hWb:b<W.heap.size:=HW.out.gy.lt
 clear hW h1 h2 hE
 have n1:u1.ownBlock≠some b:=λh=>by have:=s1 b h;omega
 have n2:u2.ownBlock≠some b:=λh=>by have:=s2 b h;omega
 have nl:∀ k,uL.ownBlock=some k→u1.ownBlock≠some k∧u2.ownBlock≠some k:=λk hk=>⟨λh=>by have:=s1 k h;have:=zM.out k (.inr (.inl hk));omega,λh=>by have:=s2 k h;have:=zM.out k (.inr (.inl hk));omega⟩
 obtain⟨A1,m1,c1,rfl⟩:=aT H1.out
 obtain⟨A2,m2,c2,rfl⟩:=aT H2.out
 have NN:=Zh (And.intro n1 (And.intro n2 (And.intro nl (And.intro s1 s2))))
 clear n1 n2 nl s1 s2
 repeat'(first|refine aF ?_|fail)
 refine aY (off:=0) HW.out.gy (λW1 fM nU=>?_)
 have Kv:=Zh (HW.out.ahb fM nU)
 repeat'(first|refine aF ?_|fail)
 refine aY (off:=2) Kv.out.gy (λW2 kL Fh=>?_)
 have HA2:=Zh (Kv.out.an5 kL Fh ((H1.out.Oj.aW fM (λk hk he=>NN.out.1 (he▸hk))).aW kL (λk hk he=>NN.out.1 (he▸hk))) NN.out.1 (λk hk=>(NN.out.2.2.1 k hk).1))
 repeat'(first|refine aF ?_|fail)
 refine aY (off:=3) HA2.out.gy (λW3 jd ru=>?_)
 have Oo:=Zh (HA2.out.aj2 jd ru (((H2.out.Oj.aW fM (λk hk he=>NN.out.2.1 (he▸hk))).aW kL (λk hk he=>NN.out.2.1 (he▸hk))).aW jd (λk hk he=>NN.out.2.1 (he▸hk))) NN.out.2.1 (λk hk=>(NN.out.2.2.1 k hk).2))
 repeat'(first|refine aQ ?_|fail)
 refine iL hd ⟨?_,_,_,_,Oo.out,?_⟩
 ·exact(bF.trans (bF.trans (bF.trans HE.out fM (λ_ _ h=>h.elim) (λ_ _ h=>h)) kL (λ_ _ h=>h) (λ_ _ h=>h)) jd (λ_ _ h=>h) (λ_ _ h=>h)).mono (λk _ hk=>by subst hk;exact FC.out)
 ·rintro k (rfl|hk|hk|hk)
  ·exact .inl FC.out
  ·exact .inl (BA.out k (.inr (.inl hk)))
  ·exact .inr (NN.out.2.2.2.1 k hk)
  ·exact .inr (NN.out.2.2.2.2 k hk)
theorem Bc:∀ (l:List Int) (p:Option Int),kP p l=true→Bks l
 | [],_,_=>by intro b hb;cases hb
 | x::xs,p,h=>by
  rw[qg]at h
  simp only[Bool.and_eq_true]at h
  intro b hb
  rcases List.mem_cons.1 hb with rfl|hb
  ·have:=h.1.1
   simp[rZ]at this
   omega
  ·exact Bc xs _ h.2 b hb
theorem Ci:∀ (l:List Int) (p:Int),kP (some p) l=true→ -1≤p→(l.length:Int)+p≤3∨l=[]
 | [],_,_,_=>.inr rfl
 | x::xs,p,h,hp=>by
  rw[qg]at h
  simp only[Bool.and_eq_true,decide_eq_true_eq]at h
  obtain⟨⟨h1,h2⟩,h3⟩:=h
  simp[rZ]at h1
  rcases Ci xs x h3 (by omega) with h|h
  ·left;simp;omega
  ·subst h;left;simp;omega
theorem qj {l:List Int} (h:fP l=true):l.length≤4:=by
 cases l with
 | nil=>simp
 | cons x xs=>
  unfold fP at h
  rw[qg]at h
  simp only[Bool.and_eq_true]at h
  have h1:=h.1.1
  simp[rZ]at h1
  rcases Ci xs x h.2 (by omega) with h|h
  ·simp;omega
  ·subst h;simp
theorem nN {l:List Int} (h:fP l=true):Bks l:=Bc l none h
def aI.pU (s:aI) (v:dL):aI×Int:=
 if s.role=3 then(if s.version<v.version then((s.Dp v).iT,0) else(s,210))
 else if s.role=1 then(if v.leader≠ -1∧v.leader≠s.self then({s with role:=2},0) else(s,210))
 else(s,0)
theorem abD {w:World} {b:Nat} {F:Nat→Prop} {s:aI} {v:Value} {x:dL} (h:oD w b F s) (hv:VV w v x) (hx:fP x.isr=true) (lU:(s.pU x).2=0):
  gK Tryz.prog 217 #[.pointer (some ⟨b,0,none⟩),v] w λ_ w'=>bF F w w'∧oD w' b (λk=>F k∨w.heap.size≤k) (s.pU x).1:=by
 have FC:=Zh h.yK
 have HP:=Zh h
 have HV:=Zh hv
 obtain⟨uL,uI,uC,h,hf⟩:=h.ex
 have H:=Zh h
 have BA:=Zh hf
 obtain⟨hlt,d0,-,-,-,d8,-,d10,-,-,-,-⟩:=h.cells
 have zM:=Zh h.lt
 clear h hf
 obtain⟨u,rfl,hu⟩:=hv
 clear hu
 by_cases h3:s.role=3
 ·have h3b:(s.role==3)=true:=by simp[h3]
  by_cases Xi:s.version<x.version
  ·have Yf:s.pU x=((s.Dp x).iT,0):=by unfold aI.pU;rw[if_pos h3,if_pos Xi]
   have Kt:decide (s.version<x.version)=true:=by simpa using Xi
   rw[Yf]
   clear lU Yf
   refine Fi (n:=42) Tryz.func217 ?_;intro A hd hA;simp only[ix,Nat.reduceAdd]
   repeat'(first|refine aF ?_|refine au ?_|refine ak (λK hK=>?_)|refine aj ?_|refine aJ ?_|(refine dI (λx K hK=>?_);go_simp;refine hK _ _ (aB.alloc _ _) ?_;clear hK K;refine aZ x ?_;generalize (World.ah _ x).heap.size=bn;intro yn aU bD bC bG aS;clear x)|refine bH ?_|go_step)
   refine dn [(0,0),(1,0),(2,0),(3,0),(4,0),(5,0),(6,0),(7,0),(8,1)] (by kernel_rfl) (by kernel_rfl) ?_
   repeat'(first|(refine dN Tryz.func161 (λ_=>dZ 210) ?_)|refine aF ?_|refine aQ ?_|refine ak (λK hK=>?_)|refine aj ?_|go_step)
   refine aX Tryz.func218 (IJ (HP.out.ah (by simp)) (HV.out.ah (by simp)) (by have:=qj hx;omega)) (λr1 w1 hR=>?_)
   have HR:=Zh hR
   clear hR
   repeat'(first|refine aF ?_|refine au ?_|refine aj ?_|go_step)
   refine aX Tryz.func163 (xY HR.out.2 (nN hx)) (λr2 w2 AU=>?_)
   have Ku:=Zh AU
   clear AU
   repeat'(first|refine au ?_|go_step)
   refine iL hd ⟨?_,?_⟩
   ·exact bF.trans (bF.trans yn.2 HR.out.1 (λ_ _ h=>h.elim) (λ_ _ h=>h)) Ku.out.1 (λ_ _ h=>h) (λk hk h=>h.elim id (λh=>by have:=yn.2.size;omega))
   ·exact Ku.out.2.mono (λk hk=>hk.imp id (λh=>Nat.le_trans yn.2.size h))
  ·exfalso
   unfold aI.pU at lU
   rw[if_pos h3,if_neg Xi]at lU
   cases lU
 ·have h3b:(s.role==3)=false:=by simp[h3]
  by_cases h1:s.role=1
  ·have h1b:(s.role==1)=true:=by simp[h1]
   by_cases hl:x.leader≠ -1∧x.leader≠s.self
   ·have Yf:s.pU x=({s with role:=2},0):=by unfold aI.pU;rw[if_neg h3,if_pos h1,if_pos hl]
    have Kt:(x.leader != -1)=true:=by simpa using hl.1
    have an6:(x.leader != s.self)=true:=by simpa using hl.2
    rw[Yf]
    clear lU Yf
    refine Fi (n:=42) Tryz.func217 ?_;intro A hd hA;simp only[ix,Nat.reduceAdd]
    repeat'(first|refine aF ?_|refine au ?_|refine ak (λK hK=>?_)|refine aj ?_|refine aJ ?_|(refine dI (λx K hK=>?_);go_simp;refine hK _ _ (aB.alloc _ _) ?_;clear hK K;refine aZ x ?_;generalize (World.ah _ x).heap.size=bn;intro yn aU bD bC bG aS;clear x)|refine bH ?_|refine bJ ?_|go_step)
    refine dn [(0,0),(1,0),(2,0),(3,0),(4,0),(5,0),(6,0),(7,0),(8,0),(9,0),(10,0),(11,0),(12,1)] (by kernel_rfl) (by kernel_rfl) ?_
    repeat'(first|(refine dN Tryz.func161 (λ_=>dZ 210) ?_)|refine dw ?_|refine aF ?_|refine aQ ?_|refine aj ?_|go_step)
    refine aY (off:=10) (H.out.ah yn.2).gy (λW1 fM nU=>?_)
    have Kv:=Zh ((H.out.ah yn.2).F6 fM nU)
    repeat'(first|refine au ?_|go_step)
    refine iL hd ⟨?_,_,_,_,Kv.out,λk hk=>.inl (BA.out k hk)⟩
    exact bF.trans yn.2 fM (λ_ _ h=>h.elim) (λk _ hk=>by subst hk;exact FC.out)
   ·exfalso
    unfold aI.pU at lU
    rw[if_neg h3,if_pos h1,if_neg hl]at lU
    cases lU
  ·have h1b:(s.role==1)=false:=by simp[h1]
   have Yf:s.pU x=(s,0):=by unfold aI.pU;rw[if_neg h3,if_neg h1]
   rw[Yf]
   clear lU Yf
   refine Fi (n:=42) Tryz.func217 ?_;intro A hd hA;simp only[ix,Nat.reduceAdd]
   repeat'(first|refine aF ?_|refine au ?_|refine ak (λK hK=>?_)|refine aj ?_|refine aG ?_|refine aJ ?_|(refine dI (λx K hK=>?_);go_simp;refine hK _ _ (aB.alloc _ _) ?_;clear hK K;refine aZ x ?_;generalize (World.ah _ x).heap.size=bn;intro yn aU bD bC bG aS;clear x)|refine bJ ?_|go_step)
   exact iL hd ⟨bF.mono yn.2 (λ_ _ h=>h.elim),(HP.out.ah yn.2).mono (λk hk=>.inl hk)⟩
theorem RH {w:World} {b:Nat} {F:Nat→Prop} {s:aI} {v:Value} {x:dL} (h:oD w b F s) (hv:VV w v x) (lU:(s.pU x).2≠0):
  (s.pU x)=(s,210)∧Fn Tryz.prog 217 #[.pointer (some ⟨b,0,none⟩),v] w (λe w'=>match e with|.panicked c=>c=FU 210∧aB w w'|_=>False):=by
 obtain⟨uL,uI,uC,h,hf⟩:=h.ex
 have H:=Zh h
 obtain⟨hlt,d0,-,-,-,d8,-,d10,-,-,-,-⟩:=h.cells
 clear h hf
 obtain⟨u,rfl,hu⟩:=hv
 clear hu
 by_cases h3:s.role=3
 ·have h3b:(s.role==3)=true:=by simp[h3]
  by_cases Xi:s.version<x.version
  ·exact absurd (by unfold aI.pU;rw[if_pos h3,if_pos Xi]) lU
  ·have Kt:decide (s.version<x.version)=false:=by simpa using Xi
   refine⟨by unfold aI.pU;rw[if_pos h3,if_neg Xi],?_⟩
   clear lU
   refine Fi (n:=42) Tryz.func217 ?_;intro A hd hA;simp only[ix,Nat.reduceAdd]
   repeat'(first|refine aF ?_|refine au ?_|refine ak (λK hK=>?_)|refine aj ?_|refine aJ ?_|(refine dI (λx K hK=>?_);go_simp;refine hK _ _ (aB.alloc _ _) ?_;clear hK K;refine aZ x ?_;generalize (World.ah _ x).heap.size=bn;intro yn aU bD bC bG aS;clear x)|refine bH ?_|go_step)
   refine Ec [(0,0),(1,0),(2,0),(3,0),(4,0),(5,0),(6,0),(7,0)] 8 (by kernel_rfl) (by kernel_rfl) ?_
   repeat'(first|refine aF ?_|refine aQ ?_|fail)
   refine mM Tryz.func161 (jD 210) (λc w' hC=>?_)
   obtain⟨rfl,hE⟩:=hC
   unfold zo;exact⟨w',by rw[eF,hd];rfl,rfl,Et yn.2 hE⟩
 ·have h3b:(s.role==3)=false:=by simp[h3]
  by_cases h1:s.role=1
  ·have h1b:(s.role==1)=true:=by simp[h1]
   by_cases hl:x.leader≠ -1∧x.leader≠s.self
   ·exact absurd (by unfold aI.pU;rw[if_neg h3,if_pos h1,if_pos hl]) lU
   ·refine⟨by unfold aI.pU;rw[if_neg h3,if_pos h1,if_neg hl],?_⟩
    clear lU
    by_cases hm:x.leader= -1
    ·have Kt:(x.leader != -1)=false:=by simpa using hm
     refine Fi (n:=42) Tryz.func217 ?_;intro A hd hA;simp only[ix,Nat.reduceAdd]
     repeat'(first|refine aF ?_|refine au ?_|refine ak (λK hK=>?_)|refine aj ?_|refine aJ ?_|(refine dI (λx K hK=>?_);go_simp;refine hK _ _ (aB.alloc _ _) ?_;clear hK K;refine aZ x ?_;generalize (World.ah _ x).heap.size=bn;intro yn aU bD bC bG aS;clear x)|refine bH ?_|refine bJ ?_|go_step)
     refine Ec [(0,0),(1,0),(2,0),(3,0),(4,0),(5,0),(6,0),(7,0),(8,0),(9,0),(10,0),(11,0)] 12 (by kernel_rfl) (by kernel_rfl) ?_
     repeat'(first|refine aF ?_|refine mg ?_|refine jF ?_|refine aQ ?_|fail)
     refine mM Tryz.func161 (jD 210) (λc w' hC=>?_)
     obtain⟨rfl,hE⟩:=hC
     unfold zo;exact⟨w',by rw[eF,hd];rfl,rfl,Et yn.2 hE⟩
    ·have Kt:(x.leader != -1)=true:=by simpa using hm
     have an6:(x.leader != s.self)=false:=by
      have:x.leader=s.self:=Classical.byContradiction λh=>hl ⟨hm,h⟩
      simpa using this
     refine Fi (n:=42) Tryz.func217 ?_;intro A hd hA;simp only[ix,Nat.reduceAdd]
     repeat'(first|refine aF ?_|refine au ?_|refine ak (λK hK=>?_)|refine aj ?_|refine aJ ?_|(refine dI (λx K hK=>?_);go_simp;refine hK _ _ (aB.alloc _ _) ?_;clear hK K;refine aZ x ?_;generalize (World.ah _ x).heap.size=bn;intro yn aU bD bC bG aS;clear x)|refine bH ?_|refine bJ ?_|go_step)
     refine Ec [(0,0),(1,0),(2,0),(3,0),(4,0),(5,0),(6,0),(7,0),(8,0),(9,0),(10,0),(11,0)] 12 (by kernel_rfl) (by kernel_rfl) ?_
     repeat'(first|refine dw ?_|refine aF ?_|refine aQ ?_|fail)
     refine mM Tryz.func161 (jD 210) (λc w' hC=>?_)
     obtain⟨rfl,hE⟩:=hC
     unfold zo;exact⟨w',by rw[eF,hd];rfl,rfl,Et yn.2 hE⟩
  ·exact absurd (by unfold aI.pU;rw[if_neg h3,if_neg h1]) lU
theorem adu {L:List (Int×Int×Nat)} (hn:(L.map (·.1)).Nodup) {xs:List Int} (h:Uo L (·.1) xs):xs.Nodup∧∀ x,x∈xs↔(BH L x).isSome=true:=by
 obtain⟨P,hP,rfl⟩:=h
 refine⟨(hP.map (·.1)).nodup_iff.2 hn,λx=>?_⟩
 rw[List.mem_map]
 constructor
 ·rintro⟨y,hy,rfl⟩
  exact Option.isSome_iff_exists.2 ⟨_,(KL hn _ _).2 ⟨y.2.2,hP.mem_iff.1 hy⟩⟩
 ·intro hk
  obtain⟨v,hv⟩:=Option.isSome_iff_exists.1 hk
  obtain⟨b,hb⟩:=(KL hn _ _).1 hv
  exact⟨_,hP.mem_iff.2 hb,rfl⟩
section
variable {P : Program} {Q : jo} {w : World} {A : Act}
theorem KO {fn:Func} {R:Hq} {e:Exit} {t b:Nat} {ty:TypeId} {v:Value} {l:List (Nat×Value)} {D:Nat} (hd:A.defers=[{target:=.collected D,args:= #[]}]) (hD:w.heap[D]? =some (.deferred (some []))) (hR:R (.returned v) (w.putObj D (.deferred none)))
  (hlt:b<w.heap.size) (hc:w.cell? ⟨b,0,none⟩=some v) (jm:b≠D) (Yf:∀ w,(isAgg ty).run P w=.ok false w) (hr:fn.results= #[.cell t ty]:=by rfl) (he:e=.ret∨e=.normal:=by first|exact .inl rfl|exact .inr rfl)
  (hv:Is ((fr l A).tmps.getD t undef) (.pointer (some ⟨b,0,none⟩)):=by go_simp;exact Is.mk _):zo P fn R e (fr l A) w:=by
 have hM:=rG w D (.deferred none)
 have key:∀ x:bM (w.putObj D (.deferred none)),(results fn (fr l A).tmps).run P ((w.putObj D (.deferred none)).ah x)=.ok v ((w.putObj D (.deferred none)).ah x):=by
  intro x
  have h0:((w.putObj D (.deferred none)).ah x).cell? ⟨b,0,none⟩=some v:=by rw[rP _ _ _ _ (Nat.lt_of_lt_of_le hlt hM.size),bI hM hlt jm];exact hc
  have h2:(fr l A).tmps[t]?.getD undef=.pointer (some ⟨b,0,none⟩):=by simpa using hv.eq
  simp[results,hr,h2,asAddr,loadVar,Yf,Go.load,Sem.run_bind,Sem.run,h0]
 unfold zo
 rcases he with rfl|rfl<;>exact⟨_,YJ hd hD l,_,key,hR⟩
end
structure Jw (w:World) (b o:Nat) (r:Wr) (m0 m1:Nat):Prop where
 lt:b<w.heap.size
 c0:w.cell? ⟨b,o,none⟩=some (.int .i64 r.high)
 c1:w.cell? ⟨b,o+1,none⟩=some (.int .i64 r.fO)
 c2:w.cell? ⟨b,o+2,none⟩=some (.map (some m0))
 c3:w.cell? ⟨b,o+3,none⟩=some (.map (some m1))
 i0:eU ki ki w m0 r.next
 i1:eU ki ki w m1 r.opens
theorem Jw.ah {w w':World} {b o:Nat} {r:Wr} {m0 m1:Nat} (h:Jw w b o r m0 m1) (hE:aB w w'):Jw w' b o r m0 m1:=by
 have e:∀ k,w'.cell? ⟨b,k,none⟩=w.cell? ⟨b,k,none⟩:=λk=>bI hE h.lt (λh=>h)
 exact⟨Nat.lt_of_lt_of_le h.lt hE.size,by rw[e];exact h.c0,by rw[e];exact h.c1,by rw[e];exact h.c2,by rw[e];exact h.c3,h.i0.ah hE,h.i1.ah hE⟩
theorem F7 {w:World} {b o:Nat} {r:Wr} {m0 m1:Nat} (h:Jw w b o r m0 m1) (num:Int) (ob:Bool) (Xj:ob=true↔∃ n,(r.opens n).isSome=true∧n≠num):
  Pure Tryz.prog 266 #[.pointer (some ⟨b,o,none⟩),.int .i64 num] w (.bool ob):=by
 have HH:=Zh h
 have HOB:=Zh Xj
 have hlt:=h.lt
 have c3:=h.c3
 obtain⟨L,clock,hL,hf⟩:=h.i1
 have HL:=Zh hL
 have Hf:=Zh hf
 clear h Xj hL hf
 refine Fi (n:=15) Tryz.func266 ?_;intro A hd hA;simp only[ix,Nat.reduceAdd]
 repeat'(first|refine aF ?_|refine au ?_|refine ak (λK hK=>?_)|refine aj ?_|(refine dI (λx K hK=>?_);go_simp;refine hK _ _ (aB.alloc _ _) ?_;clear hK K;refine aZ x ?_;generalize (World.ah _ x).heap.size=bn;intro yn aU bD bC bG aS;clear x)|go_step)
 rename_i b3 y3 p1 p2 p3 p4 p5 K0 K1
 rename Nat=>b4
 rename bM (World.ah _ _)=>y4
 have g3:cO (w.ah y3) b3 2 1 _:=cO.one p5.out
 have g4:cO ((w.ah y3).ah y4) b4 4 1 _:=cO.one aS.out
 have q4:=bD
 have q3:=aU
 clear p3 p4 p5 bC bG aS
 refine aX Tryz.func282 PO (λv' w1 hR=>?_)
 obtain⟨bk,rfl,kY,JF,hk2,hk3⟩:=hR
 have s3:w.heap.size≤(w.ah y3).heap.size:=y3.2.size
 have s4:(w.ah y3).heap.size≤((w.ah y3).ah y4).heap.size:=y4.2.size
 have s1:=kY.size
 have HE:Hid (aB w w1):=Zh (Et (by simp) kY)
 have G3:Hid (cO w1 b3 2 1 (λ_=>.int .i64 num)):=Zh ((g3.ah y4.2).ah kY)
 have G4:Hid (cO w1 b4 4 1 (λ_=>.bool false)):=Zh (g4.ah kY)
 have HL1:=Zh (HL.out.ah HE.out)
 clear g3 g4 kY
 repeat'(first|refine au ?_|refine aJ ?_|go_step)
 refine XH (ps:=[11]) (encs:=λx:Int=>[.int .i64 x]) Tryz.func284 (by kernel_rfl) (YL hk2 hk3 HL1.out) (λ_=>rfl) (by go_simp;exact Is.mk _)
  (λpre B W=>B=(λk=>k=b4)∧bF (λk=>k=b4) w1 W∧cO W b4 4 1 (λ_=>.bool false)∧∀ x∈pre,x=num)
  (λc pre B W=>c=.ret∧B=(λk=>k=b4)∧bF (λk=>k=b4) w1 W∧cO W b4 4 1 (λ_=>.bool true)∧ob=true) ?_ ?_ (λk=>k=b4) ⟨rfl,bF.refl _ _,G4.out,by intro x hx;cases hx⟩ ?_ ?_ ?_ ?_
 ·rintro pre B W W' ⟨rfl,hM,hB,hp⟩ oQ
  exact⟨rfl,bF.trans hM oQ (λ_ _ h=>h) (λk hk h=>by have:=h.2;omega),hB.aW oQ (λh=>h.1 rfl),hp⟩
 ·rintro c pre B W W' ⟨rfl,rfl,hM,hB,hp⟩ oQ
  exact⟨rfl,rfl,bF.trans hM oQ (λ_ _ h=>h) (λk hk h=>by have:=h.2;omega),hB.aW oQ (λh=>h.1 rfl),hp⟩
 ·rintro k rfl
  refine⟨by omega,λh=>?_⟩
  have:=HL.out.lt
  omega
 ·rintro l pre B x W wF Yj ⟨rfl,hM,hB,hp⟩ hBl JH
  have hG3:=G3.out.aW hM (by omega)
  have t3:=hG3.lt
  have t30:=hG3.cell (k:=0) (by omega)
  have hx:(BH L x).isSome=true:=by
   obtain⟨P,hPn,hPs,hPe⟩:=JH
   have:x∈P.map (·.1):=by rw[←hPe];simp
   obtain⟨y,hy,rfl⟩:=List.mem_map.1 this
   exact Option.isSome_iff_exists.2 ⟨_,(KL HL.out.keys _ _).2 ⟨y.2.2,hPs y hy⟩⟩
  have HM:=Zh hM
  have HB:=Zh hB
  have HP:=Zh hp
  have an7:=hBl b4 rfl
  clear hM hB hp hG3
  simp only[List.zip_cons_cons,List.zip_nil_right,List.reverse_cons,List.reverse_nil,List.nil_append,List.singleton_append]
  repeat'(first|refine aF ?_|refine au ?_|refine aj ?_|go_step)
  refine⟨by simp,λW2 kL=>?_⟩
  have u3:b3<W2.heap.size:=Nat.lt_of_lt_of_le t3 kL.size
  rw[←bI kL t3 (by omega)]at t30
  have su:=Zh (HB.out.aW kL an7.1)
  have IK:=Zh (bF.trans HM.out kL (λ_ _ h=>h) (λk hk h=>by omega):bF (λk=>k=b4) w1 W2)
  repeat'(first|refine aF ?_|refine au ?_|refine ak (λK hK=>?_)|refine aj ?_|refine aG ?_|refine aJ ?_|refine rE (λhc=>?_) (λhc=>?_)|go_step)
  ·have jm:x≠num:=by simpa using hc
   refine aY (off:=0) su.out (λW3 jd ru=>?_)
   have FK:cO W3 b4 4 1 (λ_=>.bool true):=ru.congr (λk hk=>by
    obtain rfl:k=0:=by omega
    simp[kZ,Value.cells])
   repeat'(first|refine au ?_|refine aC ?_|go_step)
   refine⟨_,⟨rfl,rfl,bF.trans IK.out jd (λ_ _ h=>h) (λ_ _ h=>h),FK,HOB.out.2 ⟨x,by rw[Hf.out];exact hx,jm⟩⟩,bF.mono jd (λk _ e=>.inl e),λk hk=>⟨.inl hk,by subst hk;exact FK.lt⟩⟩
  ·have he:x=num:=by simpa using hc
   refine⟨_,⟨rfl,IK.out,su.out,λy hy=>?_⟩,bF.refl _ _,λk hk=>⟨.inl hk,by subst hk;exact su.out.lt⟩⟩
   rcases List.mem_append.1 hy with h|h
   ·exact HP.out y h
   ·rw[List.mem_singleton]at h;rw[h,he]
 ·rintro D xs B W hD hBD hS ⟨rfl,hM,hB,hp⟩ hDD
  have Xj:ob=false:=by
   rw[←Bool.not_eq_true,HOB.out]
   rintro⟨n,hn,jm⟩
   rw[Hf.out]at hn
   exact jm (hp n (((adu HL.out.keys hS).2 n).2 hn))
  have HB:=Zh hB
  have lX:=Zh (aB.bK HE.out hM (λk hk=>by omega))
  clear hM hB hp
  repeat'(first|refine ak (λK hK=>?_)|refine aj ?_|go_step)
  refine aY (off:=0) HB.out (λW3 jd ru=>?_)
  have an8:W3.heap[D]? =some (.deferred (some [])):=(jd.block D (Array.getElem?_eq_some_iff.1 hDD).1 (by omega)).trans hDD
  have jX:aB w W3:=aB.bK lX.out jd (λk hk=>by omega)
  repeat'(first|refine au ?_|refine aC ?_|go_step)
  refine KO (b:=b4) (by simp[hd]) an8 ⟨by rw[Xj],jX.abv (by omega) _⟩ ru.lt ((ru.cell (k:=0) (by omega)).trans (by simp[kZ,Value.cells])) (by omega) Tryz.isAgg4
 ·rintro D c pre B W hD hBD ⟨rfl,rfl,hM,hB,Xj⟩ hDD
  refine aC ?_
  exact KO (b:=b4) (v:=.bool true) (by simp[hd]) hDD ⟨by rw[Xj],(aB.bK HE.out hM (λk hk=>by omega)).abv (by omega) _⟩ hB.lt (hB.cell (k:=0) (by omega)) (by omega) Tryz.isAgg4
section
variable {w : World} {b o : Nat} {r : Wr} {m0 m1 : Nat}
abbrev RI (fk:FuncId) (b o:Nat) (e:cZ) (w:World) (v:Bool):Prop:=Pure Tryz.prog fk #[.pointer (some ⟨b,o,none⟩),e.v] w (.bool v)
theorem aj6 (h:Jw w b o r m0 m1) (e:cZ):RI 264 b o e w (decide (e.num≤r.fO)):=by
 obtain⟨hlt,c0,c1,c2,c3,i0,i1⟩:=h
 refine Fi (n:=12) Tryz.func264 ?_;intro A hd hA;simp only[ix,Nat.reduceAdd]
 repeat'(first|refine aF ?_|refine aQ ?_|refine au ?_|refine ak (λK hK=>?_)|refine aj ?_|refine dA (by kernel_rfl) (by kernel_rfl) ?_|refine aC ?_|(refine dI (λx K hK=>?_);go_simp;refine hK _ _ (aB.alloc _ _) ?_;clear hK K;refine aZ x ?_;generalize (World.ah _ x).heap.size=bn;intro yn aU bD bC bG aS;clear x)|go_step)
 exact aA hd ⟨rfl,by simp⟩
theorem aj7 (h:Jw w b o r m0 m1) (e:cZ) (ob:Bool) (Xj:ob=true↔∃ n,(r.opens n).isSome=true∧n≠e.num):RI 265 b o e w (decide (e.num<r.high)||ob):=by
 have HH:=Zh h
 have HOB:=Zh Xj
 obtain⟨hlt,c0,c1,c2,c3,i0,i1⟩:=h
 clear Xj i0 i1
 by_cases hq:e.num<r.high
 ·have hv:(decide (e.num<r.high)||ob)=true:=by simp[hq]
  rw[hv]
  refine Fi (n:=18) Tryz.func265 ?_;intro A hd hA;simp only[ix,Nat.reduceAdd]
  repeat'(first|refine aF ?_|refine au ?_|refine ak (λK hK=>?_)|refine aj ?_|(refine dI (λx K hK=>?_);go_simp;refine hK _ _ (aB.alloc _ _) ?_;clear hK K;refine aZ x ?_;generalize (World.ah _ x).heap.size=bn;intro yn aU bD bC bG aS;clear x)|go_step)
  refine dA (by kernel_rfl) (by kernel_rfl) ?_
  repeat'(first|(refine pq ?_)|refine aF ?_|refine mg ?_|refine aQ ?_|refine aC ?_|go_step)
  exact aA hd ⟨rfl,by simp⟩
 ·have hv:(decide (e.num<r.high)||ob)=ob:=by simp[hq]
  rw[hv]
  refine Fi (n:=18) Tryz.func265 ?_;intro A hd hA;simp only[ix,Nat.reduceAdd]
  repeat'(first|refine aF ?_|refine au ?_|refine ak (λK hK=>?_)|refine aj ?_|(refine dI (λx K hK=>?_);go_simp;refine hK _ _ (aB.alloc _ _) ?_;clear hK K;refine aZ x ?_;generalize (World.ah _ x).heap.size=bn;intro yn aU bD bC bG aS;clear x)|go_step)
  refine dA (by kernel_rfl) (by kernel_rfl) ?_
  repeat'(first|refine fU Tryz.func266 (λ_=>F7 (HH.out.ah (by simp)) e.num ob HOB.out) ?_|refine dw ?_|refine aF ?_|refine aQ ?_|refine aC ?_|go_step)
  exact aA hd ⟨rfl,by simp⟩
theorem ahe (h:Jw w b o r m0 m1) (e:cZ):RI 267 b o e w (decide (e.num≤r.fO)||decide (e.num<r.high)):=by
 obtain⟨hlt,c0,c1,c2,c3,i0,i1⟩:=h
 by_cases hq:e.num≤r.fO
 ·have hv:(decide (e.num≤r.fO)||decide (e.num<r.high))=true:=by simp[hq]
  rw[hv]
  refine Fi (n:=21) Tryz.func267 ?_;intro A hd hA;simp only[ix,Nat.reduceAdd]
  repeat'(first|refine aF ?_|refine au ?_|refine ak (λK hK=>?_)|refine aj ?_|(refine dI (λx K hK=>?_);go_simp;refine hK _ _ (aB.alloc _ _) ?_;clear hK K;refine aZ x ?_;generalize (World.ah _ x).heap.size=bn;intro yn aU bD bC bG aS;clear x)|go_step)
  refine dA (by kernel_rfl) (by kernel_rfl) ?_
  repeat'(first|refine aF ?_|refine mg ?_|refine jF ?_|refine aQ ?_|refine aC ?_|go_step)
  exact aA hd ⟨rfl,by simp⟩
 ·have hv:(decide (e.num≤r.fO)||decide (e.num<r.high))=decide (e.num<r.high):=by simp[hq]
  rw[hv]
  refine Fi (n:=21) Tryz.func267 ?_;intro A hd hA;simp only[ix,Nat.reduceAdd]
  repeat'(first|refine aF ?_|refine au ?_|refine ak (λK hK=>?_)|refine aj ?_|(refine dI (λx K hK=>?_);go_simp;refine hK _ _ (aB.alloc _ _) ?_;clear hK K;refine aZ x ?_;generalize (World.ah _ x).heap.size=bn;intro yn aU bD bC bG aS;clear x)|go_step)
  refine dA (by kernel_rfl) (by kernel_rfl) ?_
  repeat'(first|refine dw ?_|refine aF ?_|refine aQ ?_|refine aC ?_|go_step)
  exact aA hd ⟨rfl,by simp⟩
theorem ahf (h:Jw w b o r m0 m1) (e:cZ) (ob:Bool) (Xj:ob=true↔∃ n,(r.opens n).isSome=true∧n≠e.num):RI 268 b o e w ob:=by
 have HH:=Zh h
 have HOB:=Zh Xj
 clear h Xj
 refine Fi (n:=9) Tryz.func268 ?_;intro A hd hA;simp only[ix,Nat.reduceAdd]
 repeat'(first|refine aN Tryz.func266 (F7 (HH.out.ah (by simp)) e.num ob HOB.out) ?_|refine aF ?_|refine au ?_|refine ak (λK hK=>?_)|refine aj ?_|refine aC ?_|(refine dI (λx K hK=>?_);go_simp;refine hK _ _ (aB.alloc _ _) ?_;clear hK K;refine aZ x ?_;generalize (World.ah _ x).heap.size=bn;intro yn aU bD bC bG aS;clear x)|go_step)
 exact aA hd ⟨rfl,by simp⟩
theorem ahg (h:Jw w b o r m0 m1) (e:cZ):RI 269 b o e w (decide (e.seq<(r.next e.num).getD 0)):=by
 have HH:=Zh h
 obtain⟨hlt,c0,c1,c2,c3,i0,i1⟩:=h
 clear i0 i1
 refine Fi (n:=15) Tryz.func269 ?_;intro A hd hA;simp only[ix,Nat.reduceAdd]
 repeat'(first|refine aF ?_|refine au ?_|refine ak (λK hK=>?_)|refine aj ?_|(refine dI (λx K hK=>?_);go_simp;refine hK _ _ (aB.alloc _ _) ?_;clear hK K;refine aZ x ?_;generalize (World.ah _ x).heap.size=bn;intro yn aU bD bC bG aS;clear x)|go_step)
 refine dA (by kernel_rfl) (by kernel_rfl) ?_
 repeat'(first|refine aF ?_|fail)
 refine wM (bZ:=ki) (dG:=ki) (z:=0) (HH.out.i0.ah (by simp)) (dU Tryz.underlying2) Tryz.underlying260 e.num ?_
 simp only[Bool.false_eq_true,if_false]
 generalize hnx:(r.next e.num).getD 0=nx
 repeat'(first|refine aF ?_|refine aQ ?_|refine aC ?_|go_step)
 exact aA hd ⟨by rw[hnx],by simp⟩
theorem ahh (h:Jw w b o r m0 m1) (e:cZ):RI 270 b o e w (decide ((r.next e.num).getD 0<e.seq)):=by
 have HH:=Zh h
 obtain⟨hlt,c0,c1,c2,c3,i0,i1⟩:=h
 clear i0 i1
 refine Fi (n:=15) Tryz.func270 ?_;intro A hd hA;simp only[ix,Nat.reduceAdd]
 repeat'(first|refine aF ?_|refine au ?_|refine ak (λK hK=>?_)|refine aj ?_|(refine dI (λx K hK=>?_);go_simp;refine hK _ _ (aB.alloc _ _) ?_;clear hK K;refine aZ x ?_;generalize (World.ah _ x).heap.size=bn;intro yn aU bD bC bG aS;clear x)|go_step)
 refine dA (by kernel_rfl) (by kernel_rfl) ?_
 repeat'(first|refine aF ?_|fail)
 refine wM (bZ:=ki) (dG:=ki) (z:=0) (HH.out.i0.ah (by simp)) (dU Tryz.underlying2) Tryz.underlying260 e.num ?_
 simp only[Bool.false_eq_true,if_false]
 generalize hnx:(r.next e.num).getD 0=nx
 repeat'(first|refine aF ?_|refine aQ ?_|refine aC ?_|go_step)
 exact aA hd ⟨by rw[hnx],by simp⟩
end
def adv (w:World) (v:Value) (fk:FuncId) (E:Int):Prop:=
 ∃a c,v=.func (.func 263) #[] #[.pointer (some ⟨a,0,none⟩),.pointer (some ⟨c,0,none⟩)]∧a<w.heap.size∧c<w.heap.size∧w.cell? ⟨a,0,none⟩=some (.func (.func fk) #[] #[])∧w.cell? ⟨c,0,none⟩=some (.int .i64 E)
theorem adv.ah {w w':World} {v:Value} {fk:FuncId} {E:Int} (h:adv w v fk E) (hE:aB w w'):adv w' v fk E:=by
 obtain⟨a,c,rfl,ha,hc,h1,h2⟩:=h
 exact⟨a,c,rfl,Nat.lt_of_lt_of_le ha hE.size,Nat.lt_of_lt_of_le hc hE.size,by rw[bI hE ha (λh=>h)];exact h1,by rw[bI hE hc (λh=>h)];exact h2⟩
theorem ql {w:World} (E:Int) (fk:FuncId):gK Tryz.prog 262 #[.int .i64 E,.func (.func fk) #[] #[]] w λv w'=>aB w w'∧adv w' v fk E:=by
 refine Fi (n:=6) Tryz.func262 ?_;intro A hd hA;simp only[ix,Nat.reduceAdd]
 repeat'(first|refine aF ?_|refine au ?_|refine ak (λK hK=>?_)|refine aj ?_|refine aC ?_|(refine dI (λx K hK=>?_);go_simp;refine hK _ _ (aB.alloc _ _) ?_;clear hK K;refine aZ x ?_;generalize (World.ah _ x).heap.size=bn;intro yn aU bD bC bG aS;clear x)|go_step)
 rename_i bc yc p1 p2 p3 p4 p5
 exact aA hd ⟨by simp,bn,bc,rfl,bD,by simp[p2],bC 0,by rw[rP _ yn _ _ p2];exact p3 0⟩
theorem Vj {w:World} {a c b o:Nat} {fk:FuncId} {fn:Func} {E:Int} {v:Bool} {e:cZ} (hfk:Tryz.prog.funcs[fk]? =some fn) (Jq:iC fn=true) (ha:a<w.heap.size) (hc:c<w.heap.size) (h1:w.cell? ⟨a,0,none⟩=some (.func (.func fk) #[] #[])) (h2:w.cell? ⟨c,0,none⟩=some (.int .i64 E))
  (hy:∀ w',aB w w'→RI fk b o e w' v):Pure Tryz.prog 263 #[.pointer (some ⟨b,o,none⟩),e.v,.pointer (some ⟨a,0,none⟩),.pointer (some ⟨c,0,none⟩)] w (.int .i64 (if v=true then E else 0)):=by
 have HY:=Zh hy
 clear hy
 cases v
 ·simp only[Bool.false_eq_true,if_false]
  refine Fi (n:=12) Tryz.func263 ?_;intro A hd hA;simp only[ix,Nat.reduceAdd]
  repeat'(first|refine aF ?_|refine au ?_|refine ak (λK hK=>?_)|refine aj ?_|(refine dI (λx K hK=>?_);go_simp;refine hK _ _ (aB.alloc _ _) ?_;clear hK K;refine aZ x ?_;generalize (World.ah _ x).heap.size=bn;intro yn aU bD bC bG aS;clear x)|go_step)
  refine dM (lv:=[.pointer (some ⟨b,o,none⟩),e.v]) (first:= #[]) (captured:= #[]) (R:=λv' w'=>v'=.bool false∧aB _ w') hfk (HY.out _ (by simp)) (λv' w' hR=>?_) rfl rfl Jq
  obtain⟨rfl,hE⟩:=hR
  obtain⟨y',rfl⟩:=hE.get
  clear hE
  repeat'(first|refine aF ?_|refine au ?_|refine ak (λK hK=>?_)|refine aj ?_|refine aC ?_|refine aG ?_|refine bJ ?_|go_step)
  exact aA hd ⟨rfl,by simp⟩
 ·simp only[if_true]
  refine Fi (n:=12) Tryz.func263 ?_;intro A hd hA;simp only[ix,Nat.reduceAdd]
  repeat'(first|refine aF ?_|refine au ?_|refine ak (λK hK=>?_)|refine aj ?_|(refine dI (λx K hK=>?_);go_simp;refine hK _ _ (aB.alloc _ _) ?_;clear hK K;refine aZ x ?_;generalize (World.ah _ x).heap.size=bn;intro yn aU bD bC bG aS;clear x)|go_step)
  refine dM (lv:=[.pointer (some ⟨b,o,none⟩),e.v]) (first:= #[]) (captured:= #[]) (R:=λv' w'=>v'=.bool true∧aB _ w') hfk (HY.out _ (by simp)) (λv' w' hR=>?_) rfl rfl Jq
  obtain⟨rfl,hE⟩:=hR
  obtain⟨y',rfl⟩:=hE.get
  clear hE
  repeat'(first|refine aF ?_|refine au ?_|refine ak (λK hK=>?_)|refine aj ?_|refine aC ?_|refine bH ?_|go_step)
  exact aA hd ⟨rfl,by simp⟩
def pV (data:Bool):List (FuncId×Int):=if data=true then [(267,181),(268,182),(269,183),(270,184)] else [(264,183),(265,181)]
theorem Nk {w:World} (data:Bool):gK Tryz.prog 230 #[.bool data] w λv w'=>aB w w'∧∃ g,v=.slice (some ⟨g,0,none⟩) (pV data).length (pV data).length∧g<w'.heap.size∧
  ∀(k:Nat) p,(pV data)[k]? =some p→∃ u,w'.cell? ⟨g,k,none⟩=some u∧adv w' u p.1 p.2:=by
 cases data
 ·refine Fi (n:=20) Tryz.func230 ?_;intro A hd hA;simp only[ix,Nat.reduceAdd]
  repeat'(first|refine aF ?_|refine au ?_|refine ak (λK hK=>?_)|refine aj ?_|refine bH ?_|go_step)
  refine dM (lv:=[.int .i64 183,.func (.func 264) #[] #[]]) (first:= #[]) (captured:= #[]) Tryz.func262 (ql 183 264) (λv1 w1 hR=>?_)
  obtain⟨kY,hR1⟩:=hR
  obtain⟨y1,rfl⟩:=kY.get
  have UN:=Zh hR1
  obtain⟨a1,c1,rfl,-⟩:=hR1
  clear kY
  repeat'(first|refine aF ?_|fail)
  refine dM (lv:=[.int .i64 181,.func (.func 265) #[] #[]]) (first:= #[]) (captured:= #[]) Tryz.func262 (ql 181 265) (λv2 w2 hR=>?_)
  obtain⟨iU,AU⟩:=hR
  obtain⟨y2,rfl⟩:=iU.get
  have Ku:=Zh AU
  obtain⟨a2,c2,rfl,-⟩:=AU
  clear iU
  repeat'(first|refine aF ?_|refine au ?_|refine aC ?_|(refine dI (λx K hK=>?_);go_simp;refine hK _ _ (aB.alloc _ _) ?_;clear hK K;refine aZ x ?_;generalize (World.ah _ x).heap.size=bn;intro yn aU bD bC bG aS;clear x)|go_step)
  refine aA hd ⟨by simp,bn,rfl,bD,?_⟩
  intro k p hp
  match k,hp with
  | 0,hp=>cases hp;exact⟨_,bC 0,(UN.out.ah y2.2).ah yn.2⟩
  | 1,hp=>cases hp;exact⟨_,bC 1,Ku.out.ah yn.2⟩
 ·refine Fi (n:=20) Tryz.func230 ?_;intro A hd hA;simp only[ix,Nat.reduceAdd]
  repeat'(first|refine aF ?_|refine au ?_|refine ak (λK hK=>?_)|refine aj ?_|refine aG ?_|refine bJ ?_|go_step)
  refine dM (lv:=[.int .i64 181,.func (.func 267) #[] #[]]) (first:= #[]) (captured:= #[]) Tryz.func262 (ql 181 267) (λv1 w1 hR=>?_)
  obtain⟨kY,hR1⟩:=hR
  obtain⟨y1,rfl⟩:=kY.get
  have UN:=Zh hR1
  obtain⟨a1,c1,rfl,-⟩:=hR1
  clear kY
  repeat'(first|refine aF ?_|fail)
  refine dM (lv:=[.int .i64 182,.func (.func 268) #[] #[]]) (first:= #[]) (captured:= #[]) Tryz.func262 (ql 182 268) (λv2 w2 hR=>?_)
  obtain⟨iU,AU⟩:=hR
  obtain⟨y2,rfl⟩:=iU.get
  have Ku:=Zh AU
  obtain⟨a2,c2,rfl,-⟩:=AU
  clear iU
  repeat'(first|refine aF ?_|fail)
  refine dM (lv:=[.int .i64 183,.func (.func 269) #[] #[]]) (first:= #[]) (captured:= #[]) Tryz.func262 (ql 183 269) (λv3 w3 hR=>?_)
  obtain⟨jX,hR3⟩:=hR
  obtain⟨y3,rfl⟩:=jX.get
  have Ir:=Zh hR3
  obtain⟨a3,c3,rfl,-⟩:=hR3
  clear jX
  repeat'(first|refine aF ?_|fail)
  refine dM (lv:=[.int .i64 184,.func (.func 270) #[] #[]]) (first:= #[]) (captured:= #[]) Tryz.func262 (ql 184 270) (λv4 w4 hR=>?_)
  obtain⟨fD,hR4⟩:=hR
  obtain⟨y4,rfl⟩:=fD.get
  have HR4:=Zh hR4
  obtain⟨a4,c4,rfl,-⟩:=hR4
  clear fD
  repeat'(first|refine aF ?_|refine au ?_|refine aC ?_|(refine dI (λx K hK=>?_);go_simp;refine hK _ _ (aB.alloc _ _) ?_;clear hK K;refine aZ x ?_;generalize (World.ah _ x).heap.size=bn;intro yn aU bD bC bG aS;clear x)|go_step)
  refine aA hd ⟨by simp,bn,rfl,bD,?_⟩
  intro k p hp
  match k,hp with
  | 0,hp=>cases hp;exact⟨_,bC 0,(((UN.out.ah y2.2).ah y3.2).ah y4.2).ah yn.2⟩
  | 1,hp=>cases hp;exact⟨_,bC 1,((Ku.out.ah y3.2).ah y4.2).ah yn.2⟩
  | 2,hp=>cases hp;exact⟨_,bC 2,(Ir.out.ah y4.2).ah yn.2⟩
  | 3,hp=>cases hp;exact⟨_,bC 3,HR4.out.ah yn.2⟩
end Go.Ws
namespace Go.Ws
open Go Go.RowKit
set_option maxHeartbeats 4000000
set_option maxRecDepth 100000
set_option linter.unusedVariables false
set_option linter.unusedSimpArgs false
section
variable {P : Program} {b : Frame} {a : Act} {k : List Item} {cs : List Frame} {w : World} {Q : jo} {ρ : Option Nat}
theorem jQ {c:Code}:step P (lone (b.atR a (.code (.scope c)::k)) cs w)=.next (lone (b.atR a (.code c:: .inScope c::k)) cs w):=
 step_lone_go (by simp[stepG,stepG.exec,Frame.atR])
theorem yD {c:Code}:step P (lone (b.atR a (.inScope c::k)) cs w)=.next (lone (b.atR a k) cs w):=
 step_lone_go (by simp[stepG,stepG.exec,Frame.atR])
theorem zO {c:Code} (h:Wp ρ P c (Exit.noGoto Q) a w):Wp ρ P (.scope c) Q a w:=by
 refine Wp.intro λx=>?_
 intro b k cs MX hb hr
 have h0:(lone (b.atR a (.code (.scope c)::k)) cs (w.ah x)).fenced P (RF ρ):=fenced_calm hb hr rfl
 obtain⟨e,a₁,w₁,hq,xC⟩:=h.get x b (.inScope c::k) cs MX hb hr
 obtain⟨w0,hE,hq⟩:=hq
 cases e with
 | normal=>exact⟨.normal,a₁,w₁,⟨w0,hE,hq⟩,.head h0 jQ (StepsIn.trans xC (.one (fenced_calm hb hr rfl) yD))⟩
 | exit id=>exact⟨.exit id,a₁,w₁,⟨w0,hE,hq⟩,.of_steps (.one h0 jQ) ⟨λk' hk=>xC.1 k' (by simp[exitTo,hk]),λhr hk=>xC.2 hr (by simp[exitTo,hk])⟩⟩
 | goto l=>exact hq.elim
 | ret=>exact⟨_,a₁,w₁,⟨w0,hE,hq⟩,.of_steps (.one h0 jQ) xC⟩
 | panic ch=>exact⟨_,a₁,w₁,⟨w0,hE,hq⟩,.of_steps (.one h0 jQ) xC⟩
 | outgrown=>exact⟨_,a₁,w₁,⟨w0,hE,hq⟩,.of_steps (.one h0 jQ) xC⟩
theorem yS {c rest:Code} (l:Nat) (hf:findLabel c l=some rest) (h:Wp ρ P c (Exit.jump l (Wp ρ P rest (Exit.noGoto Q)) Q) a w):Wp ρ P (.scope c) Q a w:=by
 refine Wp.intro λx=>?_
 intro b k cs MX hb hr
 have h0:(lone (b.atR a (.code (.scope c)::k)) cs (w.ah x)).fenced P (RF ρ):=fenced_calm hb hr rfl
 have hg:gotoIn l (.inScope c::k)=some (.code rest:: .inScope c::k):=by simp[gotoIn,hf]
 obtain⟨e,a₁,w₁,hq,xC⟩:=h.get x b (.inScope c::k) cs MX hb hr
 obtain⟨w0,hE,hq⟩:=hq
 cases e with
 | normal=>exact⟨.normal,a₁,w₁,⟨w0,hE,hq⟩,.head h0 jQ (StepsIn.trans xC (.one (fenced_calm hb hr rfl) yD))⟩
 | exit id=>exact⟨.exit id,a₁,w₁,⟨w0,hE,hq⟩,.of_steps (.one h0 jQ) ⟨λk' hk=>xC.1 k' (by simp[exitTo,hk]),λhr hk=>xC.2 hr (by simp[exitTo,hk])⟩⟩
 | goto l'=>
  obtain⟨rfl,hJ⟩:=hq
  obtain⟨e₂,a₂,w₂,hq₂,harr₂⟩:=hJ.get ⟨w₁,hE⟩ b (.inScope c::k) cs MX hb hr
  obtain⟨w0',Ko,hq₂⟩:=hq₂
  have JH:=StepsIn.trans (.one h0 jQ) (xC.1 _ hg)
  cases e₂ with
  | normal=>exact⟨.normal,a₂,w₂,⟨w0',Ko,hq₂⟩,StepsIn.trans JH (StepsIn.trans harr₂ (.one (fenced_calm hb hr rfl) yD))⟩
  | exit id=>exact⟨.exit id,a₂,w₂,⟨w0',Ko,hq₂⟩,.of_steps JH ⟨λk' hk=>harr₂.1 k' (by simp[exitTo,hk]),λhr hk=>harr₂.2 hr (by simp[exitTo,hk])⟩⟩
  | goto l=>exact hq₂.elim
  | ret=>exact⟨_,a₂,w₂,⟨w0',Ko,hq₂⟩,.of_steps JH harr₂⟩
  | panic ch=>exact⟨_,a₂,w₂,⟨w0',Ko,hq₂⟩,.of_steps JH harr₂⟩
  | outgrown=>exact⟨_,a₂,w₂,⟨w0',Ko,hq₂⟩,.of_steps JH harr₂⟩
 | ret=>exact⟨_,a₁,w₁,⟨w0,hE,hq⟩,.of_steps (.one h0 jQ) xC⟩
 | panic ch=>exact⟨_,a₁,w₁,⟨w0,hE,hq⟩,.of_steps (.one h0 jQ) xC⟩
 | outgrown=>exact⟨_,a₁,w₁,⟨w0,hE,hq⟩,.of_steps (.one h0 jQ) xC⟩
end
end Go.Ws
namespace Go.Ws
open Go Go.RowKit Go.Proofs
set_option maxHeartbeats 4000000
set_option maxRecDepth 100000
set_option linter.unusedVariables false
set_option linter.unusedSimpArgs false
def iI:Int→List cZ→Bool
 | _,[]=>true
 | p,e::es=>decide (p≤e.ep)&&decide (e.ep≤2147483647)&&iI e.ep es
theorem lQ (p:Int) (e:cZ) (es:List cZ):iI p (e::es)=(decide (p≤e.ep)&&decide (e.ep≤2147483647)&&iI e.ep es):=rfl
def vZ (l:List cZ):Bool:=iI 1 l&&decide ((l.length:Int)≤4096)
def gZ (l:List cZ):Int:=(l.getLast?.map (·.ep)).getD 0
def vP (l:List cZ) (n ep:Int):Bool:=decide (n≤l.length)&&(gZ (l.take n.toNat)==ep)
def dO (l:List cZ) (ep:Int):Nat:=(l.takeWhile λe=>decide (e.ep≤ep)).length
theorem Kw {α:Type} {l:List α} {k:Nat} {x:α} (h:l[k]? =some x):l.drop k=x::l.drop (k+1):=by
 obtain⟨hk,rfl⟩:=Ge h
 exact List.drop_eq_getElem_cons hk
theorem wQ (l:List cZ) (v:Value) (w:World) (hl:yQ w v l):Pure Tryz.prog 254 #[v] w (.bool (vZ l)):=by
 obtain⟨A0,c,rfl,hc,jT,HR⟩:=hl.ent
 clear hl
 refine Fi (n:=27) Tryz.func254 ?_;intro A hd hA;simp only[ix,Nat.reduceAdd]
 repeat'(first|refine aF ?_|refine au ?_|refine ak (λK hK=>?_)|refine aj ?_|refine aJ ?_|go_step)
 refine dJ [0,3,6,7,8] (λn vs w'=>∃ (k:Nat) (p:Int),aB w w'∧k+n=l.length∧vs=[.slice A0 l.length c,.int .i64 p,.slice A0 l.length c,.int .i64 l.length,.int .i64 k]∧iI p (l.drop k)=iI 1 l) l.length hd hA (by decide) ⟨0,1,by simp,by omega,by simp,by simp⟩ ?_
 clear hd hA A;intro n vs B w' hd hA _ ⟨k,p,hw,hk,jk,hm⟩;subst jk
 obtain⟨y,rfl⟩:=hw.get
 clear hw
 simp only[List.zip_cons_cons,List.zip_nil_right,List.zip_nil_left]
 by_cases hlt:k<l.length
 ·obtain⟨e,b,o,HE,rfl,hb,c0,c1,c2,c3,c4,c5⟩:=HR.out k hlt
  have sZ:(k:Int)<l.length:=by omega
  rw[Kw HE.out,lQ]at hm
  by_cases h1:p≤e.ep
  ·have h1b:decide (e.ep<p)=false:=by simpa using h1
   by_cases h2:e.ep≤2147483647
   ·have h2b:decide (2147483647<e.ep)=false:=by simpa using h2
    have uD:iI e.ep (l.drop (k+1))=iI 1 l:=by simpa [h1,h2] using hm
    have HM:=Zh uD
    clear hm uD
    repeat'(first|refine dw ?_|refine aF ?_|refine au ?_|(refine jr (λyn bn aU bD bC bG aS=>?_))|refine ak (λK hK=>?_)|refine aj ?_|refine aG ?_|refine aJ ?_|refine bH ?_|refine bJ ?_|go_step)
    exact⟨_,_,rfl,hd,hA,n-1,by omega,k+1,e.ep,by simp,by omega,by simp,HM.out⟩
   ·have h2b:decide (2147483647<e.ep)=true:=by simpa using h2
    have uD:vZ l=false:=by unfold vZ;rw[←hm];simp[h2]
    have HM:=Zh uD
    clear hm uD
    repeat'(first|refine dw ?_|refine aF ?_|refine au ?_|(refine jr (λyn bn aU bD bC bG aS=>?_))|refine ak (λK hK=>?_)|refine aj ?_|refine aC ?_|refine aG ?_|refine aJ ?_|refine bH ?_|go_step)
    exact aA hd ⟨by rw[HM.out],by simp⟩
  ·have h1b:decide (e.ep<p)=true:=by simpa using h1
   have uD:vZ l=false:=by unfold vZ;rw[←hm];simp[h1]
   have HM:=Zh uD
   clear hm uD
   repeat'(first|refine aF ?_|refine mg ?_|refine jF ?_|refine au ?_|(refine jr (λyn bn aU bD bC bG aS=>?_))|refine ak (λK hK=>?_)|refine aj ?_|refine aC ?_|refine aG ?_|refine aJ ?_|refine bH ?_|go_step)
   exact aA hd ⟨by rw[HM.out],by simp⟩
 ·obtain rfl:k=l.length:=by omega
  rw[List.drop_length]at hm
  have uD:vZ l=decide ((l.length:Int)≤4096):=by unfold vZ;rw[←hm];simp[iI]
  have HM:=Zh uD
  clear hm uD
  repeat'(first|refine aF ?_|refine au ?_|refine ak (λK hK=>?_)|refine aj ?_|refine aC ?_|refine dS ?_|refine bJ ?_|go_step)
  exact aA hd ⟨by rw[HM.out],by simp⟩
theorem Cj (l:List cZ) (v:Value) (w:World) (hl:yQ w v l):Pure Tryz.prog 255 #[v] w (.int .i64 (gZ l)):=by
 obtain⟨A0,c,rfl,hc,jT,HR⟩:=hl.ent
 clear hl
 by_cases h0:l.length=0
 ·have h0b:((l.length:Int)==0)=true:=by rw[h0];rfl
  have hl:gZ l=0:=by rw[List.length_eq_zero_iff]at h0;subst h0;rfl
  rw[hl]
  refine Fi (n:=13) Tryz.func255 ?_;intro A hd hA;simp only[ix,Nat.reduceAdd]
  repeat'(first|refine aF ?_|refine au ?_|refine ak (λK hK=>?_)|refine aj ?_|refine aC ?_|refine bH ?_|go_step)
  exact aA hd ⟨rfl,by simp⟩
 ·have h0b:((l.length:Int)==0)=false:=beq_false_of_ne (by omega)
  obtain⟨e,b,o,HE,rfl,hb,c0,-⟩:=HR.out (l.length-1) (by omega)
  have JF:(l.length:Int)-1=((l.length-1:Nat):Int):=by omega
  have anZ:((l.length-1:Nat):Int)<l.length:=by omega
  have hl:gZ l=e.ep:=by unfold gZ;rw[List.getLast?_eq_getElem?,HE.out];rfl
  rw[hl]
  clear hl
  refine Fi (n:=13) Tryz.func255 ?_;intro A hd hA;simp only[ix,Nat.reduceAdd]
  repeat'(first|refine aF ?_|refine au ?_|refine ak (λK hK=>?_)|refine aj ?_|refine aC ?_|refine aG ?_|refine bJ ?_|go_step)
  exact aA hd ⟨rfl,by simp⟩
theorem F8 (l:List cZ) (v:Value) (w:World) (hl:yQ w v l):Pure Tryz.prog 213 #[v] w (.tuple #[.int .i64 (if vZ l then gZ l else 0),.int .i64 (if vZ l then 0 else 2)]):=by
 have zu:=Zh hl
 obtain⟨A0,c,rfl,-⟩:=hl.ent
 clear hl
 by_cases hm:vZ l=true
 ·rw[if_pos hm,if_pos hm]
  refine Fi (n:=9) Tryz.func213 ?_;intro A hd hA;simp only[ix,Nat.reduceAdd]
  repeat'(first|refine aN Tryz.func254 (hm▸wQ l _ _ (zu.out.ah (by simp))) ?_|refine aN Tryz.func255 (Cj l _ _ (zu.out.ah (by simp))) ?_|refine aF ?_|refine au ?_|refine ak (λK hK=>?_)|refine aj ?_|refine aC ?_|refine aG ?_|refine bJ ?_|go_step)
  exact dB hd ⟨rfl,by simp⟩
 ·have uD:vZ l=false:=by simpa using hm
  rw[if_neg hm,if_neg hm]
  refine Fi (n:=9) Tryz.func213 ?_;intro A hd hA;simp only[ix,Nat.reduceAdd]
  repeat'(first|refine aN Tryz.func254 (uD▸wQ l _ _ (zu.out.ah (by simp))) ?_|refine aF ?_|refine au ?_|refine ak (λK hK=>?_)|refine aj ?_|refine aC ?_|refine bH ?_|go_step)
  exact dB hd ⟨rfl,by simp⟩
theorem Vk (l:List cZ) (v:Value) (n ep:Int) (w:World) (hl:yQ w v l) (hn:0≤n):Pure Tryz.prog 258 #[v,.int .i64 n,.int .i64 ep] w (.bool (vP l n ep)):=by
 have zu:=Zh hl
 obtain⟨A0,c,rfl,hc,jT,-⟩:=hl.ent
 clear hl
 by_cases h1:n≤l.length
 ·obtain⟨m,rfl⟩:∃ m:Nat,n=m:=⟨n.toNat,by omega⟩
  have hml:m≤l.length:=by omega
  have hmc:m≤c:=by omega
  have hf:vP l m ep=(gZ (l.take m)==ep):=by unfold vP;simp[hml]
  rw[hf]
  clear hf
  refine Fi (n:=19) Tryz.func258 ?_;intro A hd hA;simp only[ix,Nat.reduceAdd]
  repeat'(first|refine fU Tryz.func255 (λ_=>Cj (l.take m) _ _ ((zu.out.take m hml).ah (by simp))) ?_|refine dw ?_|refine aF ?_|refine au ?_|refine ak (λK hK=>?_)|refine aj ?_|refine aC ?_|go_step)
  exact aA hd ⟨rfl,by simp⟩
 ·have hf:vP l n ep=false:=by unfold vP;simp[h1]
  have h1b:decide (n≤(l.length:Int))=false:=by simpa using h1
  rw[hf]
  clear hf
  refine Fi (n:=19) Tryz.func258 ?_;intro A hd hA;simp only[ix,Nat.reduceAdd]
  repeat'(first|(refine pq ?_)|refine aF ?_|refine mg ?_|refine jF ?_|refine au ?_|refine ak (λK hK=>?_)|refine aj ?_|refine aC ?_|go_step)
  exact aA hd ⟨rfl,by simp⟩
theorem PV {w:World} (e:cZ) (b:Nat) (ep:Int) (hb:b<w.heap.size) (hc:w.cell? ⟨b,0,none⟩=some (.int .i64 ep)):Pure Tryz.prog 280 #[e.v,.pointer (some ⟨b,0,none⟩)] w (.bool (decide (ep<e.ep))):=by
 refine Fi (n:=8) Tryz.func280 ?_;intro A hd hA;simp only[ix,Nat.reduceAdd]
 repeat'(first|refine aF ?_|refine au ?_|refine ak (λK hK=>?_)|refine aj ?_|refine aC ?_|(refine dI (λx K hK=>?_);go_simp;refine hK _ _ (aB.alloc _ _) ?_;clear hK K;refine aZ x ?_;generalize (World.ah _ x).heap.size=bn;intro yn aU bD bC bG aS;clear x)|go_step)
 exact aA hd ⟨rfl,by simp⟩
theorem IL (ep:Int) (e:cZ) (l:List cZ):dO (e::l) ep=if ep<e.ep then 0 else dO l ep+1:=by
 unfold dO
 rw[List.takeWhile_cons]
 by_cases h:e.ep≤ep
 ·rw[if_pos (by simpa using h),if_neg (by omega)];simp
 ·rw[if_neg (by simpa using h),if_pos (by omega)];simp
theorem PW (l:List cZ) (v:Value) (w:World) (b:Nat) (ep:Int) (hl:yQ w v l) (hb:b<w.heap.size) (hc:w.cell? ⟨b,0,none⟩=some (.int .i64 ep)):
  Pure Tryz.prog 279 #[v,.func (.func 280) #[] #[.pointer (some ⟨b,0,none⟩)]] w (.int .i64 (dO l ep)):=by
 obtain⟨A0,c,rfl,Dq,jT,HR⟩:=hl.ent
 clear hl
 have QS:=Zh hc
 clear hc
 refine Fi (n:=21) Tryz.func279 ?_;intro A hd hA;simp only[ix,Nat.reduceAdd]
 repeat'(first|refine aF ?_|refine au ?_|refine ak (λK hK=>?_)|refine aj ?_|refine aJ ?_|go_step)
 refine dJ [0,1,7,8,9] (λn vs w'=>∃ (k:Nat),aB w w'∧k+n=l.length∧vs=[.slice A0 l.length c,.func (.func 280) #[] #[.pointer (some ⟨b,0,none⟩)],.slice A0 l.length c,.int .i64 l.length,.int .i64 k]∧k+dO (l.drop k) ep=dO l ep) l.length hd hA (by decide) ⟨0,by simp,by omega,by simp,by simp⟩ ?_
 clear hd hA A;intro n vs B w' hd hA _ ⟨k,hw,hk,jk,hm⟩;subst jk
 obtain⟨y,rfl⟩:=hw.get
 clear hw
 simp only[List.zip_cons_cons,List.zip_nil_right,List.zip_nil_left]
 by_cases hlt:k<l.length
 ·obtain⟨e,b1,o,HE,rfl,hb1,c0,c1,c2,c3,c4,c5⟩:=HR.out k hlt
  have sZ:(k:Int)<l.length:=by omega
  rw[Kw HE.out,IL]at hm
  have HM:=Zh hm
  clear hm
  repeat'(first|refine aF ?_|refine au ?_|refine ak (λK hK=>?_)|refine aj ?_|refine aG ?_|refine aJ ?_|(refine dI (λx K hK=>?_);go_simp;refine hK _ _ (aB.alloc _ _) ?_;clear hK K;refine aZ x ?_;generalize (World.ah _ x).heap.size=bn;intro yn aU bD bC bG aS;clear x)|refine bH ?_|go_step)
  refine aY (off:=0) (cO.new aS.out) (λW1 fM nU=>?_)
  have kY:aB (w.ah y) W1:=aB.bK yn.2 fM (λk hk=>by subst hk;omega)
  have d0:=nU.cell (k:=0) (by decide)
  have d1:=nU.cell (k:=1) (by decide)
  have d2:=nU.cell (k:=2) (by decide)
  have d3:=nU.cell (k:=3) (by decide)
  have d4:=nU.cell (k:=4) (by decide)
  have d5:=nU.cell (k:=5) (by decide)
  have atD:=nU.lt
  clear fM nU aS bG bC bD
  obtain⟨z1,rfl⟩:=kY.get
  clear kY
  simp only[put,Value.cells]at d0 d1 d2 d3 d4 d5
  simp at d0 d1 d2 d3 d4 d5
  repeat'(first|refine aF ?_|refine au ?_|refine ak (λK hK=>?_)|refine aj ?_|go_step)
  refine dM (lv:=[e.v]) (first:= #[]) (captured:= #[.pointer (some ⟨b,0,none⟩)]) (R:=λv' w'=>v'=.bool (decide (ep<e.ep))∧aB _ w') Tryz.func280 (PV e b ep (Nat.lt_of_lt_of_le hb (Et y.2 z1.2).size) ((bI (Et y.2 z1.2) hb (λh=>h)).trans QS.out)) (λv' w' hR=>?_)
  obtain⟨rfl,hE⟩:=hR
  obtain⟨y',rfl⟩:=hE.get
  clear hE
  by_cases h1:ep<e.ep
  ·have h1b:decide (ep<e.ep)=true:=by simpa using h1
   have HM':Hid (dO l ep=k):=Zh (by rw[←HM.out,if_pos h1];omega)
   clear HM
   repeat'(first|refine aF ?_|refine au ?_|refine ak (λK hK=>?_)|refine aj ?_|refine aC ?_|refine bH ?_|go_step)
   exact aA hd ⟨by rw[HM'.out],by simp⟩
  ·have h1b:decide (ep<e.ep)=false:=by simpa using h1
   have HM':Hid (k+1+dO (l.drop (k+1)) ep=dO l ep):=Zh (by rw[←HM.out,if_neg h1];omega)
   clear HM
   repeat'(first|refine aF ?_|refine au ?_|refine aj ?_|refine aG ?_|refine bJ ?_|go_step)
   exact⟨_,_,rfl,hd,hA,n-1,by omega,k+1,by simp,by omega,by simp,HM'.out⟩
 ·obtain rfl:k=l.length:=by omega
  rw[List.drop_length]at hm
  have HM':Hid (dO l ep=l.length):=Zh (by rw[←hm];simp[dO])
  clear hm
  repeat'(first|refine aF ?_|refine au ?_|refine ak (λK hK=>?_)|refine aj ?_|refine aC ?_|refine dS ?_|refine bJ ?_|go_step)
  exact aA hd ⟨by rw[HM'.out],by simp⟩
theorem IQ (l:List cZ) (v:Value) (ep:Int) (w:World) (hl:yQ w v l):Pure Tryz.prog 259 #[v,.int .i64 ep] w (.int .i64 (dO l ep)):=by
 have zu:=Zh hl
 obtain⟨A0,c,rfl,-⟩:=hl.ent
 clear hl
 refine Fi (n:=8) Tryz.func259 ?_;intro A hd hA;simp only[ix,Nat.reduceAdd]
 repeat'(first|refine aF ?_|refine au ?_|refine ak (λK hK=>?_)|refine aj ?_|(refine dI (λx K hK=>?_);go_simp;refine hK _ _ (aB.alloc _ _) ?_;clear hK K;refine aZ x ?_;generalize (World.ah _ x).heap.size=bn;intro yn aU bD bC bG aS;clear x)|go_step)
 have NT:=bD
 have hbc:=bC 0
 simp at hbc
 repeat'(first|refine aN Tryz.func279 (PW l _ _ _ ep (zu.out.ah (by simp)) NT hbc) ?_|refine aF ?_|refine au ?_|refine aC ?_|go_step)
 exact aA hd ⟨rfl,by simp⟩
theorem YN (l:List cZ) (v:Value) (ep:Int) (w:World) (hl:yQ w v l) (h0:0≤ep) (hm:vZ l=true):Pure Tryz.prog 220 #[v,.int .i64 ep] w (.tuple #[.int .i64 (gZ (l.take (dO l ep))),.int .i64 (dO l ep),.int .i64 0]):=by
 have zu:=Zh hl
 have hle:dO l ep≤l.length:=by unfold dO;exact(List.takeWhile_sublist _).length_le
 obtain⟨A0,c,rfl,hc,jT,-⟩:=hl.ent
 clear hl
 have atE:dO l ep≤c:=by omega
 have h0b:decide (ep<0)=false:=by simpa using h0
 refine Fi (n:=23) Tryz.func220 ?_;intro A hd hA;simp only[ix,Nat.reduceAdd]
 repeat'(first|refine fU Tryz.func254 (λ_=>hm▸wQ l _ _ (zu.out.ah (by simp))) ?_|refine aN Tryz.func259 (IQ l _ ep _ (zu.out.ah (by simp))) ?_|refine aN Tryz.func255 (Cj (l.take (dO l ep)) _ _ ((zu.out.take (dO l ep) hle).ah (by simp))) ?_|refine dw ?_|refine aF ?_|refine au ?_|refine ak (λK hK=>?_)|refine aj ?_|refine aC ?_|refine aG ?_|refine bJ ?_|go_step)
 exact Yy hd ⟨rfl,by simp⟩
theorem YO (l:List cZ) (v:Value) (ep n:Int) (w:World) (hl:yQ w v l) (h0:0≤ep) (hn:0≤n) (hm:vZ l=true):Pure Tryz.prog 222 #[v,.int .i64 ep,.int .i64 n] w (.tuple #[.int .i64 (min n (dO l ep:Int)),.int .i64 0]):=by
 have zu:=Zh hl
 obtain⟨A0,c,rfl,hc,jT,-⟩:=hl.ent
 clear hl
 have h0b:decide (ep<0)=false:=by simpa using h0
 have Iu:decide (n<0)=false:=by simpa using hn
 have aiO:min n (dO l ep:Int)=if(dO l ep:Int)<n then(dO l ep:Int) else n:=by split<;>omega
 rw[aiO]
 clear aiO
 refine Fi (n:=24) Tryz.func222 ?_;intro A hd hA;simp only[ix,Nat.reduceAdd]
 repeat'(first|refine fU Tryz.func254 (λ_=>hm▸wQ l _ _ (zu.out.ah (by simp))) ?_|refine aN Tryz.func259 (IQ l _ ep _ (zu.out.ah (by simp))) ?_|refine dw ?_|refine aF ?_|refine au ?_|refine ak (λK hK=>?_)|refine aj ?_|refine aC ?_|refine aG ?_|refine bJ ?_|go_step)
 exact dB hd ⟨rfl,by simp⟩
theorem RJ (l:List cZ) (v:Value) (n ep:Int) (w:World) (hl:yQ w v l) (hn:0≤n) (h0:0≤ep) (hm:vZ l=true):Pure Tryz.prog 219 #[v,.int .i64 n,.int .i64 ep] w (.tuple #[.bool (vP l n ep),.int .i64 0]):=by
 have zu:=Zh hl
 obtain⟨A0,c,rfl,hc,jT,-⟩:=hl.ent
 clear hl
 have h0b:decide (ep<0)=false:=by simpa using h0
 have Iu:decide (n<0)=false:=by simpa using hn
 refine Fi (n:=23) Tryz.func219 ?_;intro A hd hA;simp only[ix,Nat.reduceAdd]
 repeat'(first|refine aF ?_|refine au ?_|refine ak (λK hK=>?_)|refine aj ?_|go_step)
 refine zO ?_
 repeat'(first|refine fU Tryz.func254 (λ_=>hm▸wQ l _ _ (zu.out.ah (by simp))) ?_|refine aN Tryz.func258 (Vk l _ n ep _ (zu.out.ah (by simp)) hn) ?_|refine dw ?_|refine aF ?_|refine au ?_|refine ak (λK hK=>?_)|refine aj ?_|refine aC ?_|refine aG ?_|refine bJ ?_|go_step)
 exact dB hd ⟨rfl,by simp⟩
theorem eG.IU {w:World} {b:Nat} {uL uI uC:Value} {s:aI} (h:eG w b uL uI uC s):yQ w uL s.log:=h.yK.rd (enc:=cZ.cs) (k:=6) (λ_=>rfl)
theorem Cm {w:World} {b:Nat} {F:Nat→Prop} {s:aI} (h:oD w b F s) (hm:vZ s.log=true):Pure Tryz.prog 162 #[.pointer (some ⟨b,0,none⟩)] w (.int .i64 (gZ s.log)):=by
 obtain⟨uL,uI,uC,h,hf⟩:=h.ex
 have H:=Zh h
 obtain⟨hlt,-,-,-,-,-,-,-,-,d12,-,-⟩:=h.cells
 obtain⟨A1,m1,c1,rfl⟩:=aT h.yK
 have hc:=F8 s.log _ w h.IU
 rw[hm]at hc
 have HC:=Zh hc
 have HL:=Zh h.IU
 clear h hf hc
 have hc:∀ z:bM w,Pure Tryz.prog 213 #[.slice A1 m1 c1] (w.ah z) (.tuple #[.int .i64 (gZ s.log),.int .i64 0]):=λz=>by
  have:=F8 s.log _ (w.ah z) (HL.out.ah z.2)
  rw[hm]at this
  exact this
 have HCC:=Zh hc
 clear hc
 refine Fi (n:=14) Tryz.func162 ?_;intro A hd hA;simp only[ix,Nat.reduceAdd]
 repeat'(first|refine aN Tryz.func213 (HC.out) ?_|refine aF ?_|refine au ?_|refine ak (λK hK=>?_)|refine aj ?_|refine aC ?_|go_step)
 exact aA hd ⟨rfl,by simp⟩
theorem jK {w:World} {b:Nat} {F:Nat→Prop} {s:aI} (h:oD w b F s) (hs:s.least≠0):Pure Tryz.prog 69 #[.pointer (some ⟨b,0,none⟩)] w (.bool false):=by
 obtain⟨uL,uI,uC,h,hf⟩:=h.ex
 obtain⟨hlt,-,-,-,-,-,d9,-⟩:=h.cells
 have:(s.least==0)=false:=beq_false_of_ne hs
 exact this▸PL hlt d9
theorem oD.Yk {w:World} {b:Nat} {F:Nat→Prop} {s s':aI} {f:FuncId} {args:Array Value} {R:Value→World→Prop} (h:oD w b F s)
  (H:∀ F',oD w b F' s→(∀k,F' k→k<w.heap.size)→gK Tryz.prog f args w λr w'=>R r w'∧bF F' w w'∧oD w' b (λk=>F' k∨w.heap.size≤k) s'):
  gK Tryz.prog f args w λr w'=>R r w'∧bF F w w'∧oD w' b (λk=>F k∨w.heap.size≤k) s':=
 gK.mono (H _ h.Fp (λ_ h=>h.2)) λv w' hR=>⟨hR.1,hR.2.1.mono (λ_ _ h=>h.1),hR.2.2.mono (λk hk=>hk.imp (λh=>h.1) id)⟩
theorem oD.abE {w:World} {b:Nat} {F:Nat→Prop} {s s':aI} {f:FuncId} {args:Array Value} {R:Value→World→Prop} (h:oD w b F s)
  (H:∀ F',oD w b F' s→(∀k,F' k→F k)→(∀k,F' k→k<w.heap.size)→gK Tryz.prog f args w λr w'=>R r w'∧bF F' w w'∧oD w' b (λk=>F' k∨w.heap.size≤k) s'):
  gK Tryz.prog f args w λr w'=>R r w'∧bF F w w'∧oD w' b (λk=>F k∨w.heap.size≤k) s':=
 gK.mono (H _ h.Fp (λ_ h=>h.1) (λ_ h=>h.2)) λv w' hR=>⟨hR.1,hR.2.1.mono (λ_ _ h=>h.1),hR.2.2.mono (λk hk=>hk.imp (λh=>h.1) id)⟩
def aI.flush (s:aI):aI:=({s with flushed:=s.log.length}:aI).iT
theorem RN {w:World} {b:Nat} {F:Nat→Prop} {s:aI} (h:oD w b F s) (hs:s.least≠0) (hc:Bks s.counts):gK Tryz.prog 113 #[.pointer (some ⟨b,0,none⟩)] w λv w'=>v=.int .i64 0∧bF F w w'∧oD w' b F s.flush:=by
 have FC:=Zh h.yK
 have HP:=Zh h
 obtain⟨uL,uI,uC,h,hf⟩:=h.ex
 have H:=Zh h
 have BA:=Zh hf
 obtain⟨hlt,-,-,-,-,-,-,-,-,d12,-,-⟩:=h.cells
 obtain⟨A1,c1,rfl,-⟩:=h.IU.ent
 clear h hf
 have HBK:=Zh hc
 clear hc
 refine Fi (n:=15) Tryz.func113 ?_;intro A hd hA;simp only[ix,Nat.reduceAdd]
 repeat'(first|refine aN Tryz.func69 (jK (HP.out.ah (by simp)) hs) ?_|refine aF ?_|refine au ?_|refine ak (λK hK=>?_)|refine aj ?_|refine aG ?_|refine bJ ?_|go_step)
 refine aY (off:=13) H.out.gy (λW1 fM nU=>?_)
 have Kv:=Zh (H.out.Vh fM nU)
 have UN:Hid (oD W1 b F {s with flushed:=s.log.length}):=Zh ⟨_,_,_,Kv.out,BA.out⟩
 repeat'(first|refine aF ?_|refine au ?_|refine ak (λK hK=>?_)|refine aj ?_|go_step)
 refine aX Tryz.func163 (xY UN.out HBK.out) (λr2 w2 AU=>?_)
 have Ku:=Zh AU
 clear AU
 repeat'(first|refine aF ?_|refine au ?_|refine ak (λK hK=>?_)|refine aj ?_|refine aC ?_|go_step)
 refine aA hd ⟨rfl,?_,Ku.out.2⟩
 exact bF.trans fM Ku.out.1 (λk _ hk=>by subst hk;exact FC.out) (λ_ _ h=>h)
section
variable {P : Program} {fn : Func} {t be : Nat} {v vx : Value}
theorem XL {W:World} {tmps:Array Value} {te:Nat} {tye:TypeId} (hr:fn.results= #[.tmp t,.cell te tye]) (ht:tmps.getD t undef=v)
  (hte:tmps.getD te undef=.pointer (some ⟨be,0,none⟩)) (hle:(loadVar tye ⟨be,0,none⟩).run P W=.ok vx W):(results fn tmps).run P W=.ok (.tuple #[v,vx]) W:=by
 have h2:tmps[t]?.getD undef=v:=by simpa using ht
 have h3:tmps[te]?.getD undef=.pointer (some ⟨be,0,none⟩):=by simpa using hte
 simp[results,hr,h2,h3,asAddr,hle]
end
section
variable {fn : Func} {R : Hq} {e : Exit} {t te bx be n : Nat} {ty : TypeId} {td : TypeDesc} {w : World} {l : List (Nat × Value)} {A : Act} {E E' : TypeId} {v : Value} {x why : Int} {cs : List Value} {g : Nat → Value}
def Vl:TypeDesc→Bool
 | .struct _=>true
 | .array _ _=>true
 | _=>false
theorem Oq {W:World} {bx:Nat} (hb:cO W bx E' cs.length g) (hg:∀ k,k<cs.length→cs[k]? =some (g k))
  (hu:Tryz.prog.underlying ty=some td) (Xd:Vl td=true) (hi:(Tryz.prog.info? ty).map (·.size)=some cs.length):(loadVar ty ⟨bx,0,none⟩).run Tryz.prog W=.ok (.agg cs.toArray) W:=by
 cases td<;>first|(exact abr hb hg hu rfl hi)|cases Xd
theorem uS (hd:A.defers=[gI be]) (hB:cO w be E 1 (λ_=>.int .i64 x)) (hX:cO w bx E' cs.length g) (hg:∀ k,k<cs.length→cs[k]? =some (g k)) (jm:bx≠be) (hR:∀ W1,bF (· =be) w W1→R (.returned (.tuple #[.agg cs.toArray,.int .i64 why])) W1)
  (hu:Tryz.prog.underlying ty=some td) (hr:fn.results= #[.cell t ty,.cell te 28]:=by rfl) (Xd:Vl td=true:=by rfl) (hi:(Tryz.prog.info? ty).map (·.size)=some cs.length:=by kernel_rfl)
  (hv:Is ((fr l A).tmps.getD te undef) (.pointer (some ⟨be,0,none⟩)):=by go_simp;exact Is.mk _) (hvx:Is ((fr l A).tmps.getD t undef) (.pointer (some ⟨bx,0,none⟩)):=by go_simp;exact Is.mk _):Eb Tryz.prog fn R (.panic (FU why)) (fr l A) w:=
 aes hd hB (λW hW=>Oq (hX.qC (hW bx jm hX.lt)) hg hu Xd hi) hR hr hv hvx
theorem F9 (hd:A.defers=[gI be]) (hB:cO w be E 1 (λ_=>.int .i64 x)) (hX:cO w bx E' cs.length g) (hg:∀ k,k<cs.length→cs[k]? =some (g k)) (hR:R (.returned (.tuple #[.agg cs.toArray,.int .i64 x])) w)
  (hu:Tryz.prog.underlying ty=some td) (hr:fn.results= #[.cell t ty,.cell te 28]:=by rfl) (he:e=.ret∨e=.normal:=by first|exact .inl rfl|exact .inr rfl) (Xd:Vl td=true:=by rfl) (hi:(Tryz.prog.info? ty).map (·.size)=some cs.length:=by kernel_rfl)
  (hv:Is ((fr l A).tmps.getD te undef) (.pointer (some ⟨be,0,none⟩)):=by go_simp;exact Is.mk _) (hvx:Is ((fr l A).tmps.getD t undef) (.pointer (some ⟨bx,0,none⟩)):=by go_simp;exact Is.mk _):Eb Tryz.prog fn R e (fr l A) w:=
 aeu hd hB (λW hW=>Oq (hX.qC (hW bx hX.lt)) hg hu Xd hi) hR hr he hv hvx
theorem JU (hd:A.defers=[gI be]) (hB:cO w be E 1 (λ_=>.int .i64 x)) (hR:∀ W1,bF (· =be) w W1→R (.returned (.tuple #[v,.int .i64 why])) W1) (hr:fn.results= #[.tmp t,.cell te 28]:=by rfl)
  (hv:Is ((fr l A).tmps.getD te undef) (.pointer (some ⟨be,0,none⟩)):=by go_simp;exact Is.mk _) (hvx:Is ((fr l A).tmps.getD t undef) v:=by go_simp;exact Is.mk _):Eb Tryz.prog fn R (.panic (FU why)) (fr l A) w:=by
 obtain⟨W1,h1,h2,h3⟩:=PI why hB
 refine⟨.returning,W1,by rw[eF,hd];exact Cc hB h1 h2 h3,.tuple #[v,.int .i64 why],λX=>?_,hR W1 h1⟩
 exact XL hr hvx.eq hv.eq (wI Tryz.isAgg28 ((h2.ah X.2).cell (k:=0) (by omega)))
theorem aeC (hd:A.defers=[gI be]) (hB:cO w be E 1 (λ_=>.int .i64 x)) (hR:R (.returned (.tuple #[v,.int .i64 x])) w) (hr:fn.results= #[.tmp t,.cell te 28]:=by rfl) (he:e=.ret∨e=.normal:=by first|exact .inl rfl|exact .inr rfl)
  (hv:Is ((fr l A).tmps.getD te undef) (.pointer (some ⟨be,0,none⟩)):=by go_simp;exact Is.mk _) (hvx:Is ((fr l A).tmps.getD t undef) v:=by go_simp;exact Is.mk _):Eb Tryz.prog fn R e (fr l A) w:=by
 have h:YD Tryz.prog fn (fr l A).tmps R .returning w:=⟨.tuple #[v,.int .i64 x],λX=>XL hr hvx.eq hv.eq (wI Tryz.isAgg28 ((hB.ah X.2).cell (k:=0) (by omega))),hR⟩
 rcases he with rfl|rfl<;>exact⟨.returning,w,by rw[eF,hd];exact EJ be w,h⟩
end
end Go.Ws
