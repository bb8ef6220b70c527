/- Lemmas for the statements of this layer (joined texts); no condition. -/
import Derived.ChangeArms
import Derived.Test.YtdabdbmehmccnaaGreatCa01
import Derived.Test.YtdabdbmehmccnaaGreatCa11
import Derived.Test.YtdabdbmehmccnaaGreatCa14
namespace Go.Ws
open Go Go.RowKit Go.Proofs
set_option maxHeartbeats 4000000
set_option maxRecDepth 100000
set_option linter.unusedVariables false
set_option linter.unusedSimpArgs false
def MW (w:World) (v:Value):Prop:=v=.pointer none∨∃ b,v=.pointer (some ⟨b,0,none⟩)∧b<w.heap.size∧w.cell? ⟨b,3,none⟩=some (.pointer none)
section
variable {w w' : World} {v u : Value}
theorem MW.ah (h:MW w v) (hE:aB w w'):MW w' v:=by
 rcases h with h|⟨b,h1,h2,h3⟩
 ·exact .inl h
 ·exact .inr ⟨b,h1,Nat.lt_of_lt_of_le h2 hE.size,(bI hE h2 (λh=>h)).trans h3⟩
theorem MW.none (h:MW w v):Pure Tryz.prog 44 #[v] w (.bool true):=by
 rcases h with rfl|⟨b,rfl,h2,h3⟩
 ·exact Zu
 ·exact Tn h2 h3
theorem WU (x:bV) (h:MW w v):gK Tryz.prog 14 #[v,x.v] w λr w'=>r=.int .i64 1∧aB w w':=by
 obtain⟨kind,xa,xb,xc⟩:=x
 have H:=Zh h
 clear h
 refine Fi (n:=53) Tryz.func14 ?_;intro A hd hA;simp only[ix,Nat.reduceAdd]
 repeat'(first|refine aN Tryz.func44 ((H.out.ah (by simp)).none) ?_|refine aF ?_|refine au ?_|refine ak (λK hK=>?_)|refine aj ?_|refine aC ?_|refine aJ ?_|(refine dI (λx K hK=>?_);go_simp;refine hK _ _ (aB.alloc _ _) ?_;clear hK K;refine aZ x ?_;generalize (World.ah _ x).heap.size=bn;intro yn aU bD bC bG aS;clear x)|refine bH ?_|go_step)
 exact aA hd ⟨rfl,by simp⟩
theorem WV (h:MW w v):gK Tryz.prog 15 #[v] w λr w'=>r=.pointer none∧aB w w':=by
 have H:=Zh h
 clear h
 refine Fi (n:=10) Tryz.func15 ?_;intro A hd hA;simp only[ix,Nat.reduceAdd]
 repeat'(first|refine aN Tryz.func44 (H.out.none) ?_|refine aF ?_|refine au ?_|refine ak (λK hK=>?_)|refine aj ?_|refine aC ?_|refine bH ?_|go_step)
 exact aA hd ⟨rfl,by simp⟩
theorem WW (h:MW w v):gK Tryz.prog 27 #[v] w λr w'=>r=.pointer none∧aB w w':=by
 have H:=Zh h
 clear h
 refine Fi (n:=57) Tryz.func27 ?_;intro A hd hA;simp only[ix,Nat.reduceAdd]
 repeat'(first|refine aN Tryz.func44 (H.out.none) ?_|refine aF ?_|refine au ?_|refine ak (λK hK=>?_)|refine aj ?_|refine aC ?_|refine bH ?_|go_step)
 exact aA hd ⟨rfl,by simp⟩
theorem aap (h:MW w v):gK Tryz.prog 25 #[v] w λr w'=>r=.slice none 0 0∧aB w w':=by
 have H:=Zh h
 clear h
 refine Fi (n:=24) Tryz.func25 ?_;intro A hd hA;simp only[ix,Nat.reduceAdd]
 repeat'(first|refine aN Tryz.func44 (H.out.none) ?_|refine aF ?_|refine au ?_|refine ak (λK hK=>?_)|refine aj ?_|refine aC ?_|refine bH ?_|go_step)
 exact aA hd ⟨rfl,by simp⟩
theorem aaq (i s:Int) (c:Bool) (o:Int) (h:MW w v):gK Tryz.prog 38 #[v,.int .i64 i,.int .i64 s,.bool c,.int .i64 o] w λr w'=>r=.int .i64 1∧aB w w':=by
 have H:=Zh h
 clear h
 refine Fi (n:=22) Tryz.func38 ?_;intro A hd hA;simp only[ix,Nat.reduceAdd]
 repeat'(first|refine aN Tryz.func44 (H.out.none) ?_|refine aF ?_|refine au ?_|refine ak (λK hK=>?_)|refine aj ?_|refine aC ?_|refine bH ?_|go_step)
 exact aA hd ⟨rfl,by simp⟩
theorem WX (i:Int) (h:MW w v):gK Tryz.prog 34 #[v,.int .i64 i] w λr w'=>r=.tuple #[.int .i64 0,.int .i64 1]∧aB w w':=by
 have H:=Zh h
 clear h
 refine Fi (n:=16) Tryz.func34 ?_;intro A hd hA;simp only[ix,Nat.reduceAdd]
 repeat'(first|refine aN Tryz.func44 (H.out.none) ?_|refine aF ?_|refine au ?_|refine ak (λK hK=>?_)|refine aj ?_|refine aC ?_|refine bH ?_|go_step)
 exact dB hd ⟨rfl,by simp⟩
theorem aar (i s p:Int) (h:MW w v):gK Tryz.prog 36 #[v,.int .i64 i,.int .i64 s,.int .i64 p] w λr w'=>r=.tuple #[.int .i64 0,.int .i64 1]∧aB w w':=by
 have H:=Zh h
 clear h
 refine Fi (n:=22) Tryz.func36 ?_;intro A hd hA;simp only[ix,Nat.reduceAdd]
 repeat'(first|refine aN Tryz.func44 (H.out.none) ?_|refine aF ?_|refine au ?_|refine ak (λK hK=>?_)|refine aj ?_|refine aC ?_|refine bH ?_|go_step)
 exact dB hd ⟨rfl,by simp⟩
theorem NQ (p b:Int) (h:MW w v):gK Tryz.prog 19 #[v,.int .i64 p,.int .i64 b] w λr w'=>r=.tuple #[.pointer none,.int .i64 1]∧aB w w':=by
 have H:=Zh h
 clear h
 refine Fi (n:=33) Tryz.func19 ?_;intro A hd hA;simp only[ix,Nat.reduceAdd]
 repeat'(first|refine aN Tryz.func44 (H.out.none) ?_|refine aF ?_|refine au ?_|refine ak (λK hK=>?_)|refine aj ?_|refine aC ?_|refine aJ ?_|refine bH ?_|go_step)
 exact dB hd ⟨rfl,by simp⟩
theorem Bh (p:Int) (h:MW w v):gK Tryz.prog 16 #[v,.int .i64 p] w λr w'=>r=.tuple #[.slice none 0 0,.int .i64 1]∧aB w w':=by
 have H:=Zh h
 clear h
 refine Fi (n:=43) Tryz.func16 ?_;intro A hd hA;simp only[ix,Nat.reduceAdd]
 repeat'(first|refine aN Tryz.func44 (H.out.none) ?_|refine aF ?_|refine au ?_|refine ak (λK hK=>?_)|refine aj ?_|refine aC ?_|refine aJ ?_|refine bH ?_|go_step)
 exact dB hd ⟨rfl,by simp⟩
theorem NR (p:Int) (h:MW w v):gK Tryz.prog 40 #[v,.int .i64 p] w λr w'=>r=.tuple #[.slice none 0 0,.int .i64 1]∧aB w w':=by
 have H:=Zh h
 clear h
 refine Fi (n:=44) Tryz.func40 ?_;intro A hd hA;simp only[ix,Nat.reduceAdd]
 repeat'(first|refine aF ?_|refine au ?_|refine ak (λK hK=>?_)|refine aj ?_|go_step)
 refine aX Tryz.func16 (Bh p H.out) (λr w1 hR=>?_)
 obtain⟨rfl,hE⟩:=hR
 repeat'(first|refine aF ?_|refine au ?_|refine ak (λK hK=>?_)|refine aj ?_|refine aC ?_|refine bH ?_|go_step)
 exact dB hd ⟨rfl,hE⟩
theorem aas (x:lF) (h:MW w v) (hv:∃ A n c,x.uV=.slice A n c) (he:∃ A n c,x.uE=.slice A n c) (ha:∃ A n c,x.uA=.slice A n c):gK Tryz.prog 41 #[v,x.v] w λr w'=>r=.int .i64 1∧aB w w':=by
 obtain⟨m,uV,uE,uA⟩:=x
 obtain⟨A1,n1,c1,h1⟩:=hv
 obtain⟨A2,n2,c2,h2⟩:=he
 obtain⟨A3,n3,c3,h3⟩:=ha
 dsimp only at h1 h2 h3
 subst h1 h2 h3
 have H:=Zh h
 clear h
 refine Fi (n:=54) Tryz.func41 ?_;intro A hd hA;simp only[ix,Nat.reduceAdd]
 (repeat'(first|refine ak (λK hK=>?_)|refine aj ?_|fail));(refine dI (λx K hK=>?_);go_simp;refine hK _ _ (aB.alloc _ _) ?_;clear hK K;refine aZ x ?_;generalize (World.ah _ x).heap.size=b1;intro yn aU bD bC bG aS;clear x);have iy:=Zh (cO.new aS.out);have lS:=Zh yn.ext;have yG:(World.heap w).size≤b1:=aU;generalize World.ah w yn=W0 at *;clear aU bD bC bG aS yn
 have z0:=iy.out.cell (k:=0) (by simp)
 simp at z0
 have wF:=iy.out.lt
 have HE:=lS
 have H0:=Zh (H.out.ah HE.out)
 repeat'(first|refine aF ?_|refine au ?_|go_step)
 refine yS 0 rfl ?_
 by_cases hk4:m.kind=4
 ·have O7:(m.kind==4)=true:=by simp[hk4]
  repeat'(first|refine aN Tryz.func44 (H0.out.none) ?_|refine aF ?_|refine mg ?_|refine jF ?_|refine au ?_|refine ak (λK hK=>?_)|refine aj ?_|refine bH ?_|go_step)
  refine EF ?_
  refine And.intro rfl ?_
  repeat'(first|refine aF ?_|refine au ?_|refine ak (λK hK=>?_)|refine aj ?_|refine aC ?_|refine aG ?_|go_step)
  exact aA hd ⟨rfl,HE.out⟩
 ·have O7:(m.kind==4)=false:=by simp[hk4]
  repeat'(first|refine aN Tryz.func44 (H0.out.none) ?_|refine dw ?_|refine aF ?_|refine au ?_|refine ak (λK hK=>?_)|refine aj ?_|refine bH ?_|go_step)
  refine EF ?_
  refine And.intro rfl ?_
  repeat'(first|refine aF ?_|refine au ?_|refine ak (λK hK=>?_)|refine aj ?_|refine aC ?_|refine aG ?_|go_step)
  exact aA hd ⟨rfl,HE.out⟩
theorem ac9 (h:MW w v) (h2:MW w u):gK Tryz.prog 28 #[v,u] w λr w'=>r=.bool true∧aB w w':=by
 have H:=Zh h
 have H2:=Zh h2
 clear h h2
 refine Fi (n:=61) Tryz.func28 ?_;intro A hd hA;simp only[ix,Nat.reduceAdd]
 repeat'(first|(refine aN Tryz.func44 H.out.none ?_)|(refine pq ?_)|refine dw ?_|refine aF ?_|refine mg ?_|refine au ?_|refine ak (λK hK=>?_)|refine aj ?_|refine bH ?_|go_step)
 repeat'(first|(refine aN Tryz.func44 H2.out.none ?_)|refine aF ?_|refine au ?_|refine aC ?_|go_step)
 exact aA hd ⟨rfl,by simp⟩
theorem ada (h:MW w v) {b:Nat} {F:Nat→Prop} {c:aO} (h2:iO w b F c):gK Tryz.prog 28 #[v,.pointer (some ⟨b,0,none⟩)] w λr w'=>r=.bool false∧aB w w':=by
 have H:=Zh h
 have H2:=Zh h2
 clear h h2
 refine Fi (n:=61) Tryz.func28 ?_;intro A hd hA;simp only[ix,Nat.reduceAdd]
 repeat'(first|(refine aN Tryz.func44 H.out.none ?_)|(refine pq ?_)|refine dw ?_|refine aF ?_|refine mg ?_|refine au ?_|refine ak (λK hK=>?_)|refine aj ?_|refine bH ?_|go_step)
 repeat'(first|(refine aN Tryz.func44 H2.out.some ?_)|refine aF ?_|refine au ?_|refine aC ?_|go_step)
 exact aA hd ⟨rfl,by simp⟩
theorem adb {b:Nat} {F:Nat→Prop} {c:aO} (h:iO w b F c) (h2:MW w v):gK Tryz.prog 28 #[.pointer (some ⟨b,0,none⟩),v] w λr w'=>r=.bool false∧aB w w':=by
 have H:=Zh h
 have H2:=Zh h2
 clear h h2
 refine Fi (n:=61) Tryz.func28 ?_;intro A hd hA;simp only[ix,Nat.reduceAdd]
 repeat'(first|(refine aN Tryz.func44 H.out.some ?_)|(refine aN Tryz.func44 H2.out.none ?_)|(refine pq ?_)|refine dw ?_|refine aF ?_|refine mg ?_|refine au ?_|refine ak (λK hK=>?_)|refine aj ?_|refine aC ?_|refine bH ?_|go_step)
 exact aA hd ⟨rfl,by simp⟩
end
structure Sl where
 a:Option Addr
 n:Nat
 c:Nat
abbrev Sl.v (s:Sl):Value:=.slice s.a s.n s.c
def Sl.nil:Sl:=⟨none,0,0⟩
structure aqd where
 act:aeT
 uI:Sl
 uE:Sl
 uL:Sl
section
variable {w0 w w' : World} {v vs : Value} {l ys : List aqd}
end
end Go.Ws
namespace Go.Ws
open Go Go.RowKit Go.Proofs Go.ChangeShapes Go.WideShapes
set_option maxHeartbeats 4000000
set_option maxRecDepth 100000
set_option linter.unusedVariables false
set_option linter.unusedSimpArgs false
section
variable {H : Type} {enc : TypeId × Value → H} {W : World} {gq : Bool} {base : Nat} {v : Value} {d : DataW H} {ps : List MemPlace}
theorem Yc {α:Type} {en:α→ List Value} {k:Nat} {P:Program} {t e:TypeId} {fuel:Nat} {cs:List Value} {x:DataW H×List MemPlace} (ht:P.underlying t=some (.slice e)) (hk:P.cellsOf e=k) (aaA:0<k) (iR:∀ x,(en x).length=k)
  (one:∀ n cs x,DataW.trod enc P W 0 (λ_=>true) gq n e cs=some x→∃ y,cs=en y)
  (h:DataW.trod enc P W 0 (λ_=>true) gq fuel t cs=some x):∃ (s:Sl) (l:List α),cs=[s.v]∧Rd en k W s.v l:=by
 rcases Deep.open_slice ht h with⟨rfl,_⟩|⟨a,len,cap,m,n,D,Pl,rfl,_,hl,hm,BI,_,hx⟩
 ·exact⟨Sl.nil,[],rfl,Rd.nil W⟩
 ·refine⟨⟨some a,len,cap⟩,?_⟩
  have hmc:m=cap:=by simpa using BI
  subst hmc
  by_cases Bq:m=0
  ·subst Bq
   obtain rfl:len=0:=by omega
   exact⟨[],rfl,some a,0,rfl,Nat.le_refl _,hm,.inl ⟨.inr rfl,rfl⟩⟩
  obtain⟨b,o,s⟩:=a
  have hbs:s=none∧b<W.heap.size:=by
   obtain⟨cs',h1,h2⟩:=hx 0 (by omega)
   obtain⟨_,Fg,iK⟩:=World.cells?_some h1
   have hj:(0:Nat)<P.cellsOf e:=by omega
   have h3:=iK 0 (by omega)
   rw[Nat.zero_mul]at h3
   have e0:((⟨b,o,s⟩:Addr).add 0).add 0=⟨b,o,s⟩:=rfl
   rw[e0,List.getElem?_eq_getElem (by omega)]at h3
   unfold World.cell? at h3
   simp only at h3
   split at h3
   ·rename_i hh
    refine⟨?_,(Array.getElem?_eq_some_iff.1 hh).1⟩
    cases s with
    | none=>rfl
    | some _=>simp at h3
   ·cases h3
  obtain⟨rfl,hb⟩:=hbs
  have each:∀ i,i<len→∃ y,∀j u,(en y)[j]? =some u→W.cell? ⟨b,o+i *k+j,none⟩=some u:=by
   intro i hi
   obtain⟨cs',h1,h2⟩:=hx i (by omega)
   obtain⟨_,Fg,iK⟩:=World.cells?_some h1
   obtain⟨y,rfl⟩:=one _ _ _ h2
   refine⟨y,λj u hu=>?_⟩
   have hj:j<k:=by
    rw[←iR y]
    exact(Ge hu).1
   have:=iK j (by omega)
   rw[hk]at this
   rw[hu]at this
   rw[←this,add_plain,add_plain]
  by_cases zu:len=0
  ·subst zu
   exact⟨[],rfl,_,m,rfl,Nat.zero_le _,hm,.inr ⟨b,o,rfl,hb,λi x hx=>by simp at hx⟩⟩
  have jm:Nonempty α:=⟨(each 0 (by omega)).choose⟩
  have ou:Inhabited α:=⟨Classical.choice jm⟩
  obtain⟨f,hf⟩:=Deep.choose_lt each
  refine⟨(List.range len).map f,rfl,_,m,by simp,by simpa using hl,hm,.inr ⟨b,o,rfl,hb,λi x hx j u hu=>?_⟩⟩
  simp only[List.getElem?_map]at hx
  rcases Nat.lt_or_ge i len with hi|hi
  ·rw[List.getElem?_range hi]at hx
   cases hx
   exact hf i hi j u hu
  ·rw[List.getElem?_eq_none (by simpa using hi)]at hx;cases hx
theorem O4 {fuel:Nat} {cs:List Value} {x:DataW H×List MemPlace} (h:DataW.trod enc Tryz.prog W 0 (λ_=>true) gq fuel 43 cs=some x):∃ (s:Sl) (l:List Int),cs=[s.v]∧BU W s.v l:=
 Yc (en:=xK) (k:=1) Tryz.underlying43 (by kernel_rfl) (by omega) (λ_=>rfl) (λn cs x h=>by
  obtain⟨z,rfl,_⟩:=DataW.trod_int Tryz.underlying3 h
  exact⟨z,rfl⟩) h
theorem aat {fuel:Nat} {cs:List Value} {x:DataW H×List MemPlace} (h:DataW.trod enc Tryz.prog W 0 (λ_=>true) gq fuel 40 cs=some x):∃ (s:Sl) (l:List cZ),cs=[s.v]∧yQ W s.v l:=
 Yc (en:=cZ.cs) (k:=6) Tryz.underlying40 (by kernel_rfl) (by omega) cZ.len Xz h
theorem aiy:Tryz.prog.cellsOf 45=4:=by kernel_rfl
theorem afr:Tryz.prog.cellsOf 96=5:=by kernel_rfl
theorem afs:Tryz.prog.cellsOf 98=8:=by kernel_rfl
theorem ade (n:Nat) (cs:List Value) (x:DataW H×List MemPlace) (h:DataW.trod enc Tryz.prog W 0 (λ_=>true) gq n 45 cs=some x):∃ (y:dL) (s:Sl),cs=[.int .i64 y.leader,.int .i64 y.epoch,.int .i64 y.version,s.v]∧BU W s.v y.isr:=by
 obtain⟨xs,m,_,_,hl,NU,hf⟩:=DataW.trod_struct Tryz.underlying45 h
 rw[aiy]at hl
 have Xc:xs.length=4:=NU
 have up:∀ (i:Nat) (t:TypeId) (c:List Value),DataW.trod enc Tryz.prog W 0 (λ_=>true) gq m t c=xs[i]? →i<4→∃ y,DataW.trod enc Tryz.prog W 0 (λ_=>true) gq m t c=some y:=λi t c hd hi=>⟨_,by rw[hd];exact List.getElem?_eq_getElem (by omega)⟩
 match cs,hl with
 | [c0,c1,c2,c3],_=>
  have g0:=hf 0 _ rfl
  have g1:=hf 1 _ rfl
  have g2:=hf 2 _ rfl
  have g3:=hf 3 _ rfl
  have g0:=g0
  have g1:=g1
  have g2:=g2
  have g3:=g3
  obtain⟨y0,g0⟩:=up 0 _ _ g0 (by omega)
  change DataW.trod enc Tryz.prog W 0 (λ_=>true) gq m _ [c0]=some y0 at g0
  obtain⟨z0,UD,-⟩:=DataW.trod_int Tryz.underlying3 g0
  cases UD
  obtain⟨y1,g1⟩:=up 1 _ _ g1 (by omega)
  change DataW.trod enc Tryz.prog W 0 (λ_=>true) gq m _ [c1]=some y1 at g1
  obtain⟨z1,Xu,-⟩:=DataW.trod_int Tryz.underlying2 g1
  cases Xu
  obtain⟨y2,g2⟩:=up 2 _ _ g2 (by omega)
  change DataW.trod enc Tryz.prog W 0 (λ_=>true) gq m _ [c2]=some y2 at g2
  obtain⟨z2,Xp,-⟩:=DataW.trod_int Tryz.underlying2 g2
  cases Xp
  obtain⟨y3,g3⟩:=up 3 _ _ g3 (by omega)
  change DataW.trod enc Tryz.prog W 0 (λ_=>true) gq m _ [c3]=some y3 at g3
  obtain⟨s3,z3,UR,r3⟩:=O4 g3
  cases UR
  exact⟨⟨z0,z1,z2,z3⟩,s3,rfl,r3⟩
theorem aau (n:Nat) (cs:List Value) (x:DataW H×List MemPlace) (h:DataW.trod enc Tryz.prog W 0 (λ_=>true) gq n 96 cs=some x):∃ y:pW,cs=[.int .i64 y.mD,.int .i64 y.epoch,.int .i64 y.offset,.int .i64 y.last,.int .i64 y.flushed]:=by
 obtain⟨xs,m,_,_,hl,NU,hf⟩:=DataW.trod_struct Tryz.underlying96 h
 rw[afr]at hl
 have Xc:xs.length=5:=NU
 have up:∀ (i:Nat) (t:TypeId) (c:List Value),DataW.trod enc Tryz.prog W 0 (λ_=>true) gq m t c=xs[i]? →i<5→∃ y,DataW.trod enc Tryz.prog W 0 (λ_=>true) gq m t c=some y:=λi t c hd hi=>⟨_,by rw[hd];exact List.getElem?_eq_getElem (by omega)⟩
 match cs,hl with
 | [c0,c1,c2,c3,c4],_=>
  have g0:=hf 0 _ rfl
  have g1:=hf 1 _ rfl
  have g2:=hf 2 _ rfl
  have g3:=hf 3 _ rfl
  have g4:=hf 4 _ rfl
  have g0:=g0
  have g1:=g1
  have g2:=g2
  have g3:=g3
  have g4:=g4
  obtain⟨y0,g0⟩:=up 0 _ _ g0 (by omega)
  change DataW.trod enc Tryz.prog W 0 (λ_=>true) gq m _ [c0]=some y0 at g0
  obtain⟨z0,UD,-⟩:=DataW.trod_int Tryz.underlying3 g0
  cases UD
  obtain⟨y1,g1⟩:=up 1 _ _ g1 (by omega)
  change DataW.trod enc Tryz.prog W 0 (λ_=>true) gq m _ [c1]=some y1 at g1
  obtain⟨z1,Xu,-⟩:=DataW.trod_int Tryz.underlying2 g1
  cases Xu
  obtain⟨y2,g2⟩:=up 2 _ _ g2 (by omega)
  change DataW.trod enc Tryz.prog W 0 (λ_=>true) gq m _ [c2]=some y2 at g2
  obtain⟨z2,Xp,-⟩:=DataW.trod_int Tryz.underlying3 g2
  cases Xp
  obtain⟨y3,g3⟩:=up 3 _ _ g3 (by omega)
  change DataW.trod enc Tryz.prog W 0 (λ_=>true) gq m _ [c3]=some y3 at g3
  obtain⟨z3,UR,-⟩:=DataW.trod_int Tryz.underlying2 g3
  cases UR
  obtain⟨y4,g4⟩:=up 4 _ _ g4 (by omega)
  change DataW.trod enc Tryz.prog W 0 (λ_=>true) gq m _ [c4]=some y4 at g4
  obtain⟨z4,hz4,-⟩:=DataW.trod_int Tryz.underlying3 g4
  cases hz4
  exact⟨⟨z0,z1,z2,z3,z4⟩,rfl⟩
theorem aav (n:Nat) (cs:List Value) (x:DataW H×List MemPlace) (h:DataW.trod enc Tryz.prog W 0 (λ_=>true) gq n 98 cs=some x):∃ (y:iM) (s:Sl),cs=y.cs s.v∧yQ W s.v y.entries:=by
 obtain⟨xs,m,_,_,hl,NU,hf⟩:=DataW.trod_struct Tryz.underlying98 h
 rw[afs]at hl
 have Xc:xs.length=8:=NU
 have up:∀ (i:Nat) (t:TypeId) (c:List Value),DataW.trod enc Tryz.prog W 0 (λ_=>true) gq m t c=xs[i]? →i<8→∃ y,DataW.trod enc Tryz.prog W 0 (λ_=>true) gq m t c=some y:=λi t c hd hi=>⟨_,by rw[hd];exact List.getElem?_eq_getElem (by omega)⟩
 match cs,hl with
 | [c0,c1,c2,c3,c4,c5,c6,c7],_=>
  have g0:=hf 0 _ rfl
  have g1:=hf 1 _ rfl
  have g2:=hf 2 _ rfl
  have g3:=hf 3 _ rfl
  have g4:=hf 4 _ rfl
  have g5:=hf 5 _ rfl
  have g6:=hf 6 _ rfl
  have g7:=hf 7 _ rfl
  have g0:=g0
  have g1:=g1
  have g2:=g2
  have g3:=g3
  have g4:=g4
  have g5:=g5
  have g6:=g6
  have g7:=g7
  obtain⟨y0,g0⟩:=up 0 _ _ g0 (by omega)
  change DataW.trod enc Tryz.prog W 0 (λ_=>true) gq m _ [c0]=some y0 at g0
  obtain⟨z0,UD,-⟩:=DataW.trod_int Tryz.underlying2 g0
  cases UD
  obtain⟨y1,g1⟩:=up 1 _ _ g1 (by omega)
  change DataW.trod enc Tryz.prog W 0 (λ_=>true) gq m _ [c1]=some y1 at g1
  obtain⟨z1,Xu,-⟩:=DataW.trod_int Tryz.underlying3 g1
  cases Xu
  obtain⟨y2,g2⟩:=up 2 _ _ g2 (by omega)
  change DataW.trod enc Tryz.prog W 0 (λ_=>true) gq m _ [c2]=some y2 at g2
  obtain⟨z2,Xp,-⟩:=DataW.trod_int Tryz.underlying2 g2
  cases Xp
  obtain⟨y3,g3⟩:=up 3 _ _ g3 (by omega)
  change DataW.trod enc Tryz.prog W 0 (λ_=>true) gq m _ [c3]=some y3 at g3
  obtain⟨z3,UR,-⟩:=DataW.trod_bool Tryz.underlying4 g3
  cases UR
  obtain⟨y4,g4⟩:=up 4 _ _ g4 (by omega)
  change DataW.trod enc Tryz.prog W 0 (λ_=>true) gq m _ [c4]=some y4 at g4
  obtain⟨z4,hz4,-⟩:=DataW.trod_int Tryz.underlying2 g4
  cases hz4
  obtain⟨y5,g5⟩:=up 5 _ _ g5 (by omega)
  change DataW.trod enc Tryz.prog W 0 (λ_=>true) gq m _ [c5]=some y5 at g5
  obtain⟨z5,hz5,-⟩:=DataW.trod_int Tryz.underlying3 g5
  cases hz5
  obtain⟨y6,g6⟩:=up 6 _ _ g6 (by omega)
  change DataW.trod enc Tryz.prog W 0 (λ_=>true) gq m _ [c6]=some y6 at g6
  obtain⟨s6,z6,hz6,r6⟩:=aat g6
  cases hz6
  obtain⟨y7,g7⟩:=up 7 _ _ g7 (by omega)
  change DataW.trod enc Tryz.prog W 0 (λ_=>true) gq m _ [c7]=some y7 at g7
  obtain⟨z7,hz7,-⟩:=DataW.trod_int Tryz.underlying3 g7
  cases hz7
  exact⟨⟨z0,z1,z2,z3,z4,z5,z6,z7⟩,s6,rfl,r6⟩
end
structure QA (W:World) (x:lF):Prop where
 v:BU W x.uV x.m.view.isr
 e:yQ W x.uE x.m.reply.entries
 a:BU W x.uA x.m.alter.isr
section
variable {H : Type} {enc : TypeId × Value → H} {W : World} {gq : Bool} {base : Nat} {v : Value} {d : DataW H} {ps : List MemPlace}
theorem adf:Tryz.prog.cellsOf 99=4:=by kernel_rfl
theorem aaw (n:Nat) (cs:List Value) (x:DataW H×List MemPlace) (h:DataW.trod enc Tryz.prog W 0 (λ_=>true) gq n 99 cs=some x):∃ (y:Uy) (s:Sl),cs=[.int .i64 y.leader,.int .i64 y.epoch,.int .i64 y.version,s.v]∧BU W s.v y.isr:=by
 obtain⟨xs,m,_,_,hl,NU,hf⟩:=DataW.trod_struct Tryz.underlying99 h
 rw[adf]at hl
 have Xc:xs.length=4:=NU
 have up:∀ (i:Nat) (t:TypeId) (c:List Value),DataW.trod enc Tryz.prog W 0 (λ_=>true) gq m t c=xs[i]? →i<4→∃ y,DataW.trod enc Tryz.prog W 0 (λ_=>true) gq m t c=some y:=λi t c hd hi=>⟨_,by rw[hd];exact List.getElem?_eq_getElem (by omega)⟩
 match cs,hl with
 | [c0,c1,c2,c3],_=>
  have g0:=hf 0 _ rfl
  have g1:=hf 1 _ rfl
  have g2:=hf 2 _ rfl
  have g3:=hf 3 _ rfl
  obtain⟨y0,g0⟩:=up 0 _ _ g0 (by omega)
  change DataW.trod enc Tryz.prog W 0 (λ_=>true) gq m _ [c0]=some y0 at g0
  obtain⟨z0,UD,-⟩:=DataW.trod_int Tryz.underlying3 g0
  cases UD
  obtain⟨y1,g1⟩:=up 1 _ _ g1 (by omega)
  change DataW.trod enc Tryz.prog W 0 (λ_=>true) gq m _ [c1]=some y1 at g1
  obtain⟨z1,Xu,-⟩:=DataW.trod_int Tryz.underlying2 g1
  cases Xu
  obtain⟨y2,g2⟩:=up 2 _ _ g2 (by omega)
  change DataW.trod enc Tryz.prog W 0 (λ_=>true) gq m _ [c2]=some y2 at g2
  obtain⟨z2,Xp,-⟩:=DataW.trod_int Tryz.underlying2 g2
  cases Xp
  obtain⟨y3,g3⟩:=up 3 _ _ g3 (by omega)
  change DataW.trod enc Tryz.prog W 0 (λ_=>true) gq m _ [c3]=some y3 at g3
  obtain⟨s3,z3,UR,r3⟩:=O4 g3
  cases UR
  exact⟨⟨z0,z1,z2,z3⟩,s3,rfl,r3⟩
theorem aiz:Tryz.prog.cellsOf 104=30:=by kernel_rfl
theorem aft (n:Nat) (cs:List Value) (x:DataW H×List MemPlace) (h:DataW.trod enc Tryz.prog W 0 (λ_=>true) gq n 104 cs=some x):∃ y:lF,cs=xg y∧QA W y:=by
 obtain⟨xs,m,_,_,hl,NU,hf⟩:=DataW.trod_struct Tryz.underlying104 h
 rw[aiz]at hl
 have Xc:xs.length=8:=NU
 have up:∀ (i:Nat) (t:TypeId) (c:List Value),DataW.trod enc Tryz.prog W 0 (λ_=>true) gq m t c=xs[i]? →i<8→∃ y,DataW.trod enc Tryz.prog W 0 (λ_=>true) gq m t c=some y:=λi t c hd hi=>⟨_,by rw[hd];exact List.getElem?_eq_getElem (by omega)⟩
 match cs,hl with
 | [c0,c1,c2,c3,c4,c5,c6,c7,c8,c9,c10,c11,c12,c13,c14,c15,c16,c17,c18,c19,c20,c21,c22,c23,c24,c25,c26,c27,c28,c29],_=>
  have g0:=hf 0 _ rfl
  have g1:=hf 1 _ rfl
  have g2:=hf 2 _ rfl
  have g3:=hf 3 _ rfl
  have g4:=hf 4 _ rfl
  have g5:=hf 5 _ rfl
  have g6:=hf 6 _ rfl
  have g7:=hf 7 _ rfl
  obtain⟨y0,g0⟩:=up 0 _ _ g0 (by omega)
  change DataW.trod enc Tryz.prog W 0 (λ_=>true) gq m _ [c0]=some y0 at g0
  obtain⟨z0,UD,-⟩:=DataW.trod_int Tryz.underlying94 g0
  cases UD
  obtain⟨y1,g1⟩:=up 1 _ _ g1 (by omega)
  change DataW.trod enc Tryz.prog W 0 (λ_=>true) gq m _ [c1]=some y1 at g1
  obtain⟨z1,Xu,-⟩:=DataW.trod_int Tryz.underlying3 g1
  cases Xu
  obtain⟨y2,g2⟩:=up 2 _ _ g2 (by omega)
  change DataW.trod enc Tryz.prog W 0 (λ_=>true) gq m _ [c2]=some y2 at g2
  obtain⟨z2,Xp,-⟩:=DataW.trod_int Tryz.underlying3 g2
  cases Xp
  obtain⟨y3,g3⟩:=up 3 _ _ g3 (by omega)
  change DataW.trod enc Tryz.prog W 0 (λ_=>true) gq m _ [c3,c4,c5,c6]=some y3 at g3
  obtain⟨z3,s3,UR,r3⟩:=ade _ _ _ g3
  cases UR
  obtain⟨y4,g4⟩:=up 4 _ _ g4 (by omega)
  change DataW.trod enc Tryz.prog W 0 (λ_=>true) gq m _ [c7,c8,c9,c10,c11]=some y4 at g4
  obtain⟨z4,hz4⟩:=aau _ _ _ g4
  cases hz4
  obtain⟨y5,g5⟩:=up 5 _ _ g5 (by omega)
  change DataW.trod enc Tryz.prog W 0 (λ_=>true) gq m _ [c12,c13,c14,c15,c16,c17,c18,c19]=some y5 at g5
  obtain⟨z5,s5,hz5,r5⟩:=aav _ _ _ g5
  cases hz5
  obtain⟨y6,g6⟩:=up 6 _ _ g6 (by omega)
  change DataW.trod enc Tryz.prog W 0 (λ_=>true) gq m _ [c20,c21,c22,c23]=some y6 at g6
  obtain⟨z6,s6,hz6,r6⟩:=aaw _ _ _ g6
  cases hz6
  obtain⟨y7,g7⟩:=up 7 _ _ g7 (by omega)
  change DataW.trod enc Tryz.prog W 0 (λ_=>true) gq m _ [c24,c25,c26,c27,c28,c29]=some y7 at g7
  obtain⟨z7,hz7⟩:=Xz _ _ _ g7
  cases hz7
  exact⟨⟨⟨z0,z1,z2,z3,z4,z5,z6,z7⟩,s3.v,s5.v,s6.v⟩,rfl,r3,r5,r6⟩
theorem aax (lU:Value.okWide Tryz.prog W .any base 104 v) (h:DataW.Trod enc Tryz.prog W 0 (λ_=>true) gq 104 v d ps):∃ y:lF,v=.agg (xg y).toArray∧QA W y:=by
 obtain⟨fuel,hf⟩:=h
 obtain⟨y,hy,hm⟩:=aft _ _ _ hf
 unfold Value.okWide at lU
 rw[Tryz.underlying104]at lU
 obtain⟨cs,rfl,_⟩:=lU
 refine⟨y,?_,hm⟩
 have:cs.toList=xg y:=hy
 show Value.agg cs=_
 rw[show cs=(xg y).toArray by rw[←this]]
end
end Go.Ws
namespace Go.Ws
open Go Go.RowKit Go.Proofs
set_option maxHeartbeats 4000000
set_option maxRecDepth 100000
set_option linter.unusedVariables false
set_option linter.unusedSimpArgs false
theorem WY (x:bV) (y:lF) (w:World) (hy:QA w y):Pure Tryz.prog 10 #[.agg x.cs.toArray,.agg (xg y).toArray] w (.bool true):=by
 obtain⟨m,uV,uE,uA⟩:=y
 obtain⟨Av,cv,hv,-⟩:=hy.v.int
 obtain⟨Ae,ce,he,-⟩:=hy.e.ent
 obtain⟨Aa,ca,ha,-⟩:=hy.a.int
 dsimp only at hv he ha
 subst hv he ha
 obtain⟨kind,xa,xb,xc⟩:=x
 clear hy
 have hMV:(Value.agg (xg ⟨m,.slice Av m.view.isr.length cv,.slice Ae m.reply.entries.length ce,.slice Aa m.alter.isr.length ca⟩).toArray)=lF.v ⟨m,.slice Av m.view.isr.length cv,.slice Ae m.reply.entries.length ce,.slice Aa m.alter.isr.length ca⟩:=rfl
 rw[hMV]
 clear hMV
 refine Fi (n:=158) Tryz.func10 ?_;intro A hd hA;simp only[ix,Nat.reduceAdd]
 (repeat'(first|refine ak (λK hK=>?_)|refine aj ?_|fail));(refine dI (λx K hK=>?_);go_simp;refine hK _ _ (aB.alloc _ _) ?_;clear hK K;refine aZ x ?_;generalize (World.ah _ x).heap.size=b1;intro yn aU bD bC bG aS;clear x);have iy:=Zh (cO.new aS.out);have lS:=Zh yn.ext;have yG:(World.heap w).size≤b1:=aU;generalize World.ah w yn=W0 at *;clear aU bD bC bG aS yn
 (skip);(refine dI (λx K hK=>?_);go_simp;refine hK _ _ (aB.alloc _ _) ?_;clear hK K;refine aZ x ?_;generalize (World.ah _ x).heap.size=b2;intro yn aU bD bC bG aS;clear x);have Qn:=Zh (cO.new aS.out);have LW:=Zh yn.ext;have Tq:(World.heap W0).size≤b2:=aU;generalize World.ah W0 yn=W1 at *;clear aU bD bC bG aS yn
 have kY:aB w W1:=Et lS.out LW.out
 have jO:=Zh (iy.out.ah LW.out)
 have su:=Qn
 have qO:=Zh kY
 have v0:=su.out.cell (k:=6) (by simp)
 have v1:=su.out.cell (k:=18) (by simp)
 have v2:=su.out.cell (k:=23) (by simp)
 have v3:=jO.out.cell (k:=1) (by simp)
 have v4:=jO.out.cell (k:=2) (by simp)
 simp at v0 v1 v2 v3 v4
 have wF:=jO.out.lt
 have Yj:=su.out.lt
 clear kY iy Qn lS LW yG Tq
 by_cases q1:20<(m.view.isr.length:Int)
 ·repeat'(first|refine aF ?_|refine mg ?_|refine jF ?_|refine au ?_|refine ak (λK hK=>?_)|refine aj ?_|refine bH ?_|go_step)
  refine aX Tryz.func12 (kR _) (λr w2 hR=>?_)
  obtain⟨rfl,iU⟩:=hR
  repeat'(first|refine aF ?_|refine au ?_|refine aC ?_|go_step)
  exact aA hd ⟨rfl,Et qO.out iU⟩
 by_cases q2:20<(m.alter.isr.length:Int)
 ·repeat'(first|refine dw ?_|refine aF ?_|refine mg ?_|refine jF ?_|refine au ?_|refine ak (λK hK=>?_)|refine aj ?_|refine bH ?_|go_step)
  refine aX Tryz.func12 (kR _) (λr w2 hR=>?_)
  obtain⟨rfl,iU⟩:=hR
  repeat'(first|refine aF ?_|refine au ?_|refine aC ?_|go_step)
  exact aA hd ⟨rfl,Et qO.out iU⟩
 by_cases q3:20<(m.reply.entries.length:Int)
 ·repeat'(first|refine dw ?_|refine aF ?_|refine au ?_|refine ak (λK hK=>?_)|refine aj ?_|refine bH ?_|go_step)
  refine aX Tryz.func12 (kR _) (λr w2 hR=>?_)
  obtain⟨rfl,iU⟩:=hR
  repeat'(first|refine aF ?_|refine au ?_|refine aC ?_|go_step)
  exact aA hd ⟨rfl,Et qO.out iU⟩
 repeat'(first|refine dw ?_|refine aF ?_|refine au ?_|refine ak (λK hK=>?_)|refine aj ?_|refine aG ?_|(refine dI (λx K hK=>?_);go_simp;refine hK _ _ (aB.alloc _ _) ?_;clear hK K;refine aZ x ?_;generalize (World.ah _ x).heap.size=bn;intro yn aU bD bC bG aS;clear x)|refine bJ ?_|go_step)
 have iU:aB W1 (W1.ah yn):=yn.ext
 have UR:=(cO.new aS.out).cell (k:=3) (by simp)
 simp at UR
 have HZ:Hid (MW (W1.ah yn) (.pointer (some ⟨bn,0,none⟩))):=Zh (.inr ⟨bn,rfl,bD,UR⟩)
 have HC:Hid (∀W,MW W (.pointer none)):=Zh (λW=>.inl rfl)
 have rO:=Zh (Et qO.out iU)
 replace jO:=Zh (jO.out.ah iU)
 replace su:=Zh (su.out.ah iU)
 obtain⟨bz,hbz⟩:∃ q:Nat,q=bn:=⟨_,rfl⟩
 subst hbz
 generalize World.ah W1 yn=W2 at *
 clear aU bD bC bG aS UR iU v0 v1 v2 v3 v4 wF Yj qO
 have v3:=jO.out.cell (k:=1) (by simp)
 have v4:=jO.out.cell (k:=2) (by simp)
 simp at v3 v4
 have wF:=jO.out.lt
 refine aX Tryz.func19 (NQ xa xb (HC.out _)) (λr W3 hR=>?_)
 obtain⟨rfl,hE⟩:=hR
 replace rO:=Zh (Et rO.out hE)
 replace HZ:=Zh (HZ.out.ah hE)
 replace jO:=Zh (jO.out.ah hE)
 replace su:=Zh (su.out.ah hE)
 clear v3 v4 wF hE
 have v3:=jO.out.cell (k:=1) (by simp)
 have v4:=jO.out.cell (k:=2) (by simp)
 simp at v3 v4
 have wF:=jO.out.lt
 repeat'(first|refine aF ?_|refine au ?_|refine ak (λK hK=>?_)|refine aj ?_|go_step)
 refine aX Tryz.func34 (WX xa HZ.out) (λr W4 hR=>?_)
 obtain⟨rfl,hE⟩:=hR
 replace rO:=Zh (Et rO.out hE)
 replace HZ:=Zh (HZ.out.ah hE)
 replace jO:=Zh (jO.out.ah hE)
 replace su:=Zh (su.out.ah hE)
 clear v3 v4 wF hE
 have v3:=jO.out.cell (k:=1) (by simp)
 have v4:=jO.out.cell (k:=2) (by simp)
 simp at v3 v4
 have wF:=jO.out.lt
 repeat'(first|refine aF ?_|refine au ?_|refine ak (λK hK=>?_)|refine aj ?_|go_step)
 refine aX Tryz.func36 (aar xa 1 xb (HC.out _)) (λr W5 hR=>?_)
 obtain⟨rfl,hE⟩:=hR
 replace rO:=Zh (Et rO.out hE)
 replace HZ:=Zh (HZ.out.ah hE)
 replace jO:=Zh (jO.out.ah hE)
 replace su:=Zh (su.out.ah hE)
 clear v3 v4 wF hE
 have v3:=jO.out.cell (k:=1) (by simp)
 simp at v3
 have wF:=jO.out.lt
 repeat'(first|refine aF ?_|refine au ?_|refine ak (λK hK=>?_)|refine aj ?_|go_step)
 refine aX Tryz.func16 (Bh xa HZ.out) (λr W6 hR=>?_)
 obtain⟨rfl,hE⟩:=hR
 replace rO:=Zh (Et rO.out hE)
 replace HZ:=Zh (HZ.out.ah hE)
 replace jO:=Zh (jO.out.ah hE)
 replace su:=Zh (su.out.ah hE)
 clear v3 wF hE
 have v3:=jO.out.cell (k:=1) (by simp)
 simp at v3
 have wF:=jO.out.lt
 repeat'(first|refine aF ?_|refine au ?_|refine ak (λK hK=>?_)|refine aj ?_|go_step)
 refine aX Tryz.func40 (NR xa (HC.out _)) (λr W7 hR=>?_)
 obtain⟨rfl,hE⟩:=hR
 replace rO:=Zh (Et rO.out hE)
 replace HZ:=Zh (HZ.out.ah hE)
 replace jO:=Zh (jO.out.ah hE)
 replace su:=Zh (su.out.ah hE)
 clear v3 wF hE
 repeat'(first|refine aF ?_|refine au ?_|refine ak (λK hK=>?_)|refine aj ?_|go_step)
 refine aX Tryz.func11 (J6 (f:=⟨1,1,1⟩) (least:=1) (by decide) (by decide)) (λr W8 hR=>?_)
 obtain⟨b8,rfl,hE,Fg⟩:=hR
 have Io:=Zh Fg
 replace rO:=Zh (Et rO.out hE)
 replace HZ:=Zh (HZ.out.ah hE)
 replace jO:=Zh (jO.out.ah hE)
 replace su:=Zh (su.out.ah hE)
 clear Fg hE
 have c0:=jO.out.cell (k:=0) (by simp)
 have c1:=jO.out.cell (k:=1) (by simp)
 have c2:=jO.out.cell (k:=2) (by simp)
 have c3:=jO.out.cell (k:=3) (by simp)
 simp at c0 c1 c2 c3
 have wF:=jO.out.lt
 repeat'(first|refine dw ?_|refine aF ?_|refine au ?_|refine ak (λK hK=>?_)|refine aj ?_|go_step)
 refine aX Tryz.func14 (WU ⟨kind,xa,xb,xc⟩ (HC.out _)) (λr W9 hR=>?_)
 obtain⟨rfl,hE⟩:=hR
 replace rO:=Zh (Et rO.out hE)
 replace HZ:=Zh (HZ.out.ah hE)
 replace jO:=Zh (jO.out.ah hE)
 replace su:=Zh (su.out.ah hE)
 replace Io:=Zh (Io.out.ah hE)
 clear hE c0 c1 c2 c3 wF
 repeat'(first|refine dw ?_|refine aF ?_|fail)
 have hB:cO W9 b2 104 30 (λk=>(xg ⟨m,.slice Av m.view.isr.length cv,.slice Ae m.reply.entries.length ce,.slice Aa m.alter.isr.length ca⟩).getD k undef):=su.out.congr (λk hk=>match k,hk with|0,_=>rfl|1,_=>rfl|2,_=>rfl|3,_=>rfl|4,_=>rfl|5,_=>rfl|6,_=>rfl|7,_=>rfl|8,_=>rfl|9,_=>rfl|10,_=>rfl|11,_=>rfl|12,_=>rfl|13,_=>rfl|14,_=>rfl|15,_=>rfl|16,_=>rfl|17,_=>rfl|18,_=>rfl|19,_=>rfl|20,_=>rfl|21,_=>rfl|22,_=>rfl|23,_=>rfl|24,_=>rfl|25,_=>rfl|26,_=>rfl|27,_=>rfl|28,_=>rfl|29,_=>rfl|n+30,h=>absurd h (by simp))
 refine yR hB ?_ (hu:=Tryz.underlying104)
 have zA:(Value.agg ((List.range 30).map λk=>(xg ⟨m,.slice Av m.view.isr.length cv,.slice Ae m.reply.entries.length ce,.slice Aa m.alter.isr.length ca⟩).getD k undef).toArray)=(lF.v ⟨m,.slice Av m.view.isr.length cv,.slice Ae m.reply.entries.length ce,.slice Aa m.alter.isr.length ca⟩):=rfl
 rw[zA]
 clear zA hB
 repeat'(first|refine dw ?_|fail)
 refine aX Tryz.func41 (aas ⟨m,.slice Av m.view.isr.length cv,.slice Ae m.reply.entries.length ce,.slice Aa m.alter.isr.length ca⟩ HZ.out ⟨_,_,_,rfl⟩ ⟨_,_,_,rfl⟩ ⟨_,_,_,rfl⟩) (λr W10 hR=>?_)
 obtain⟨rfl,hE⟩:=hR
 replace rO:=Zh (Et rO.out hE)
 replace HZ:=Zh (HZ.out.ah hE)
 replace jO:=Zh (jO.out.ah hE)
 replace Io:=Zh (Io.out.ah hE)
 clear hE su
 have c1:=jO.out.cell (k:=1) (by simp)
 simp at c1
 have wF:=jO.out.lt
 repeat'(first|refine dw ?_|refine aF ?_|fail)
 refine aX Tryz.func38 (aaq xa 1 true 1 (HC.out _)) (λr W11 hR=>?_)
 obtain⟨rfl,hE⟩:=hR
 replace rO:=Zh (Et rO.out hE)
 replace HZ:=Zh (HZ.out.ah hE)
 replace Io:=Zh (Io.out.ah hE)
 clear hE
 clear c1 wF jO
 repeat'(first|refine dw ?_|refine aF ?_|fail)
 refine aX Tryz.func25 (aap (HC.out _)) (λr W12 hR=>?_)
 obtain⟨rfl,hE⟩:=hR
 replace rO:=Zh (Et rO.out hE)
 replace HZ:=Zh (HZ.out.ah hE)
 replace Io:=Zh (Io.out.ah hE)
 clear hE
 repeat'(first|refine dw ?_|refine aF ?_|fail)
 refine aX Tryz.func15 (WV HZ.out) (λr W13 hR=>?_)
 obtain⟨rfl,hE⟩:=hR
 replace rO:=Zh (Et rO.out hE)
 replace HZ:=Zh (HZ.out.ah hE)
 replace Io:=Zh (Io.out.ah hE)
 clear hE
 repeat'(first|refine dw ?_|refine aF ?_|fail)
 refine aX Tryz.func27 (WW (HC.out _)) (λr W14 hR=>?_)
 obtain⟨rfl,hE⟩:=hR
 replace rO:=Zh (Et rO.out hE)
 replace HZ:=Zh (HZ.out.ah hE)
 replace Io:=Zh (Io.out.ah hE)
 clear hE
 repeat'(first|refine dw ?_|refine aF ?_|fail)
 refine aX Tryz.func28 (ac9 (HC.out _) HZ.out) (λr W15 hR=>?_)
 obtain⟨rfl,hE⟩:=hR
 replace rO:=Zh (Et rO.out hE)
 replace HZ:=Zh (HZ.out.ah hE)
 replace Io:=Zh (Io.out.ah hE)
 clear hE
 repeat'(first|refine dw ?_|refine aF ?_|fail)
 refine aX Tryz.func28 (ada (HC.out _) Io.out) (λr W16 hR=>?_)
 obtain⟨rfl,hE⟩:=hR
 replace rO:=Zh (Et rO.out hE)
 replace HZ:=Zh (HZ.out.ah hE)
 replace Io:=Zh (Io.out.ah hE)
 clear hE
 repeat'(first|refine dw ?_|refine aF ?_|fail)
 refine aX Tryz.func28 (adb Io.out HZ.out) (λr W17 hR=>?_)
 obtain⟨rfl,hE⟩:=hR
 replace rO:=Zh (Et rO.out hE)
 replace HZ:=Zh (HZ.out.ah hE)
 replace Io:=Zh (Io.out.ah hE)
 clear hE
 repeat'(first|refine dw ?_|refine aF ?_|fail)
 refine aX Tryz.func12 (kR _) (λr Wz hR=>?_)
 obtain⟨rfl,hE⟩:=hR
 repeat'(first|refine aF ?_|refine au ?_|refine aC ?_|go_step)
 exact aA hd ⟨rfl,Et rO.out hE⟩
end Go.Ws
