/- Lemmas for the statements of this layer (joined texts); no condition. -/
import Derived.Test.YtdabdbmehmccnaaGreatCa12
namespace Go.Ws
open Go Go.RowKit Go.Proofs
set_option maxHeartbeats 4000000
set_option maxRecDepth 100000
set_option linter.unusedVariables false
set_option linter.unusedSimpArgs false
theorem zl.rd {w:World} {T:Nat→Nat} {x:lF} {f:gB} (h:zl w T x) (ho:Gt f x.m):Ja w x:=
 ⟨dQ.rd (enc:=xK) (k:=1) (λ_=>rfl) h.v,dQ.rd (enc:=cZ.cs) (k:=6) cZ.len h.e,dQ.rd (enc:=xK) (k:=1) (λ_=>rfl) h.a,Nat.le_trans ho.isr (by decide),Nat.le_trans ho.entries (by decide),Nat.le_trans ho.alter (by decide)⟩
theorem iJ.msg {w:World} {b:Nat} {A0:og} {c:aO} (h:iJ w b A0 c) {i:Nat} (hi:i<c.iq.length):∃ y,A0.ms[i]? =some y∧y.m=c.iq.getD i eu.zero∧zl w A0.T y∧Gt c.ctl.form y.m:=by
 have hl:A0.ms.length=c.iq.length:=by rw[←h.bm,List.length_map]
 obtain⟨y,hy⟩:∃ y,A0.ms[i]? =some y:=⟨_,List.getElem?_eq_getElem (by omega)⟩
 have hm:c.iq[i]? =some y.m:=by rw[←h.bm,List.getElem?_map,hy];rfl
 refine⟨y,hy,by rw[List.getD_eq_getElem?_getD,hm];rfl,h.inner y (List.mem_of_getElem? hy),h.bU.msgs _ (List.mem_of_getElem? hm)⟩
theorem Qp {w:World} {b:Nat} {F:Nat→Prop} {c:aO} (x:bV) (h:iO w b F c):gK Tryz.prog 55 #[.pointer (some ⟨b,0,none⟩),x.v] w λr w'=>r=.int .i64 (if c.iq.length=0 then 5 else((c.lq (c.l7 x.a)).lC (c.iq.getD (c.l7 x.a) eu.zero)).2)∧eP w b F (if c.iq.length=0 then c else((c.lq (c.l7 x.a)).lC (c.iq.getD (c.l7 x.a) eu.zero)).1) w':=by
 by_cases hq:c.iq.length=0
 ·rw[if_pos hq,if_pos hq]
  have HH:=Zh h
  have N7:∀ w',aB w w'→Pure Tryz.prog 117 #[.pointer (some ⟨b,0,none⟩),x.v] w' (.tuple #[.int .i64 0,.int .i64 5]):=λw' hE=>by have:=qA x (h.ah hE);rw[if_pos hq]at this;exact this
  have HPK:=Zh N7
  clear h hq N7
  refine Fi (n:=21) Tryz.func55 ?_;intro A hd hA;simp only[ix,Nat.reduceAdd]
  repeat'(first|refine aN Tryz.func117 (HPK.out _ (by simp)) ?_|refine aF ?_|refine au ?_|refine ak (λK hK=>?_)|refine aj ?_|refine aC ?_|(refine dI (λx K hK=>?_);go_simp;refine hK _ _ (aB.alloc _ _) ?_;clear hK K;refine aZ x ?_;generalize (World.ah _ x).heap.size=bn;intro yn aU bD bC bG aS;clear x)|refine bH ?_|go_step)
  exact aA hd ⟨rfl,HH.out.jc (by simp)⟩
 ·rw[if_neg hq,if_neg hq]
  have HH:=Zh h
  have N7:∀ w',aB w w'→Pure Tryz.prog 117 #[.pointer (some ⟨b,0,none⟩),x.v] w' (.tuple #[.int .i64 (c.l7 x.a:Nat),.int .i64 0]):=λw' hE=>by have:=qA x (h.ah hE);rw[if_neg hq]at this;exact this
  have HPK:=Zh N7
  obtain⟨A0,h0,hF⟩:=h
  have Nc:=CW hq x.a
  obtain⟨y,hy,hym,hyi,hyo⟩:=h0.msg Nc
  try rw[←hym]
  have iZ:=dQ.at (enc:=xg) (k:=30) (λ_=>rfl) h0.iq hy
  have VX:A0.ms.length≤256:=by have:=h0.bU.Ql;rw[←h0.bm,List.length_map]at this;exact this
  have Xm:c.l7 x.a<A0.ms.length:=by rw[←h0.bm,List.length_map]at Nc;exact Nc
  generalize hi:c.l7 x.a=i at *
  have HA:=Zh h0
  have HF:=Zh hF
  have HY:=Zh hy
  have HYI:=Zh hyi
  have HYO:=Zh hyo
  clear h0 hF hq Nc hy hym hyi hyo hi N7
  clear iZ VX Xm
  refine Fi (n:=21) Tryz.func55 ?_;intro A hd hA;simp only[ix,Nat.reduceAdd]
  repeat'(first|refine aN Tryz.func117 (HPK.out _ (by simp)) ?_|refine aF ?_|refine au ?_|refine ak (λK hK=>?_)|refine aj ?_|refine aG ?_|(refine dI (λx K hK=>?_);go_simp;refine hK _ _ (aB.alloc _ _) ?_;clear hK K;refine aZ x ?_;generalize (World.ah _ x).heap.size=bn;intro yn aU bD bC bG aS;clear x)|refine bJ ?_|go_step)
  refine aX Tryz.func119 (X3 (HA.out.ah (by simp)) HF.out HY.out) (λr w1 hR=>?_)
  obtain⟨rfl,A1,h1,Pv,fM,hy1⟩:=hR
  have acA:eP w b F (c.lq i) w1:=eP.ext (w:=w) (by simp) ⟨fM,A1,h1,Pv⟩
  have ah0:=Zh acA
  have Jr:=OV (F:=λk=>F k∨w.heap.size≤k) (x:=y) h1 (λk hk=>(Pv k hk).imp id (λh=>Nat.le_trans (bF.size (F:=λ_=>False) (show aB w _ by simp)) h)) (hy1.rd HYO.out) (λk hk=>.inr (hy1.tv k hk)) HYO.out
  have kG:=Zh Jr
  clear h1 Pv fM hy1 acA Jr
  skip
  refine aX Tryz.func118 kG.out (λr w2 hR=>?_)
  obtain⟨rfl,JC⟩:=hR
  have jG:=Zh (ah0.out.then JC)
  clear JC
  repeat'(first|refine aF ?_|refine au ?_|refine aC ?_|go_step)
  exact aA hd ⟨rfl,jG.out⟩
theorem ZA {w:World} {b:Nat} {F:Nat→Prop} {c:aO} (x:bV) (h:iO w b F c):gK Tryz.prog 57 #[.pointer (some ⟨b,0,none⟩),x.v] w λr w'=>r=.int .i64 (if c.iq.length=0 then 5 else 0)∧eP w b F (if c.iq.length=0 then c else c.lq (c.l7 x.a)) w':=by
 by_cases hq:c.iq.length=0
 ·rw[if_pos hq,if_pos hq]
  have HH:=Zh h
  have N7:∀ w',aB w w'→Pure Tryz.prog 117 #[.pointer (some ⟨b,0,none⟩),x.v] w' (.tuple #[.int .i64 0,.int .i64 5]):=λw' hE=>by have:=qA x (h.ah hE);rw[if_pos hq]at this;exact this
  have HPK:=Zh N7
  clear h hq N7
  refine Fi (n:=19) Tryz.func57 ?_;intro A hd hA;simp only[ix,Nat.reduceAdd]
  repeat'(first|refine aN Tryz.func117 (HPK.out _ (by simp)) ?_|refine aF ?_|refine au ?_|refine ak (λK hK=>?_)|refine aj ?_|refine aC ?_|refine aG ?_|(refine dI (λx K hK=>?_);go_simp;refine hK _ _ (aB.alloc _ _) ?_;clear hK K;refine aZ x ?_;generalize (World.ah _ x).heap.size=bn;intro yn aU bD bC bG aS;clear x)|refine bJ ?_|go_step)
  exact aA hd ⟨rfl,HH.out.jc (by simp)⟩
 ·rw[if_neg hq,if_neg hq]
  have HH:=Zh h
  have N7:∀ w',aB w w'→Pure Tryz.prog 117 #[.pointer (some ⟨b,0,none⟩),x.v] w' (.tuple #[.int .i64 (c.l7 x.a:Nat),.int .i64 0]):=λw' hE=>by have:=qA x (h.ah hE);rw[if_neg hq]at this;exact this
  have HPK:=Zh N7
  obtain⟨A0,h0,hF⟩:=h
  have Nc:=CW hq x.a
  obtain⟨y,hy,hym,hyi,hyo⟩:=h0.msg Nc
  try rw[←hym]
  have iZ:=dQ.at (enc:=xg) (k:=30) (λ_=>rfl) h0.iq hy
  have VX:A0.ms.length≤256:=by have:=h0.bU.Ql;rw[←h0.bm,List.length_map]at this;exact this
  have Xm:c.l7 x.a<A0.ms.length:=by rw[←h0.bm,List.length_map]at Nc;exact Nc
  generalize hi:c.l7 x.a=i at *
  have HA:=Zh h0
  have HF:=Zh hF
  have HY:=Zh hy
  have HYI:=Zh hyi
  have HYO:=Zh hyo
  clear h0 hF hq Nc hy hym hyi hyo hi N7
  clear iZ VX Xm
  refine Fi (n:=19) Tryz.func57 ?_;intro A hd hA;simp only[ix,Nat.reduceAdd]
  repeat'(first|refine aN Tryz.func117 (HPK.out _ (by simp)) ?_|refine aF ?_|refine au ?_|refine ak (λK hK=>?_)|refine aj ?_|(refine dI (λx K hK=>?_);go_simp;refine hK _ _ (aB.alloc _ _) ?_;clear hK K;refine aZ x ?_;generalize (World.ah _ x).heap.size=bn;intro yn aU bD bC bG aS;clear x)|refine bH ?_|go_step)
  refine aX Tryz.func119 (X3 (HA.out.ah (by simp)) HF.out HY.out) (λr w1 hR=>?_)
  obtain⟨rfl,A1,h1,Pv,fM,hy1⟩:=hR
  have acA:eP w b F (c.lq i) w1:=eP.ext (w:=w) (by simp) ⟨fM,A1,h1,Pv⟩
  have ah0:=Zh acA
  clear h1 Pv fM hy1 acA
  repeat'(first|refine aF ?_|refine au ?_|refine ak (λK hK=>?_)|refine aj ?_|refine aC ?_|go_step)
  exact aA hd ⟨rfl,ah0.out⟩
theorem TI {w:World} {b:Nat} {F:Nat→Prop} {c:aO} (x:bV) (h:iO w b F c):gK Tryz.prog 56 #[.pointer (some ⟨b,0,none⟩),x.v] w λr w'=>r=.int .i64 (if c.iq.length=0 then 5 else(c.lC (c.iq.getD (c.l7 x.a) eu.zero)).2)∧eP w b F (if c.iq.length=0 then c else(c.lC (c.iq.getD (c.l7 x.a) eu.zero)).1) w':=by
 by_cases hq:c.iq.length=0
 ·rw[if_pos hq,if_pos hq]
  have HH:=Zh h
  have N7:∀ w',aB w w'→Pure Tryz.prog 117 #[.pointer (some ⟨b,0,none⟩),x.v] w' (.tuple #[.int .i64 0,.int .i64 5]):=λw' hE=>by have:=qA x (h.ah hE);rw[if_pos hq]at this;exact this
  have HPK:=Zh N7
  clear h hq N7
  refine Fi (n:=26) Tryz.func56 ?_;intro A hd hA;simp only[ix,Nat.reduceAdd]
  repeat'(first|refine aN Tryz.func117 (HPK.out _ (by simp)) ?_|refine aF ?_|refine au ?_|refine ak (λK hK=>?_)|refine aj ?_|refine aC ?_|(refine dI (λx K hK=>?_);go_simp;refine hK _ _ (aB.alloc _ _) ?_;clear hK K;refine aZ x ?_;generalize (World.ah _ x).heap.size=bn;intro yn aU bD bC bG aS;clear x)|refine bH ?_|go_step)
  exact aA hd ⟨rfl,HH.out.jc (by simp)⟩
 ·rw[if_neg hq,if_neg hq]
  have HH:=Zh h
  have N7:∀ w',aB w w'→Pure Tryz.prog 117 #[.pointer (some ⟨b,0,none⟩),x.v] w' (.tuple #[.int .i64 (c.l7 x.a:Nat),.int .i64 0]):=λw' hE=>by have:=qA x (h.ah hE);rw[if_neg hq]at this;exact this
  have HPK:=Zh N7
  obtain⟨A0,h0,hF⟩:=h
  have Nc:=CW hq x.a
  obtain⟨y,hy,hym,hyi,hyo⟩:=h0.msg Nc
  try rw[←hym]
  have iZ:=dQ.at (enc:=xg) (k:=30) (λ_=>rfl) h0.iq hy
  have VX:A0.ms.length≤256:=by have:=h0.bU.Ql;rw[←h0.bm,List.length_map]at this;exact this
  have Xm:c.l7 x.a<A0.ms.length:=by rw[←h0.bm,List.length_map]at Nc;exact Nc
  generalize hi:c.l7 x.a=i at *
  have HA:=Zh h0
  have HF:=Zh hF
  have HY:=Zh hy
  have HYI:=Zh hyi
  have HYO:=Zh hyo
  clear h0 hF hq Nc hy hym hyi hyo hi N7
  obtain⟨g,c',iZ,Dq,jT,Ib,iK⟩:=iZ
  obtain⟨hlt,-,-,-,-,-,c5⟩:=HA.out.cells
  rw[iZ]at c5
  have hii:(i:Int)<A0.ms.length:=by omega
  have HC:=Zh iK
  clear iK iZ
  refine Fi (n:=26) Tryz.func56 ?_;intro A hd hA;simp only[ix,Nat.reduceAdd]
  repeat'(first|refine aN Tryz.func117 (HPK.out _ (by simp)) ?_|refine aF ?_|refine au ?_|refine ak (λK hK=>?_)|refine aj ?_|refine aG ?_|(refine dI (λx K hK=>?_);go_simp;refine hK _ _ (aB.alloc _ _) ?_;clear hK K;refine aZ x ?_;generalize (World.ah _ x).heap.size=bn;intro yn aU bD bC bG aS;clear x)|refine bJ ?_|go_step)
  refine OU (off:=i *30) (cs:=xg y) (Nat.lt_of_lt_of_le Ib yn.ext.size) (λq u hu=>(bI yn.ext Ib (λh=>h)).trans (HC.out q u hu)) ?_ (hu:=Tryz.underlying104)
  skip
  refine aX Tryz.func84 (Gv ((HYI.out.rd HYO.out).ah yn.ext)) (λr w1 hR=>?_)
  obtain⟨kY,y1,ah1,rfl,hN⟩:=hR
  have YH:aB w w1:=Et yn.ext kY
  have adD:Gt c.ctl.form y1.m:=by rw[ah1];exact HYO.out
  have Jr:=OV (F:=F) (x:=y1) (HA.out.ah YH) HF.out ⟨dQ.rd (enc:=xK) (k:=1) (λ_=>rfl) hN.v,dQ.rd (enc:=cZ.cs) (k:=6) cZ.len hN.e,dQ.rd (enc:=xK) (k:=1) (λ_=>rfl) hN.a,Nat.le_trans adD.isr (by decide),Nat.le_trans adD.entries (by decide),Nat.le_trans adD.alter (by decide)⟩ (λk hk=>.inl (by
   have h1:=hN.fv k hk
   have h2:=yn.ext.size
   cases hTk:A0.T k with
   | zero=>rfl
   | succ n=>have:=HA.out.lt k (by omega);omega)) adD
  rw[ah1]at Jr
  have kG:=Zh Jr
  have apf:=Zh YH
  clear kY ah1 hN YH adD Jr
  skip
  refine aX Tryz.func118 kG.out (λr w2 hR=>?_)
  obtain⟨rfl,JC⟩:=hR
  have jG:=Zh (JC.ext apf.out)
  clear JC
  repeat'(first|refine aF ?_|refine au ?_|refine aC ?_|go_step)
  exact aA hd ⟨rfl,jG.out⟩
section
variable {P : Program} {Q : jo} {A : Act} {fl : List (Nat × Value)} {ops : Array Oper} {o : Oper} {w : World}
theorem wrap64 {x:Int} (h1: -9223372036854775808≤x) (h2:x<9223372036854775808):IntKind.wrap .i64 x=x:=by
 simp only[IntKind.wrap,IntKind.bits,IntKind.signed]
 simp
 omega
theorem X4 {rest:List (Oper×Nat)} {op:BinOp} {x y:Operand} {t ty:TypeId} {d:Nat} {a b v:Value} (h:jh P ops Q rest (fr ((d,v)::fl) A) w) (he:∀ W,(binOp op t a b).run P W=.ok v W)
  (jm:op≠ .eql∧op≠ .neq:=by decide) (ho:o.op=.binOp op t x y ty:=by rfl) (hd:o.dst=some d:=by rfl) (hg:o.guard=none:=by rfl)
  (hx:Is ((fr fl A).eval x) a:=by go_simp;exact Is.mk _) (hy:Is ((fr fl A).eval y) b:=by go_simp;exact Is.mk _):jh P ops Q ((o,0)::rest) (fr fl A) w:=
 aF h hd hg λX=>by
  unfold Oper.quietAt execOp
  simp only[ho,hx.eq,hy.eq]
  have:∀ W,(eqGuard op t x y a b).run P W=.ok () W:=λW=>by cases op<;>first|rfl|exact absurd rfl jm.1|exact absurd rfl jm.2
  simp only[Sem.run_bind,this,he,Result.andThen_ok,Sem.run_pure,Oper.quietUpon]
  exact⟨trivial,trivial⟩
theorem X5 {n:Nat} {x q:Int} (hn:n≤30) (hq:q=x/2^n) (t:TypeId) (W:World):(binOp .shr t (.int .i64 x) (.int .i64 n)).run P W=.ok (.int .i64 q) W:=by
 have h1:¬ (n:Int)<0:=by omega
 have h2:min ((n:Int)).toNat (IntKind.bits .i64)=n:=by show min ((n:Int)).toNat 64=n;omega
 have h4:(0:Int)<2^n:=by exact_mod_cast Nat.pow_pos (by decide:0<2)
 show (Op.shift .shr .i64 x .i64 n).run P W=_
 unfold Op.shift
 rw[if_neg h1]
 simp only[h2]
 rw[Int.fdiv_eq_ediv_of_nonneg _ (by omega),←hq]
 rfl
theorem TJ {x r:Int} (hx:0≤x) (hx2:x<9223372036854775808) (hr:r=x%2) (t:TypeId) (W:World):(binOp .and t (.int .i64 x) (.int .i64 1)).run P W=.ok (.int .i64 r) W:=by
 have e:binOp .and t (.int .i64 x) (.int .i64 1)=Op.intBits .and .i64 x 1:=rfl
 rw[e]
 unfold Op.intBits
 obtain⟨n,rfl⟩:∃ n:Nat,x=n:=⟨x.toNat,by omega⟩
 have:(BitVec.ofInt (IntKind.bits .i64) (n:Int) &&& BitVec.ofInt (IntKind.bits .i64) 1).toNat=n%2:=by
  show (BitVec.ofInt 64 (n:Int) &&& BitVec.ofInt 64 1).toNat=n%2
  rw[BitVec.toNat_and]
  have e1:(BitVec.ofInt 64 (n:Int)).toNat=n:=by rw[BitVec.ofInt_natCast,BitVec.toNat_ofNat];omega
  have e2:(BitVec.ofInt 64 1).toNat=1:=by decide
  rw[e1,e2,Nat.and_one_is_mod]
 simp only[this]
 rw[wrap64 (by omega) (by omega)]
 have:((n%2:Nat):Int)=r:=by omega
 rw[this];rfl
end
theorem ZB (x:Int) (p:Nat):((List.range (p+1)).map Int.ofNat).filter (λb=>x/2^b.toNat%2==1)=((List.range p).map Int.ofNat).filter (λb=>x/2^b.toNat%2==1)++(if x/2^p%2=1 then [(p:Int)] else []):=by
 rw[List.range_succ,List.map_append,List.filter_append]
 congr 1
 show List.filter _ [(p:Int)]=_
 by_cases h:x/2^p%2=1
 ·rw[if_pos h];simp[h]
 ·rw[if_neg h];simp[h]
theorem ae3 (x:Int) (p:Nat):(((List.range p).map Int.ofNat).filter (λb=>x/2^b.toNat%2==1)).length≤p:=by
 refine Nat.le_trans (List.length_filter_le _ _) ?_
 simp
theorem Qq {w:World} {b:Nat} {F:Nat→Prop} {c:aO} (x:bV) (h:iO w b F c):gK Tryz.prog 52 #[.pointer (some ⟨b,0,none⟩),x.v] w λr w'=>r=.int .i64 (if(c.ctl.part x.a&&c.ctl.aV x.b)=false then 2 else(if x.c<0∨2^c.ctl.form.aK.toNat≤x.c then 2 else(c.rep x.a x.b).jS (aO.lK c.ctl.form.aK x.c)))∧eP w b F (if(c.ctl.part x.a&&c.ctl.aV x.b)=false then c else(if x.c<0∨2^c.ctl.form.aK.toNat≤x.c then c else if(c.rep x.a x.b).jS (aO.lK c.ctl.form.aK x.c)=0 then(c.aP x.a x.b ((c.rep x.a x.b).qV (aO.lK c.ctl.form.aK x.c))).put {eu.zero with kind:=4,to:= -1,part:=x.a,alter:=(c.rep x.a x.b).alter (aO.lK c.ctl.form.aK x.c)} else c.aP x.a x.b ((c.rep x.a x.b).qV (aO.lK c.ctl.form.aK x.c)))) w':=by
 by_cases hq:(c.ctl.part x.a&&c.ctl.aV x.b)=false
 ·rw[if_pos hq,if_pos hq]
  have HH:=Zh h
  have HQ:=Zh hq
  clear h hq
  refine Fi (n:=68) Tryz.func52 ?_;intro A hd hA;simp only[ix,Nat.reduceAdd]
  repeat'(first|refine aN Tryz.func111 (OO x (HH.out.ah (by simp)) HQ.out) ?_|refine aF ?_|refine au ?_|refine ak (λK hK=>?_)|refine aj ?_|(refine dI (λx K hK=>?_);go_simp;refine hK _ _ (aB.alloc _ _) ?_;clear hK K;refine aZ x ?_;generalize (World.ah _ x).heap.size=bn;intro yn aU bD bC bG aS;clear x)|go_step)
  refine dA (by kernel_rfl) (by kernel_rfl) ?_
  repeat'(first|refine aF ?_|refine mg ?_|refine jF ?_|refine aQ ?_|refine au ?_|refine ak (λK hK=>?_)|refine aj ?_|refine aC ?_|refine bH ?_|go_step)
  exact aA hd ⟨rfl,HH.out.jc (by simp)⟩
 ·rw[if_neg hq,if_neg hq]
  have jM:c.ctl.part x.a=true∧c.ctl.aV x.b=true:=by simpa using hq
  obtain⟨kind,xa,xb,xc⟩:=x
  dsimp only at jM
  obtain⟨p,rfl⟩:∃ p:Nat,xa=p:=⟨xa.toNat,by have:=fV jM.1;omega⟩
  obtain⟨i,rfl⟩:∃ i:Nat,xb=i:=⟨xb.toNat,by have:=dV jM.2;omega⟩
  have BP:=fV jM.1
  have JL:=dV jM.2
  have HH:=Zh h
  obtain⟨A0,h0,hF⟩:=h
  obtain⟨u,ps,q,-,wK,-,-,FM,-,jy,gu⟩:=h0.rep (p:=p) (i:=i) (by omega) (by omega)
  have Kq:=gB.dX h0.bU.ctl.right
  obtain⟨n,hn⟩:∃ n:Nat,c.ctl.form.aK=n:=⟨c.ctl.form.aK.toNat,by omega⟩
  have bG:n≤4:=by omega
  obtain⟨hlt,c0,-⟩:=h0.cells
  rw[hn]at c0
  have hnn:c.ctl.form.aK.toNat=n:=by omega
  have HA:=Zh h0
  have HF:=Zh hF
  have J3:=Zh wK
  have J4:=Zh FM
  have qy:=Zh jy
  have oW:=Zh gu
  have Jp:p<c.ctl.form.parts.toNat:=by omega
  have ou:i<c.ctl.form.aK.toNat:=by omega
  have Zx:=Zh Jp
  have Lp:=Zh ou
  have CZ:=Zh jM
  have HN:=Zh hn
  dsimp only
  rw[hnn]
  obtain⟨N,hN⟩:∃ N:Int,N=2^n:=⟨_,rfl⟩
  have awF:N≤16:=by
   rw[hN]
   exact_mod_cast (Nat.pow_le_pow_right (by decide:0<2) bG:2^n≤2^4)
  rw[←hN]
  have awG:RowKit.wrap64 (2^min n 64)=N:=by
   rw[show min n 64=n by omega,←hN]
   have:0<N:=by rw[hN];exact_mod_cast Nat.pow_pos (by decide:0<2)
   unfold RowKit.wrap64;omega
  have HNN:=Zh (And.intro bG hN)
  have hbo:aO.lK c.ctl.form.aK xc=((List.range n).map Int.ofNat).filter (λb=>xc/2^b.toNat%2==1):=by
   unfold aO.lK qU;rw[hn];simp
  rw[hbo]
  clear h0 hF hq wK FM jy gu BP JL Jp ou jM Kq hn hnn hN hbo bG
  by_cases hx0:xc<0
  ·rw[if_pos (.inl hx0),if_pos (.inl hx0)]
   refine Fi (n:=68) Tryz.func52 ?_;intro A hd hA;simp only[ix,Nat.reduceAdd]
   repeat'(first|refine aN Tryz.func111 (CX ⟨kind,(p:Int),(i:Int),xc⟩ (HA.out.ah (by simp)) rfl rfl CZ.out.1 CZ.out.2 J3.out J4.out) ?_|refine aF ?_|refine au ?_|refine ak (λK hK=>?_)|refine aj ?_|(refine dI (λx K hK=>?_);go_simp;refine hK _ _ (aB.alloc _ _) ?_;clear hK K;refine aZ x ?_;generalize (World.ah _ x).heap.size=bn;intro yn aU bD bC bG aS;clear x)|go_step)
   refine dA (by kernel_rfl) (by kernel_rfl) ?_
   repeat'(first|refine dw ?_|refine aF ?_|refine mg ?_|refine jF ?_|refine aQ ?_|refine au ?_|refine ak (λK hK=>?_)|refine aj ?_|refine aC ?_|refine bH ?_|go_step)
   exact aA hd ⟨rfl,HH.out.jc (by simp)⟩
  ·by_cases hxN:N≤xc
   ·rw[if_pos (.inr hxN),if_pos (.inr hxN)]
    refine Fi (n:=68) Tryz.func52 ?_;intro A hd hA;simp only[ix,Nat.reduceAdd]
    repeat'(first|refine aN Tryz.func111 (CX ⟨kind,(p:Int),(i:Int),xc⟩ (HA.out.ah (by simp)) rfl rfl CZ.out.1 CZ.out.2 J3.out J4.out) ?_|refine aF ?_|refine au ?_|refine ak (λK hK=>?_)|refine aj ?_|(refine dI (λx K hK=>?_);go_simp;refine hK _ _ (aB.alloc _ _) ?_;clear hK K;refine aZ x ?_;generalize (World.ah _ x).heap.size=bn;intro yn aU bD bC bG aS;clear x)|go_step)
    refine dA (by kernel_rfl) (by kernel_rfl) ?_
    repeat'(first|refine dw ?_|refine aF ?_|refine aQ ?_|refine au ?_|refine ak (λK hK=>?_)|refine aj ?_|refine aC ?_|refine bH ?_|go_step)
    exact aA hd ⟨rfl,HH.out.jc (by simp)⟩
   ·rw[if_neg (by omega),if_neg (by omega)]
    have HNX:Hid (xc<16):=Zh (by omega)
    refine Fi (n:=68) Tryz.func52 ?_;intro A hd hA;simp only[ix,Nat.reduceAdd]
    repeat'(first|refine aN Tryz.func111 (CX ⟨kind,(p:Int),(i:Int),xc⟩ (HA.out.ah (by simp)) rfl rfl CZ.out.1 CZ.out.2 J3.out J4.out) ?_|refine aF ?_|refine au ?_|refine ak (λK hK=>?_)|refine aj ?_|(refine dI (λx K hK=>?_);go_simp;refine hK _ _ (aB.alloc _ _) ?_;clear hK K;refine aZ x ?_;generalize (World.ah _ x).heap.size=bn;intro yn aU bD bC bG aS;clear x)|go_step)
    refine dA (by kernel_rfl) (by kernel_rfl) ?_
    repeat'(first|refine dw ?_|refine aF ?_|refine aQ ?_|refine au ?_|refine ak (λK hK=>?_)|refine aj ?_|refine aG ?_|refine aJ ?_|refine bJ ?_|go_step)
    have HBX:=Zh (cO.new aS.out)
    have hwb:w.heap.size≤bn:=aU
    clear aU bD bC bG aS hxN
    refine dJ [0,3,5,7,38,39] (λm vs w'=>∃ j:Nat,∃u:Value,j+m=n∧vs=[.pointer (some ⟨b,0,none⟩),.pointer (some ⟨bn,0,none⟩),.pointer (some ⟨q,0,none⟩),u,.int .i64 n,.int .i64 j]∧aB (w.ah yn) w'∧ig w' u (((List.range j).map Int.ofNat).filter (λb=>xc/2^b.toNat%2==1))∧∀ k,u.ownBlock=some k→(w.ah yn).heap.size≤k) n hd hA (by decide) ⟨0,.slice none 0 0,by omega,by simp[jW],aB.refl _,dQ.nil (enc:=xK) (k:=1) _,λk hk=>absurd hk (by simp[Value.ownBlock])⟩ ?_
    clear hd hA A;intro m vs A w' hd hA _ ⟨j,uj,hj,jk,hEj,hOj,hFj⟩;subst jk
    obtain⟨yj,rfl⟩:=hEj.get
    have HOJ:=Zh hOj
    have HFJ:=Zh hFj
    have Js:=ae3 xc j
    have HBL:=Zh Js
    clear hEj hOj hFj Js
    have O8:=HBX.out.lt
    have z1:=(HBX.out.ah yj.ext).cell (k:=1) (by simp)
    have z3:=(HBX.out.ah yj.ext).cell (k:=3) (by simp)
    simp at z1 z3
    have YI:bn<((w.ah yn).ah yj).heap.size:=Nat.lt_of_lt_of_le O8 yj.ext.size
    obtain⟨Aj,lj,cj,rfl⟩:=aT HOJ.out
    simp only[List.zip_cons_cons,List.zip_nil_right,List.zip_nil_left]
    by_cases hjn:j<n
    ·have oM:(j:Int)<(n:Int):=by omega
     have hj4:(j:Int)<4:=by have:=HNN.out.1;omega
     have Px:=ZB xc j
     have LX:=Zh Px
     clear Px
     have h2j:(0:Int)<2^j:=by exact_mod_cast Nat.pow_pos (by decide:0<2)
     obtain⟨sq,hsq⟩:∃ sq:Int,sq=xc/2^j:=⟨_,rfl⟩
     have ak6:0≤sq:=by rw[hsq];exact Int.ediv_nonneg (by omega) (by omega)
     have ak7:sq<9223372036854775808:=by
      have:sq≤xc:=by rw[hsq];exact Int.ediv_le_self _ (by omega)
      have:=HNX.out
      omega
     obtain⟨r,hr⟩:∃ r:Int,r=sq%2:=⟨_,rfl⟩
     have HSQ:=Zh hsq
     have HSB:=Zh (And.intro ak6 ak7)
     have HR:=Zh hr
     have ak8:j≤30:=by have:=HNN.out.1;omega
     have ak9:=Zh ak8
     clear h2j hsq ak6 ak7 hr ak8
     by_cases QV:r=1
     ·subst QV
      rw[if_pos (by rw[←HSQ.out,←HR.out])]at LX
      repeat'(first|(first|refine X4 ?_ (X5 ak9.out HSQ.out _)|refine X4 ?_ (TJ HSB.out.1 HSB.out.2 HR.out _))|refine aF ?_|refine au ?_|refine ak (λK hK=>?_)|refine aj ?_|refine aG ?_|refine aJ ?_|(refine dI (λx K hK=>?_);go_simp;refine hK _ _ (aB.alloc _ _) ?_;clear hK K;refine aZ x ?_;generalize (World.ah _ x).heap.size=bn;intro yn aU bD bC bG aS;clear x)|refine bH ?_|go_step)
      refine nZ (xs:=((List.range j).map Int.ofNat).filter (λb=>xc/2^b.toNat%2==1)) (ys:=[(j:Int)]) xU (HOJ.out.ah (by simp)) (Rd.one (x:=(j:Int)) bD bC rfl) (by have:=HBL.out;simp at this ⊢;omega) (by have:=HBL.out;unfold maxLen;simp at this ⊢;omega) (λv' W4 wO uP J5 hN4=>?_)
      have fD:=aB.bK (by simp) wO (λk hk=>HFJ.out k hk)
      have Vu:=Zh fD
      have HO4:=Zh uP
      have BF:∀ k,v'.ownBlock=some k→(w.ah _).heap.size≤k:=λk hk=>by
       rcases J5 with h|⟨g,h,hg⟩
       ·rw[h]at hk;exact HFJ.out k hk
       ·rw[h]at hk;obtain rfl:=Option.some.inj hk;exact Nat.le_trans (bF.size (F:=λ_=>False) (show aB _ _ by simp)) hg
      have MS:=Zh BF
      clear wO uP J5 hN4 fD BF
      repeat'(first|refine aF ?_|refine au ?_|refine aj ?_|go_step)
      exact⟨_,_,rfl,hd,hA,m-1,by omega,j+1,v',by omega,by simp[jW],Vu.out,by rw[LX.out];exact HO4.out,MS.out⟩
     ·obtain rfl:r=0:=by have:=HR.out;omega
      repeat'(first|(first|refine X4 ?_ (X5 ak9.out HSQ.out _)|refine X4 ?_ (TJ HSB.out.1 HSB.out.2 HR.out _))|refine aF ?_|refine au ?_|refine ak (λK hK=>?_)|refine aj ?_|refine aG ?_|refine aJ ?_|refine bH ?_|refine bJ ?_|go_step)
      rw[if_neg (by rw[←HSQ.out,←HR.out];decide),List.append_nil]at LX
      exact⟨_,_,rfl,hd,hA,m-1,by omega,j+1,_,by omega,by simp[jW],by simp,by rw[LX.out];exact HOJ.out,HFJ.out⟩
    ·obtain rfl:j=n:=by omega
     repeat'(first|refine aF ?_|refine au ?_|refine ak (λK hK=>?_)|refine aj ?_|refine dS ?_|refine bJ ?_|go_step)
     have iR:=HBL.out
     have hbo:aO.lK c.ctl.form.aK xc=((List.range j).map Int.ofNat).filter (λb=>xc/2^b.toNat%2==1):=by
      unfold aO.lK qU;rw[HN.out];simp
     generalize hL:((List.range j).map Int.ofNat).filter (λb=>xc/2^b.toNat%2==1)=L at *
     have HLL:=Zh hL
     have xP:aB w ((w.ah yn).ah yj):=by simp
     refine aX Tryz.func115 (Ti (l:=L) (qy.out.ah xP) oW.out.bU.ne oW.out.bU.Y6 (dQ.rd (enc:=xK) (k:=1) (λ_=>rfl) HOJ.out) (by have:=HNN.out.1;omega) (λk hk=>.inr (λe=>by
      have h1:=HFJ.out k hk
      have h2:=HA.out.lt k (by omega)
      have h3:=yn.ext.size
      omega))) (λr w2 hR=>?_)
     obtain⟨⟨u',rfl,hru⟩,hM,AU⟩:=hR
     have bP:=HA.out.Jb HF.out xP Zx.out Lp.out J3.out J4.out hM AU (Ij oW.out L)
     have jG:=Zh bP
     have hll:=OM (c.rep (p:Int) (i:Int)) L
     have Xe:Hid (((c.rep (p:Int) (i:Int)).alter L).isr.length≤1000):=Zh (by have:=HNN.out.1;omega)
     obtain⟨Au,cu,rfl,-⟩:=hru.int
     have MV:=Zh hru
     have Gx:Hid ((c.aP (p:Int) (i:Int) ((c.rep (p:Int) (i:Int)).qV L)).ctl=c.ctl):=Zh rfl
     have Iu:¬ A0.T bn=16+4 *p+i:=λe=>by
      have h2:=HA.out.lt bn (by omega)
      omega
     replace z1:=(bI hM (o:=1) YI Iu).trans z1
     have Yj:bn<w2.heap.size:=Nat.lt_of_lt_of_le YI hM.size
     have UU:w.heap.size≤w2.heap.size:=Nat.le_trans xP.size hM.size
     clear bP hM AU hru iR hL hll xP HBL z3 c0 YI O8 Iu
     by_cases bT:(c.rep (p:Int) (i:Int)).jS L=0
     ·have KJ:=Zh bT
      rw[bT]
      clear bT hbo
      repeat'(first|refine aF ?_|refine au ?_|(refine jr (λyn bn aU bD bC bG aS=>?_))|refine ak (λK hK=>?_)|refine aj ?_|refine bH ?_|go_step)
      refine aX Tryz.func106 (Ak (x:=⟨{eu.zero with kind:=4,to:= -1,part:=(p:Int),alter:=(c.rep (p:Int) (i:Int)).alter L},.slice none 0 0,.slice none 0 0,.slice Au ((c.rep (p:Int) (i:Int)).alter L).isr.length cu⟩) (jG.out.2.ah (by simp)) ⟨Rd.nil _,Rd.nil _,MV.out.ah (by simp),Nat.zero_le _,Nat.zero_le _,Nat.le_trans Xe.out (by decide)⟩ ⟨by show (1:Int)≤4∧(4:Int)≤7;decide,by rw[Gx.out];exact fV CZ.out.1,(λe=>by cases e),λ_=>rfl,Nat.zero_le _,Nat.zero_le _,Xe.out⟩) (λr w3 hR=>?_)
      obtain⟨rfl,bP⟩:=hR
      have JD:=Zh (jG.out.then (bP.ext (by simp)))
      clear bP
      repeat'(first|refine aF ?_|refine au ?_|refine ak (λK hK=>?_)|refine aj ?_|refine aC ?_|go_step)
      exact aA hd ⟨by rw[KJ.out],by rw[if_pos KJ.out];exact JD.out⟩
     ·have KJ:=Zh bT
      have Iu:(((c.rep (p:Int) (i:Int)).jS L)==0)=false:=by simpa using bT
      clear bT hbo
      repeat'(first|refine aF ?_|refine au ?_|(refine jr (λyn bn aU bD bC bG aS=>?_))|refine ak (λK hK=>?_)|refine aj ?_|refine aC ?_|refine aG ?_|refine bJ ?_|go_step)
      exact aA hd ⟨rfl,by rw[if_neg KJ.out];exact jG.out.ah (by simp)⟩
theorem Aq (i:Int) (wr:bW) (p:Int):∀ (l:List Int) (c:aO),aO.iY i wr (l++[p]) c=if 0≤((aO.iY i wr l c).ctl.view p).leader then(aO.iY i wr l c).put (aO.zX i wr p ((aO.iY i wr l c).ctl.view p).leader) else aO.iY i wr l c
 | [],c=>rfl
 | q::l,c=>by
  show aO.iY i wr (l++[p]) _=_
  rw[Aq i wr p l];rfl
theorem C9 (i:Int) (wr:bW):∀ (l:List Int) (c:aO),(aO.iY i wr l c).ctl=c.ctl
 | [],c=>rfl
 | q::l,c=>by
  show (aO.iY i wr l _).ctl=_
  rw[C9 i wr l]
  split
  ·unfold aO.put;split<;>rfl
  ·rfl
theorem Wl {c:aO} (h:c.dH) {i:Int} (hi:c.ctl.id i=true):kU c.ctl.form (c.ctl.ay i):=by
 have hid:=hi
 simp only[aH.id,Bool.and_eq_true,decide_eq_true_eq]at hid
 have h1:=h.ctl.DT
 have h2:=gB.dX h.ctl.right
 unfold aH.ay
 rw[List.getD_eq_getElem?_getD,List.getElem?_eq_getElem (by omega)]
 exact h.ctl.eY _ (List.getElem_mem _)
theorem TK {c:aO} (h:c.dH) {i:Int} (hi:c.ctl.part i=true):rJ c.ctl.form (c.ctl.view i):=by
 have hid:=fV hi
 have h1:=h.ctl.xQ
 have h2:=gB.dX h.ctl.right
 unfold aH.view
 rw[List.getD_eq_getElem?_getD,List.getElem?_eq_getElem (by omega)]
 exact h.ctl.views _ (List.getElem_mem _)
theorem ZC {w:World} {b:Nat} {F:Nat→Prop} {c:aO} (x:bV) (h:iO w b F c):gK Tryz.prog 53 #[.pointer (some ⟨b,0,none⟩),x.v] w λr w'=>r=.int .i64 (c.mark x.a).2∧eP w b F (c.mark x.a).1 w':=by
 obtain⟨kind,i,xb,xc⟩:=x
 dsimp only
 have HH:=Zh h
 obtain⟨A0,h0,hF⟩:=h
 have HA:=Zh h0
 have HF:=Zh hF
 obtain⟨hlt,-,-,-,cm3,-,-⟩:=h0.cells
 clear h0 hF
 by_cases hid:c.ctl.id i=false
 ·have Tv:=Zh hid
  have pY:c.mark i=(c,2):=by unfold aO.mark;rw[if_pos hid]
  rw[pY]
  clear hid pY
  refine Fi (n:=64) Tryz.func53 ?_;intro A hd hA;simp only[ix,Nat.reduceAdd]
  (repeat'(first|refine ak (λK hK=>?_)|refine aj ?_|fail));(refine dI (λx K hK=>?_);go_simp;refine hK _ _ (aB.alloc _ _) ?_;clear hK K;refine aZ x ?_;generalize (World.ah _ x).heap.size=b3;intro yn aU bD bC bG aS;clear x);have qJ:=Zh (cO.new aS.out);have pI:=Zh yn.ext;have qQ:(World.heap w).size≤b3:=aU;generalize World.ah w yn=W0 at *;clear aU bD bC bG aS yn
  have xI:=qJ
  obtain⟨y0,rfl⟩:=pI.out.get
  have Xt:w.heap.size≤b3:=qQ
  have z1:=xI.out.cell (k:=1) (by simp)
  simp at z1
  have O8:=xI.out.lt
  clear qJ pI qQ
  repeat'(first|refine aF ?_|refine au ?_|refine ak (λK hK=>?_)|go_step)
  refine A8 [0,3,5,6] (λvs W'=>aB (w.ah y0) W'∧∃ bv u,vs=[.pointer (some ⟨b,0,none⟩),.pointer (some ⟨b3,0,none⟩),.pointer (some ⟨bv,0,none⟩),.int .i64 2]∧(w.ah y0).heap.size≤bv∧cO W' bv 148 6 (put (λk=> #[Value.int .i64 0,.int .i64 0,.int .i64 0,.slice none 0 0,.int .i64 0,.int .i64 0].getD k undef) 0 [.int .i64 0,.int .i64 0,.int .i64 0,u,.int .i64 0,.int .i64 0])) hd hA (by decide) ?_ ?_
  ·refine vg [11] (by kernel_rfl) ?_
   refine iH (i:=0) ?_
   refine iH (i:=1) ?_
   refine iH (i:=2) ?_
   refine iH (i:=3) ?_
   refine iH (i:=4) ?_
   refine iH (i:=5) ?_
   refine dP (i:=6) (rs:=[10]) (dh ?_ (dh ?_ fG))
   ·refine jl (R:=λw0 r w'=>aB w0 w'∧r=.tuple #[.agg #[.int .i64 0,.int .i64 0,.int .i64 0,.slice none 0 0,.int .i64 0,.int .i64 0],.int .i64 2]) Tryz.func89 (λz=>zV (HA.out.ctl.ah (Et y0.ext z.ext)) Tv.out) (λz r w4 hR=>?_)
    obtain⟨fD,rfl⟩:=hR
    refine⟨fD,?_⟩
    replace fD:=Et z.ext fD
    refine iH (i:=7) ?_
    refine iH (i:=8) ?_
    refine iH (i:=9) ?_
    refine Oc (i:=10) (λq K hK=>?_)
    go_simp;refine hK _ _ _ (aB.alloc _ _) (aB.refl _) ?_;clear hK K;refine qN q ?_;generalize (World.ah _ q).heap.size=bv;intro yb k1 k2 k3 k4 k5;clear q
    have uw:=Zh (cO.new k5.out)
    have UU:(w.ah y0).heap.size≤w4.heap.size:=fD.size
    have qK:(w.ah y0).heap.size≤bv:=Nat.le_trans UU k1
    have lX:=Zh (Et fD yb.ext)
    refine dP (i:=11) (rs:=[]) (dh (mF (off:=0) uw.out (λW6 jP nY=>?_)) fG)
    refine iH (i:=12) ?_
    exact oG (by kernel_rfl) ⟨rfl,_,_,rfl,hd,hA,aB.bK lX.out jP (λk hk=>by subst hk;exact qK),bv,.slice none 0 0,by simp[jW],qK,nY⟩
   ·refine S_s (λq K hK=>?_)
    go_simp;refine hK _ _ _ (aB.alloc _ _) (aB.refl _) ?_;clear hK K;refine qN q ?_;generalize (World.ah _ q).heap.size=bv;intro yb k1 k2 k3 k4 k5;clear q
    have qK:(w.ah y0).heap.size≤bv:=k1
    have Wh:bv<((w.ah y0).ah yb).heap.size:=k2
    refine dP (i:=6) (rs:=[]) (dh ?_ fG)
    refine jl (R:=λw0 r w'=>aB w0 w'∧r=.tuple #[.agg #[.int .i64 0,.int .i64 0,.int .i64 0,.slice none 0 0,.int .i64 0,.int .i64 0],.int .i64 2]) Tryz.func89 (λz=>zV (HA.out.ctl.ah (Et y0.ext (Et yb.ext z.ext))) Tv.out) (λz r w4 hR=>?_)
    obtain⟨fD,rfl⟩:=hR
    refine⟨fD,?_⟩
    replace fD:=Et z.ext fD
    refine iH (i:=7) ?_
    refine iH (i:=8) ?_
    refine iH (i:=9) ?_
    have uw:=Zh ((cO.new k5.out).ah fD)
    have Kr:=z.ext.size
    have lX:=Zh (Et yb.ext fD)
    refine dP (i:=11) (rs:=[]) (dh (mF (off:=0) uw.out (λW6 jP nY=>?_)) fG)
    refine iH (i:=12) ?_
    exact oG (by kernel_rfl) ⟨rfl,_,_,rfl,hd,hA,aB.bK lX.out jP (λk hk=>by subst hk;exact qK),bv,.slice none 0 0,by simp[jW],qK,nY⟩
  ·clear hd hA A
   intro vs A W' hd hA ⟨xM,bv,u9,jk,qK,vF⟩
   subst jk
   simp only[List.zip_cons_cons,List.zip_nil_right,List.zip_nil_left]
   obtain⟨y9,rfl⟩:=xM.get
   have v1:=vF.cell (k:=1) (by omega)
   have v2:=vF.cell (k:=2) (by omega)
   have v3:=vF.cell (k:=3) (by omega)
   simp[put]at v1 v2 v3
   have hlv:=vF.lt
   clear xM
   clear vF
   refine hK _ _ ?_
   repeat'(first|refine aF ?_|refine au ?_|refine ak (λK hK=>?_)|refine aj ?_|refine aC ?_|refine bH ?_|go_step)
   exact aA hd ⟨rfl,HH.out.jc (by simp)⟩
 ·have hid:c.ctl.id i=true:=by simpa using hid
  have Tv:=Zh hid
  have hwk:=Wl HH.out.bU hid
  have HWK:=Zh hwk
  by_cases hs:(c.ctl.ay i).state<3
  ·have pY:c.mark i=(c,5):=by unfold aO.mark;rw[if_neg (by simp[hid]),if_pos hs]
   rw[pY]
   have ala:((c.ctl.ay i).state==3)=false:=by simp;omega
   have alb:((c.ctl.ay i).state==4)=false:=by simp;omega
   clear hid pY hwk
   refine Fi (n:=64) Tryz.func53 ?_;intro A hd hA;simp only[ix,Nat.reduceAdd]
   (repeat'(first|refine ak (λK hK=>?_)|refine aj ?_|fail));(refine dI (λx K hK=>?_);go_simp;refine hK _ _ (aB.alloc _ _) ?_;clear hK K;refine aZ x ?_;generalize (World.ah _ x).heap.size=b3;intro yn aU bD bC bG aS;clear x);have qJ:=Zh (cO.new aS.out);have pI:=Zh yn.ext;have qQ:(World.heap w).size≤b3:=aU;generalize World.ah w yn=W0 at *;clear aU bD bC bG aS yn
   have xI:=qJ
   obtain⟨y0,rfl⟩:=pI.out.get
   have Xt:w.heap.size≤b3:=qQ
   have z1:=xI.out.cell (k:=1) (by simp)
   simp at z1
   have O8:=xI.out.lt
   clear qJ pI qQ
   repeat'(first|refine aF ?_|refine au ?_|refine ak (λK hK=>?_)|go_step)
   refine A8 [0,3,5,6] (λvs W'=>aB (w.ah y0) W'∧∃ bv u,vs=[.pointer (some ⟨b,0,none⟩),.pointer (some ⟨b3,0,none⟩),.pointer (some ⟨bv,0,none⟩),.int .i64 0]∧(w.ah y0).heap.size≤bv∧cO W' bv 148 6 (put (λk=> #[Value.int .i64 0,.int .i64 0,.int .i64 0,.slice none 0 0,.int .i64 0,.int .i64 0].getD k undef) 0 [.int .i64 (c.ctl.ay i).session,.int .i64 (c.ctl.ay i).num,.int .i64 (c.ctl.ay i).state,u,.int .i64 (c.ctl.ay i).offset,.int .i64 (c.ctl.ay i).next])∧ig W' u (c.ctl.ay i).parts) hd hA (by decide) ?_ ?_
   ·refine vg [11] (by kernel_rfl) ?_
    refine iH (i:=0) ?_
    refine iH (i:=1) ?_
    refine iH (i:=2) ?_
    refine iH (i:=3) ?_
    refine iH (i:=4) ?_
    refine iH (i:=5) ?_
    refine dP (i:=6) (rs:=[10]) (dh ?_ (dh ?_ fG))
    ·refine jl (R:=λw0 r w'=>aB w0 w'∧∃ u,r=.tuple #[.agg #[.int .i64 (c.ctl.ay i).session,.int .i64 (c.ctl.ay i).num,.int .i64 (c.ctl.ay i).state,u,.int .i64 (c.ctl.ay i).offset,.int .i64 (c.ctl.ay i).next],.int .i64 0]∧ig w' u (c.ctl.ay i).parts∧∀ k,u.ownBlock=some k→w0.heap.size≤k) Tryz.func89 (λz=>lY (HA.out.ctl.ah (Et y0.ext z.ext)) Tv.out) (λz r w4 hR=>?_)
     obtain⟨fD,u4,rfl,uP,J5⟩:=hR
     refine⟨fD,?_⟩
     replace fD:=Et z.ext fD
     obtain⟨A4,m4,c4,rfl⟩:=aT uP
     refine iH (i:=7) ?_
     refine iH (i:=8) ?_
     refine iH (i:=9) ?_
     refine Oc (i:=10) (λq K hK=>?_)
     go_simp;refine hK _ _ _ (aB.alloc _ _) (aB.refl _) ?_;clear hK K;refine qN q ?_;generalize (World.ah _ q).heap.size=bv;intro yb k1 k2 k3 k4 k5;clear q
     have uw:=Zh (cO.new k5.out)
     have UU:(w.ah y0).heap.size≤w4.heap.size:=fD.size
     have qK:(w.ah y0).heap.size≤bv:=Nat.le_trans UU k1
     have lX:=Zh (Et fD yb.ext)
     have JJ:(Value.slice A4 m4 c4).ownBlock≠some bv:=λe=>by have:=uP.lt bv e;omega
     have Il:=Zh (uP.ah yb.ext)
     refine dP (i:=11) (rs:=[]) (dh (mF (off:=0) uw.out (λW6 jP nY=>?_)) fG)
     refine iH (i:=12) ?_
     exact oG (by kernel_rfl) ⟨rfl,_,_,rfl,hd,hA,aB.bK lX.out jP (λk hk=>by subst hk;exact qK),bv,.slice A4 m4 c4,by simp[jW],qK,nY,Il.out.aW jP (λk hk e=>by subst e;exact JJ hk)⟩
    ·refine S_s (λq K hK=>?_)
     go_simp;refine hK _ _ _ (aB.alloc _ _) (aB.refl _) ?_;clear hK K;refine qN q ?_;generalize (World.ah _ q).heap.size=bv;intro yb k1 k2 k3 k4 k5;clear q
     have qK:(w.ah y0).heap.size≤bv:=k1
     have Wh:bv<((w.ah y0).ah yb).heap.size:=k2
     refine dP (i:=6) (rs:=[]) (dh ?_ fG)
     refine jl (R:=λw0 r w'=>aB w0 w'∧∃ u,r=.tuple #[.agg #[.int .i64 (c.ctl.ay i).session,.int .i64 (c.ctl.ay i).num,.int .i64 (c.ctl.ay i).state,u,.int .i64 (c.ctl.ay i).offset,.int .i64 (c.ctl.ay i).next],.int .i64 0]∧ig w' u (c.ctl.ay i).parts∧∀ k,u.ownBlock=some k→w0.heap.size≤k) Tryz.func89 (λz=>lY (HA.out.ctl.ah (Et y0.ext (Et yb.ext z.ext))) Tv.out) (λz r w4 hR=>?_)
     obtain⟨fD,u4,rfl,uP,J5⟩:=hR
     refine⟨fD,?_⟩
     replace fD:=Et z.ext fD
     obtain⟨A4,m4,c4,rfl⟩:=aT uP
     refine iH (i:=7) ?_
     refine iH (i:=8) ?_
     refine iH (i:=9) ?_
     have uw:=Zh ((cO.new k5.out).ah fD)
     have Kr:=z.ext.size
     have lX:=Zh (Et yb.ext fD)
     have JJ:(Value.slice A4 m4 c4).ownBlock≠some bv:=λe=>by have:=J5 bv e;omega
     have Il:=Zh uP
     refine dP (i:=11) (rs:=[]) (dh (mF (off:=0) uw.out (λW6 jP nY=>?_)) fG)
     refine iH (i:=12) ?_
     exact oG (by kernel_rfl) ⟨rfl,_,_,rfl,hd,hA,aB.bK lX.out jP (λk hk=>by subst hk;exact qK),bv,.slice A4 m4 c4,by simp[jW],qK,nY,Il.out.aW jP (λk hk e=>by subst e;exact JJ hk)⟩
   ·clear hd hA A
    intro vs A W' hd hA ⟨xM,bv,u9,jk,qK,vF,OT⟩
    subst jk
    simp only[List.zip_cons_cons,List.zip_nil_right,List.zip_nil_left]
    obtain⟨y9,rfl⟩:=xM.get
    have v1:=vF.cell (k:=1) (by omega)
    have v2:=vF.cell (k:=2) (by omega)
    have v3:=vF.cell (k:=3) (by omega)
    simp[put]at v1 v2 v3
    have hlv:=vF.lt
    clear xM
    clear vF OT
    refine hK _ _ ?_
    repeat'(first|refine aF ?_|refine au ?_|(refine jr (λyn bn aU bD bC bG aS=>?_))|refine ak (λK hK=>?_)|refine aj ?_|refine aC ?_|refine aG ?_|refine aJ ?_|refine bJ ?_|go_step)
    exact aA hd ⟨rfl,HH.out.jc (by simp)⟩
  ·have pY:c.mark i=(aO.iY i (c.ctl.ay i) (c.ctl.ay i).parts c,0):=by unfold aO.mark;rw[if_neg (by simp[hid]),if_neg hs]
   rw[pY]
   have qR:=hwk.state
   clear hid pY hwk
   by_cases h4:(c.ctl.ay i).state=4
   ·obtain Ut:(c.ctl.ay i).state=4:=by omega
    have HS4:=Zh Ut
    have ala:((c.ctl.ay i).state==3)=false:=by rw[Ut];rfl
    have alb:((c.ctl.ay i).state==4)=true:=by rw[Ut];rfl
    clear Ut hs qR h4
    refine Fi (n:=64) Tryz.func53 ?_;intro A hd hA;simp only[ix,Nat.reduceAdd]
    (repeat'(first|refine ak (λK hK=>?_)|refine aj ?_|fail));(refine dI (λx K hK=>?_);go_simp;refine hK _ _ (aB.alloc _ _) ?_;clear hK K;refine aZ x ?_;generalize (World.ah _ x).heap.size=b3;intro yn aU bD bC bG aS;clear x);have qJ:=Zh (cO.new aS.out);have pI:=Zh yn.ext;have qQ:(World.heap w).size≤b3:=aU;generalize World.ah w yn=W0 at *;clear aU bD bC bG aS yn
    have xI:=qJ
    obtain⟨y0,rfl⟩:=pI.out.get
    have Xt:w.heap.size≤b3:=qQ
    have z1:=xI.out.cell (k:=1) (by simp)
    simp at z1
    have O8:=xI.out.lt
    clear qJ pI qQ
    repeat'(first|refine aF ?_|refine au ?_|refine ak (λK hK=>?_)|go_step)
    refine A8 [0,3,5,6] (λvs W'=>aB (w.ah y0) W'∧∃ bv u,vs=[.pointer (some ⟨b,0,none⟩),.pointer (some ⟨b3,0,none⟩),.pointer (some ⟨bv,0,none⟩),.int .i64 0]∧(w.ah y0).heap.size≤bv∧cO W' bv 148 6 (put (λk=> #[Value.int .i64 0,.int .i64 0,.int .i64 0,.slice none 0 0,.int .i64 0,.int .i64 0].getD k undef) 0 [.int .i64 (c.ctl.ay i).session,.int .i64 (c.ctl.ay i).num,.int .i64 (c.ctl.ay i).state,u,.int .i64 (c.ctl.ay i).offset,.int .i64 (c.ctl.ay i).next])∧ig W' u (c.ctl.ay i).parts∧∀ k,u.ownBlock=some k→w.heap.size≤k) hd hA (by decide) ?_ ?_
    ·refine vg [11] (by kernel_rfl) ?_
     refine iH (i:=0) ?_
     refine iH (i:=1) ?_
     refine iH (i:=2) ?_
     refine iH (i:=3) ?_
     refine iH (i:=4) ?_
     refine iH (i:=5) ?_
     refine dP (i:=6) (rs:=[10]) (dh ?_ (dh ?_ fG))
     ·refine jl (R:=λw0 r w'=>aB w0 w'∧∃ u,r=.tuple #[.agg #[.int .i64 (c.ctl.ay i).session,.int .i64 (c.ctl.ay i).num,.int .i64 (c.ctl.ay i).state,u,.int .i64 (c.ctl.ay i).offset,.int .i64 (c.ctl.ay i).next],.int .i64 0]∧ig w' u (c.ctl.ay i).parts∧∀ k,u.ownBlock=some k→w0.heap.size≤k) Tryz.func89 (λz=>lY (HA.out.ctl.ah (Et y0.ext z.ext)) Tv.out) (λz r w4 hR=>?_)
      obtain⟨fD,u4,rfl,uP,J5⟩:=hR
      refine⟨fD,?_⟩
      replace fD:=Et z.ext fD
      obtain⟨A4,m4,c4,rfl⟩:=aT uP
      refine iH (i:=7) ?_
      refine iH (i:=8) ?_
      refine iH (i:=9) ?_
      refine Oc (i:=10) (λq K hK=>?_)
      go_simp;refine hK _ _ _ (aB.alloc _ _) (aB.refl _) ?_;clear hK K;refine qN q ?_;generalize (World.ah _ q).heap.size=bv;intro yb k1 k2 k3 k4 k5;clear q
      have uw:=Zh (cO.new k5.out)
      have UU:(w.ah y0).heap.size≤w4.heap.size:=fD.size
      have qK:(w.ah y0).heap.size≤bv:=Nat.le_trans UU k1
      have lX:=Zh (Et fD yb.ext)
      have JJ:(Value.slice A4 m4 c4).ownBlock≠some bv:=λe=>by have:=uP.lt bv e;omega
      have Il:=Zh (uP.ah yb.ext)
      refine dP (i:=11) (rs:=[]) (dh (mF (off:=0) uw.out (λW6 jP nY=>?_)) fG)
      refine iH (i:=12) ?_
      exact oG (by kernel_rfl) ⟨rfl,_,_,rfl,hd,hA,aB.bK lX.out jP (λk hk=>by subst hk;exact qK),bv,.slice A4 m4 c4,by simp[jW],qK,nY,Il.out.aW jP (λk hk e=>by subst e;exact JJ hk),λk hk=>Nat.le_trans (bF.size (F:=λ_=>False) (show aB w _ by simp)) (J5 k hk)⟩
     ·refine S_s (λq K hK=>?_)
      go_simp;refine hK _ _ _ (aB.alloc _ _) (aB.refl _) ?_;clear hK K;refine qN q ?_;generalize (World.ah _ q).heap.size=bv;intro yb k1 k2 k3 k4 k5;clear q
      have qK:(w.ah y0).heap.size≤bv:=k1
      have Wh:bv<((w.ah y0).ah yb).heap.size:=k2
      refine dP (i:=6) (rs:=[]) (dh ?_ fG)
      refine jl (R:=λw0 r w'=>aB w0 w'∧∃ u,r=.tuple #[.agg #[.int .i64 (c.ctl.ay i).session,.int .i64 (c.ctl.ay i).num,.int .i64 (c.ctl.ay i).state,u,.int .i64 (c.ctl.ay i).offset,.int .i64 (c.ctl.ay i).next],.int .i64 0]∧ig w' u (c.ctl.ay i).parts∧∀ k,u.ownBlock=some k→w0.heap.size≤k) Tryz.func89 (λz=>lY (HA.out.ctl.ah (Et y0.ext (Et yb.ext z.ext))) Tv.out) (λz r w4 hR=>?_)
      obtain⟨fD,u4,rfl,uP,J5⟩:=hR
      refine⟨fD,?_⟩
      replace fD:=Et z.ext fD
      obtain⟨A4,m4,c4,rfl⟩:=aT uP
      refine iH (i:=7) ?_
      refine iH (i:=8) ?_
      refine iH (i:=9) ?_
      have uw:=Zh ((cO.new k5.out).ah fD)
      have Kr:=z.ext.size
      have lX:=Zh (Et yb.ext fD)
      have JJ:(Value.slice A4 m4 c4).ownBlock≠some bv:=λe=>by have:=J5 bv e;omega
      have Il:=Zh uP
      refine dP (i:=11) (rs:=[]) (dh (mF (off:=0) uw.out (λW6 jP nY=>?_)) fG)
      refine iH (i:=12) ?_
      exact oG (by kernel_rfl) ⟨rfl,_,_,rfl,hd,hA,aB.bK lX.out jP (λk hk=>by subst hk;exact qK),bv,.slice A4 m4 c4,by simp[jW],qK,nY,Il.out.aW jP (λk hk e=>by subst e;exact JJ hk),λk hk=>Nat.le_trans (bF.size (F:=λ_=>False) (show aB w _ by simp)) (J5 k hk)⟩
    ·clear hd hA A
     intro vs A W' hd hA ⟨xM,bv,u9,jk,qK,vF,OT,hF9⟩
     subst jk
     simp only[List.zip_cons_cons,List.zip_nil_right,List.zip_nil_left]
     obtain⟨y9,rfl⟩:=xM.get
     have v1:=vF.cell (k:=1) (by omega)
     have v2:=vF.cell (k:=2) (by omega)
     have v3:=vF.cell (k:=3) (by omega)
     simp[put]at v1 v2 v3
     have hlv:=vF.lt
     clear xM
     obtain⟨A9,c9,rfl,-⟩:=(dQ.rd (enc:=xK) (k:=1) (λ_=>rfl) OT).int
     have HO9:=Zh OT
     have HF9:=Zh hF9
     have ah3:=qK
     clear vF OT hF9
     refine hK _ _ ?_
     repeat'(first|refine aF ?_|refine au ?_|(refine jr (λyn bn aU bD bC bG aS=>?_))|refine ak (λK hK=>?_)|refine aj ?_|refine aG ?_|refine aJ ?_|refine bH ?_|refine bJ ?_|go_step)
     refine aY (off:=4) (cO.new aS.out) (λW1 fM nU=>?_)
     have kY:aB w W1:=aB.bK (by simp:aB w (((w.ah y0).ah y9).ah yn)) fM (λk hk=>by subst hk;omega)
     have Ba:=(HO9.out.ah yn.ext).aW fM (λk hk e=>by subst e;have:=HO9.out.lt _ hk;omega)
     have nU:cO W1 bn 102 6 (λk=>([.int .i64 0,.int .i64 i,.int .i64 (c.ctl.ay i).num,.int .i64 0,.int .i64 3,.int .i64 0]:List Value).getD k undef):=nU.congr (λk hk=>match k,hk with|0,_=>rfl|1,_=>rfl|2,_=>rfl|3,_=>rfl|4,_=>rfl|5,_=>rfl|n+6,h=>absurd h (by simp))
     have OC:aB ((w.ah y0).ah y9) W1:=aB.bK (by simp:aB ((w.ah y0).ah y9) (((w.ah y0).ah y9).ah yn)) fM (λk hk=>by subst hk;exact aU)
     clear fM
     obtain⟨y8,rfl⟩:=OC.get
     clear OC
     repeat'(first|refine aF ?_|refine au ?_|refine ak (λK hK=>?_)|refine aj ?_|refine aJ ?_|go_step)
     obtain⟨W1,QO⟩:∃ W1,W1=((w.ah y0).ah y9).ah y8:=⟨_,rfl⟩
     rw[←QO]at kY Ba nU
     rw[←QO]
     clear QO
     have acB:w.heap.size≤bn:=Nat.le_trans y0.ext.size (Nat.le_trans y9.ext.size aU)
     have HWB:=Zh acB
     have qO:=Zh kY
     have jO:=Zh nU
     have QN:=Zh Ba
     have hlm:(c.ctl.ay i).parts.length≤9223372036854775807:=by
      have h1:=Gj _ 0 HWK.out.parts HWK.out.rise
      have h2:=gB.dX HH.out.bU.ctl.right
      rcases h1 with h1|h1
      ·omega
      ·rw[h1];decide
     clear kY nU Ba aU bD bC bG aS qK xI Xt z1 O8 acB ah3 HO9
     obtain⟨n,hn⟩:∃ n,(c.ctl.ay i).parts.length=n:=⟨_,rfl⟩
     have HN:=Zh hn
     have LH:Hid (eP W1 b (λk=>F k∧k<w.heap.size) c W1):=Zh ((HH.out.Fp.ah qO.out).jc (aB.refl _))
     refine dJ [0,7,38,39,40] (λm vs w'=>∃ j:Nat,j+m=n∧vs=[.pointer (some ⟨b,0,none⟩),.pointer (some ⟨bn,0,none⟩),.slice A9 (c.ctl.ay i).parts.length c9,.int .i64 (c.ctl.ay i).parts.length,.int .i64 j]∧eP W1 b (λk=>F k∧k<w.heap.size) (aO.iY i (c.ctl.ay i) ((c.ctl.ay i).parts.take j) c) w') n hd hA (by decide) ⟨0,by omega,by simp[jW],by simpa [aO.iY] using LH.out⟩ ?_
     clear hd hA A LH;intro m vs A w' hd hA _ ⟨j,hj,jk,bP⟩;subst jk
     have jG:=Zh bP
     clear bP
     simp only[List.zip_cons_cons,List.zip_nil_right,List.zip_nil_left]
     by_cases hjn:j<n
     ·have hjl:j<(c.ctl.ay i).parts.length:=by omega
      have oM:(j:Int)<((c.ctl.ay i).parts.length:Int):=by omega
      have hpp:=List.getElem?_eq_getElem hjl
      have Px:=Aq i (c.ctl.ay i) ((c.ctl.ay i).parts[j]) ((c.ctl.ay i).parts.take j) c
      rw[List.take_append_getElem hjl]at Px
      have hpm:=HWK.out.parts _ (List.getElem_mem hjl)
      generalize hpj:(c.ctl.ay i).parts[j]=pj at *
      have QH:c.ctl.part pj=true:=by simp[aH.part,hpm]
      have Am:=C9 i (c.ctl.ay i) ((c.ctl.ay i).parts.take j) c
      rw[Am]at Px
      have LX:=Zh Px
      have Gx:=Zh Am
      have HPR:=Zh QH
      generalize QS:aO.iY i (c.ctl.ay i) ((c.ctl.ay i).parts.take j) c=cc at *
      have Ey:=QN.out.aW jG.out.1 (λk hk e=>by have:=HF9.out k hk;omega)
      obtain⟨g,cg,iZ,Dq,jT,Ib,iK⟩:=dQ.at (enc:=xK) (k:=1) (λ_=>rfl) Ey hpp
      have hA9:A9=some ⟨g,0,none⟩:=by injection iZ
      have hc9:c9=cg:=by injection iZ
      subst hA9 hc9
      have d0:=iK 0 _ rfl
      rw[Nat.mul_one,Nat.add_zero]at d0
      obtain⟨A1,h1,QD⟩:=jG.out.2
      obtain⟨akZ,-,-,-,e3,-⟩:=h1.cells
      have UC:=jO.out.aW jG.out.1 (λe=>by have:=HWB.out;omega)
      have hm0:=UC.cell (k:=0) (by omega)
      have Pg:=UC.cell (k:=1) (by omega)
      have hm2:=UC.cell (k:=2) (by omega)
      have hm3:=UC.cell (k:=3) (by omega)
      have hm4:=UC.cell (k:=4) (by omega)
      have hm5:=UC.cell (k:=5) (by omega)
      simp at hm0 Pg hm2 hm3 hm4 hm5
      have apo:=UC.lt
      have Kv:=Zh h1
      have HF1:=Zh QD
      have hvk:=TK HH.out.bU QH
      have HVK:=Zh hvk
      have Yr:gX w' A1.bm (λk=>A1.T k=2) c.ctl:=by rw[←Am];exact h1.ctl
      have HMP:=Zh Yr
      clear h1 QD hpp Px Am QH QS Ey iZ iK UC hvk Yr hpm hpj
      repeat'(first|refine aF ?_|refine au ?_|refine ak (λK hK=>?_)|refine aj ?_|refine aG ?_|refine aJ ?_|refine bH ?_|go_step)
      refine aX Tryz.func17 (Gl HMP.out HPR.out) (λr w2 hR=>?_)
      obtain⟨iU,u2,rfl,Ey,-⟩:=hR
      obtain⟨A2,n2,c2,rfl⟩:=aT Ey
      obtain⟨y2,rfl⟩:=iU.get
      clear iU Ey
      generalize hld:(c.ctl.view pj).leader=ld at *
      by_cases hle:0≤ld
      ·rw[if_pos hle]at LX
       have BI:aO.zX i (c.ctl.ay i) pj ld={eu.zero with kind:=5,to:=ld,part:=pj,ent:=⟨0,i,(c.ctl.ay i).num,0,3,0⟩}:=by unfold aO.zX;rw[HS4.out];rfl
       rw[BI]at LX
       have HLD:Hid (0≤ld∧ld<c.ctl.form.aK):=Zh ⟨hle,by rw[←hld];exact HVK.out.uZ.2⟩
       clear BI
       repeat'(first|refine aF ?_|refine au ?_|(refine jr (λyn bn aU bD bC bG aS=>?_))|refine ak (λK hK=>?_)|refine aj ?_|refine bH ?_|go_step)
       refine aX Tryz.func106 (Ak (x:=⟨{eu.zero with kind:=5,to:=ld,part:=pj,ent:=⟨0,i,(c.ctl.ay i).num,0,3,0⟩},.slice none 0 0,.slice none 0 0,.slice none 0 0⟩) (jG.out.2.ah (by simp)) ⟨Rd.nil _,Rd.nil _,Rd.nil _,Nat.zero_le _,Nat.zero_le _,Nat.zero_le _⟩ ⟨by show (1:Int)≤5∧(5:Int)≤7;decide,by rw[Gx.out];exact fV HPR.out,λ_=>by rw[Gx.out];exact HLD.out,(λe=>by cases e),Nat.zero_le _,Nat.zero_le _,Nat.zero_le _⟩) (λr w3 hR=>?_)
       obtain⟨rfl,bP⟩:=hR
       have JD:=Zh (jG.out.then (bP.ext (by simp)))
       clear bP
       repeat'(first|refine aF ?_|refine au ?_|refine aj ?_|go_step)
       exact⟨_,_,rfl,hd,hA,m-1,by omega,j+1,by omega,by simp[jW],by rw[LX.out];exact JD.out⟩
      ·rw[if_neg hle]at LX
       repeat'(first|refine aF ?_|refine au ?_|(refine jr (λyn bn aU bD bC bG aS=>?_))|refine ak (λK hK=>?_)|refine aj ?_|refine aG ?_|refine bJ ?_|go_step)
       exact⟨_,_,rfl,hd,hA,m-1,by omega,j+1,by omega,by simp[jW],by rw[LX.out];exact jG.out.ah (by simp)⟩
     ·obtain rfl:j=n:=by omega
      repeat'(first|refine aF ?_|refine au ?_|refine ak (λK hK=>?_)|refine aj ?_|refine aC ?_|refine dS ?_|refine bJ ?_|go_step)
      have G9:eP W1 b (λk=>F k∧k<w.heap.size) (aO.iY i (c.ctl.ay i) (c.ctl.ay i).parts c) w':=by
       have h:=jG.out
       rw[←HN.out,List.take_length]at h;exact h
      have Fb:=Zh (eP.ext qO.out (G9.mono (G:=F) (λk _ h=>h.1) (λk h=>.inl h.1)))
      clear G9
      exact aA hd ⟨rfl,Fb.out⟩
   ·obtain Ut:(c.ctl.ay i).state=3:=by omega
    have HS4:=Zh Ut
    have ala:((c.ctl.ay i).state==3)=true:=by rw[Ut];rfl
    have alb:((c.ctl.ay i).state==4)=false:=by rw[Ut];rfl
    clear Ut hs qR h4
    refine Fi (n:=64) Tryz.func53 ?_;intro A hd hA;simp only[ix,Nat.reduceAdd]
    (repeat'(first|refine ak (λK hK=>?_)|refine aj ?_|fail));(refine dI (λx K hK=>?_);go_simp;refine hK _ _ (aB.alloc _ _) ?_;clear hK K;refine aZ x ?_;generalize (World.ah _ x).heap.size=b3;intro yn aU bD bC bG aS;clear x);have qJ:=Zh (cO.new aS.out);have pI:=Zh yn.ext;have qQ:(World.heap w).size≤b3:=aU;generalize World.ah w yn=W0 at *;clear aU bD bC bG aS yn
    have xI:=qJ
    obtain⟨y0,rfl⟩:=pI.out.get
    have Xt:w.heap.size≤b3:=qQ
    have z1:=xI.out.cell (k:=1) (by simp)
    simp at z1
    have O8:=xI.out.lt
    clear qJ pI qQ
    repeat'(first|refine aF ?_|refine au ?_|refine ak (λK hK=>?_)|go_step)
    refine A8 [0,3,5,6] (λvs W'=>aB (w.ah y0) W'∧∃ bv u,vs=[.pointer (some ⟨b,0,none⟩),.pointer (some ⟨b3,0,none⟩),.pointer (some ⟨bv,0,none⟩),.int .i64 0]∧(w.ah y0).heap.size≤bv∧cO W' bv 148 6 (put (λk=> #[Value.int .i64 0,.int .i64 0,.int .i64 0,.slice none 0 0,.int .i64 0,.int .i64 0].getD k undef) 0 [.int .i64 (c.ctl.ay i).session,.int .i64 (c.ctl.ay i).num,.int .i64 (c.ctl.ay i).state,u,.int .i64 (c.ctl.ay i).offset,.int .i64 (c.ctl.ay i).next])∧ig W' u (c.ctl.ay i).parts∧∀ k,u.ownBlock=some k→w.heap.size≤k) hd hA (by decide) ?_ ?_
    ·refine vg [11] (by kernel_rfl) ?_
     refine iH (i:=0) ?_
     refine iH (i:=1) ?_
     refine iH (i:=2) ?_
     refine iH (i:=3) ?_
     refine iH (i:=4) ?_
     refine iH (i:=5) ?_
     refine dP (i:=6) (rs:=[10]) (dh ?_ (dh ?_ fG))
     ·refine jl (R:=λw0 r w'=>aB w0 w'∧∃ u,r=.tuple #[.agg #[.int .i64 (c.ctl.ay i).session,.int .i64 (c.ctl.ay i).num,.int .i64 (c.ctl.ay i).state,u,.int .i64 (c.ctl.ay i).offset,.int .i64 (c.ctl.ay i).next],.int .i64 0]∧ig w' u (c.ctl.ay i).parts∧∀ k,u.ownBlock=some k→w0.heap.size≤k) Tryz.func89 (λz=>lY (HA.out.ctl.ah (Et y0.ext z.ext)) Tv.out) (λz r w4 hR=>?_)
      obtain⟨fD,u4,rfl,uP,J5⟩:=hR
      refine⟨fD,?_⟩
      replace fD:=Et z.ext fD
      obtain⟨A4,m4,c4,rfl⟩:=aT uP
      refine iH (i:=7) ?_
      refine iH (i:=8) ?_
      refine iH (i:=9) ?_
      refine Oc (i:=10) (λq K hK=>?_)
      go_simp;refine hK _ _ _ (aB.alloc _ _) (aB.refl _) ?_;clear hK K;refine qN q ?_;generalize (World.ah _ q).heap.size=bv;intro yb k1 k2 k3 k4 k5;clear q
      have uw:=Zh (cO.new k5.out)
      have UU:(w.ah y0).heap.size≤w4.heap.size:=fD.size
      have qK:(w.ah y0).heap.size≤bv:=Nat.le_trans UU k1
      have lX:=Zh (Et fD yb.ext)
      have JJ:(Value.slice A4 m4 c4).ownBlock≠some bv:=λe=>by have:=uP.lt bv e;omega
      have Il:=Zh (uP.ah yb.ext)
      refine dP (i:=11) (rs:=[]) (dh (mF (off:=0) uw.out (λW6 jP nY=>?_)) fG)
      refine iH (i:=12) ?_
      exact oG (by kernel_rfl) ⟨rfl,_,_,rfl,hd,hA,aB.bK lX.out jP (λk hk=>by subst hk;exact qK),bv,.slice A4 m4 c4,by simp[jW],qK,nY,Il.out.aW jP (λk hk e=>by subst e;exact JJ hk),λk hk=>Nat.le_trans (bF.size (F:=λ_=>False) (show aB w _ by simp)) (J5 k hk)⟩
     ·refine S_s (λq K hK=>?_)
      go_simp;refine hK _ _ _ (aB.alloc _ _) (aB.refl _) ?_;clear hK K;refine qN q ?_;generalize (World.ah _ q).heap.size=bv;intro yb k1 k2 k3 k4 k5;clear q
      have qK:(w.ah y0).heap.size≤bv:=k1
      have Wh:bv<((w.ah y0).ah yb).heap.size:=k2
      refine dP (i:=6) (rs:=[]) (dh ?_ fG)
      refine jl (R:=λw0 r w'=>aB w0 w'∧∃ u,r=.tuple #[.agg #[.int .i64 (c.ctl.ay i).session,.int .i64 (c.ctl.ay i).num,.int .i64 (c.ctl.ay i).state,u,.int .i64 (c.ctl.ay i).offset,.int .i64 (c.ctl.ay i).next],.int .i64 0]∧ig w' u (c.ctl.ay i).parts∧∀ k,u.ownBlock=some k→w0.heap.size≤k) Tryz.func89 (λz=>lY (HA.out.ctl.ah (Et y0.ext (Et yb.ext z.ext))) Tv.out) (λz r w4 hR=>?_)
      obtain⟨fD,u4,rfl,uP,J5⟩:=hR
      refine⟨fD,?_⟩
      replace fD:=Et z.ext fD
      obtain⟨A4,m4,c4,rfl⟩:=aT uP
      refine iH (i:=7) ?_
      refine iH (i:=8) ?_
      refine iH (i:=9) ?_
      have uw:=Zh ((cO.new k5.out).ah fD)
      have Kr:=z.ext.size
      have lX:=Zh (Et yb.ext fD)
      have JJ:(Value.slice A4 m4 c4).ownBlock≠some bv:=λe=>by have:=J5 bv e;omega
      have Il:=Zh uP
      refine dP (i:=11) (rs:=[]) (dh (mF (off:=0) uw.out (λW6 jP nY=>?_)) fG)
      refine iH (i:=12) ?_
      exact oG (by kernel_rfl) ⟨rfl,_,_,rfl,hd,hA,aB.bK lX.out jP (λk hk=>by subst hk;exact qK),bv,.slice A4 m4 c4,by simp[jW],qK,nY,Il.out.aW jP (λk hk e=>by subst e;exact JJ hk),λk hk=>Nat.le_trans (bF.size (F:=λ_=>False) (show aB w _ by simp)) (J5 k hk)⟩
    ·clear hd hA A
     intro vs A W' hd hA ⟨xM,bv,u9,jk,qK,vF,OT,hF9⟩
     subst jk
     simp only[List.zip_cons_cons,List.zip_nil_right,List.zip_nil_left]
     obtain⟨y9,rfl⟩:=xM.get
     have v1:=vF.cell (k:=1) (by omega)
     have v2:=vF.cell (k:=2) (by omega)
     have v3:=vF.cell (k:=3) (by omega)
     simp[put]at v1 v2 v3
     have hlv:=vF.lt
     clear xM
     obtain⟨A9,c9,rfl,-⟩:=(dQ.rd (enc:=xK) (k:=1) (λ_=>rfl) OT).int
     have HO9:=Zh OT
     have HF9:=Zh hF9
     have ah3:=qK
     clear vF OT hF9
     refine hK _ _ ?_
     repeat'(first|refine aF ?_|refine au ?_|(refine jr (λyn bn aU bD bC bG aS=>?_))|refine ak (λK hK=>?_)|refine aj ?_|refine aG ?_|refine aJ ?_|refine bH ?_|refine bJ ?_|go_step)
     obtain⟨W1,QO⟩:∃ W1,W1=((w.ah y0).ah y9).ah yn:=⟨_,rfl⟩
     have kY:aB w W1:=by rw[QO];simp
     have Ba:ig W1 (.slice A9 (c.ctl.ay i).parts.length c9) (c.ctl.ay i).parts:=by rw[QO];exact HO9.out.ah yn.ext
     have nU:cO W1 bn 102 6 (λk=>([.int .i64 0,.int .i64 i,.int .i64 (c.ctl.ay i).num,.int .i64 0,.int .i64 2,.int .i64 0]:List Value).getD k undef):=by rw[QO];exact(cO.new aS.out).congr (λk hk=>match k,hk with|0,_=>rfl|1,_=>rfl|2,_=>rfl|3,_=>rfl|4,_=>rfl|5,_=>rfl|n+6,h=>absurd h (by simp))
     have hb4:=nU
     rw[←QO]
     clear hb4 QO
     have acB:w.heap.size≤bn:=Nat.le_trans y0.ext.size (Nat.le_trans y9.ext.size aU)
     have HWB:=Zh acB
     have qO:=Zh kY
     have jO:=Zh nU
     have QN:=Zh Ba
     have hlm:(c.ctl.ay i).parts.length≤9223372036854775807:=by
      have h1:=Gj _ 0 HWK.out.parts HWK.out.rise
      have h2:=gB.dX HH.out.bU.ctl.right
      rcases h1 with h1|h1
      ·omega
      ·rw[h1];decide
     clear kY nU Ba aU bD bC bG aS qK xI Xt z1 O8 acB ah3 HO9
     obtain⟨n,hn⟩:∃ n,(c.ctl.ay i).parts.length=n:=⟨_,rfl⟩
     have HN:=Zh hn
     have LH:Hid (eP W1 b (λk=>F k∧k<w.heap.size) c W1):=Zh ((HH.out.Fp.ah qO.out).jc (aB.refl _))
     refine dJ [0,7,38,39,40] (λm vs w'=>∃ j:Nat,j+m=n∧vs=[.pointer (some ⟨b,0,none⟩),.pointer (some ⟨bn,0,none⟩),.slice A9 (c.ctl.ay i).parts.length c9,.int .i64 (c.ctl.ay i).parts.length,.int .i64 j]∧eP W1 b (λk=>F k∧k<w.heap.size) (aO.iY i (c.ctl.ay i) ((c.ctl.ay i).parts.take j) c) w') n hd hA (by decide) ⟨0,by omega,by simp[jW],by simpa [aO.iY] using LH.out⟩ ?_
     clear hd hA A LH;intro m vs A w' hd hA _ ⟨j,hj,jk,bP⟩;subst jk
     have jG:=Zh bP
     clear bP
     simp only[List.zip_cons_cons,List.zip_nil_right,List.zip_nil_left]
     by_cases hjn:j<n
     ·have hjl:j<(c.ctl.ay i).parts.length:=by omega
      have oM:(j:Int)<((c.ctl.ay i).parts.length:Int):=by omega
      have hpp:=List.getElem?_eq_getElem hjl
      have Px:=Aq i (c.ctl.ay i) ((c.ctl.ay i).parts[j]) ((c.ctl.ay i).parts.take j) c
      rw[List.take_append_getElem hjl]at Px
      have hpm:=HWK.out.parts _ (List.getElem_mem hjl)
      generalize hpj:(c.ctl.ay i).parts[j]=pj at *
      have QH:c.ctl.part pj=true:=by simp[aH.part,hpm]
      have Am:=C9 i (c.ctl.ay i) ((c.ctl.ay i).parts.take j) c
      rw[Am]at Px
      have LX:=Zh Px
      have Gx:=Zh Am
      have HPR:=Zh QH
      generalize QS:aO.iY i (c.ctl.ay i) ((c.ctl.ay i).parts.take j) c=cc at *
      have Ey:=QN.out.aW jG.out.1 (λk hk e=>by have:=HF9.out k hk;omega)
      obtain⟨g,cg,iZ,Dq,jT,Ib,iK⟩:=dQ.at (enc:=xK) (k:=1) (λ_=>rfl) Ey hpp
      have hA9:A9=some ⟨g,0,none⟩:=by injection iZ
      have hc9:c9=cg:=by injection iZ
      subst hA9 hc9
      have d0:=iK 0 _ rfl
      rw[Nat.mul_one,Nat.add_zero]at d0
      obtain⟨A1,h1,QD⟩:=jG.out.2
      obtain⟨akZ,-,-,-,e3,-⟩:=h1.cells
      have UC:=jO.out.aW jG.out.1 (λe=>by have:=HWB.out;omega)
      have hm0:=UC.cell (k:=0) (by omega)
      have Pg:=UC.cell (k:=1) (by omega)
      have hm2:=UC.cell (k:=2) (by omega)
      have hm3:=UC.cell (k:=3) (by omega)
      have hm4:=UC.cell (k:=4) (by omega)
      have hm5:=UC.cell (k:=5) (by omega)
      simp at hm0 Pg hm2 hm3 hm4 hm5
      have apo:=UC.lt
      have Kv:=Zh h1
      have HF1:=Zh QD
      have hvk:=TK HH.out.bU QH
      have HVK:=Zh hvk
      have Yr:gX w' A1.bm (λk=>A1.T k=2) c.ctl:=by rw[←Am];exact h1.ctl
      have HMP:=Zh Yr
      clear h1 QD hpp Px Am QH QS Ey iZ iK UC hvk Yr hpm hpj
      repeat'(first|refine aF ?_|refine au ?_|refine ak (λK hK=>?_)|refine aj ?_|refine aG ?_|refine aJ ?_|refine bH ?_|go_step)
      refine aX Tryz.func17 (Gl HMP.out HPR.out) (λr w2 hR=>?_)
      obtain⟨iU,u2,rfl,Ey,-⟩:=hR
      obtain⟨A2,n2,c2,rfl⟩:=aT Ey
      obtain⟨y2,rfl⟩:=iU.get
      clear iU Ey
      generalize hld:(c.ctl.view pj).leader=ld at *
      by_cases hle:0≤ld
      ·rw[if_pos hle]at LX
       have BI:aO.zX i (c.ctl.ay i) pj ld={eu.zero with kind:=5,to:=ld,part:=pj,ent:=⟨0,i,(c.ctl.ay i).num,0,2,0⟩}:=by unfold aO.zX;rw[HS4.out];rfl
       rw[BI]at LX
       have HLD:Hid (0≤ld∧ld<c.ctl.form.aK):=Zh ⟨hle,by rw[←hld];exact HVK.out.uZ.2⟩
       clear BI
       repeat'(first|refine aF ?_|refine au ?_|(refine jr (λyn bn aU bD bC bG aS=>?_))|refine ak (λK hK=>?_)|refine aj ?_|refine bH ?_|go_step)
       refine aX Tryz.func106 (Ak (x:=⟨{eu.zero with kind:=5,to:=ld,part:=pj,ent:=⟨0,i,(c.ctl.ay i).num,0,2,0⟩},.slice none 0 0,.slice none 0 0,.slice none 0 0⟩) (jG.out.2.ah (by simp)) ⟨Rd.nil _,Rd.nil _,Rd.nil _,Nat.zero_le _,Nat.zero_le _,Nat.zero_le _⟩ ⟨by show (1:Int)≤5∧(5:Int)≤7;decide,by rw[Gx.out];exact fV HPR.out,λ_=>by rw[Gx.out];exact HLD.out,(λe=>by cases e),Nat.zero_le _,Nat.zero_le _,Nat.zero_le _⟩) (λr w3 hR=>?_)
       obtain⟨rfl,bP⟩:=hR
       have JD:=Zh (jG.out.then (bP.ext (by simp)))
       clear bP
       repeat'(first|refine aF ?_|refine au ?_|refine aj ?_|go_step)
       exact⟨_,_,rfl,hd,hA,m-1,by omega,j+1,by omega,by simp[jW],by rw[LX.out];exact JD.out⟩
      ·rw[if_neg hle]at LX
       repeat'(first|refine aF ?_|refine au ?_|(refine jr (λyn bn aU bD bC bG aS=>?_))|refine ak (λK hK=>?_)|refine aj ?_|refine aG ?_|refine bJ ?_|go_step)
       exact⟨_,_,rfl,hd,hA,m-1,by omega,j+1,by omega,by simp[jW],by rw[LX.out];exact jG.out.ah (by simp)⟩
     ·obtain rfl:j=n:=by omega
      repeat'(first|refine aF ?_|refine au ?_|refine ak (λK hK=>?_)|refine aj ?_|refine aC ?_|refine dS ?_|refine bJ ?_|go_step)
      have G9:eP W1 b (λk=>F k∧k<w.heap.size) (aO.iY i (c.ctl.ay i) (c.ctl.ay i).parts c) w':=by
       have h:=jG.out
       rw[←HN.out,List.take_length]at h;exact h
      have Fb:=Zh (eP.ext qO.out (G9.mono (G:=F) (λk _ h=>h.1) (λk h=>.inl h.1)))
      clear G9
      exact aA hd ⟨rfl,Fb.out⟩
def aps:cZ:=⟨0,0,0,0,0,0⟩
def bk (l:List cZ) (m:Nat):List (Int×cZ):=(List.range m).map λj=>(((l.length-1-j:Nat):Int),l.getD (l.length-1-j) aps)
theorem X6 {l:List cZ} {m:Nat} {e:cZ} (h:l[l.length-1-m]? =some e):bk l (m+1)=bk l m++[(((l.length-1-m:Nat):Int),e)]:=by
 unfold bk
 rw[List.range_succ,List.map_append]
 simp[List.getD_eq_getElem?_getD,h]
theorem Wn {l:List cZ}:∀ {m:Nat},m≤l.length→(bk l m).map (·.2)=l.reverse.take m
 | 0,_=>by simp[bk]
 | m+1,h=>by
  have hj:l.length-1-m<l.length:=by omega
  have he:l[l.length-1-m]? =some l[l.length-1-m]:=List.getElem?_eq_getElem hj
  rw[X6 he,List.map_append,Wn (by omega)]
  have hr:l.reverse[m]? =some l[l.length-1-m]:=by rw[List.getElem?_reverse (by omega)];exact he
  rw[gV hr]
  rfl
theorem ZE {w:World} {bx:Nat} {v:Value} {l:List cZ} (hl:yQ w v l) (Xg:bx<w.heap.size) (c1:w.cell? ⟨bx,0,none⟩=some v):
  afA Tryz.prog 166 #[.pointer (some ⟨bx,0,none⟩)] (λx:Int×cZ=> #[.int .i64 x.1,x.2.v]) (λxs=>xs.map (·.2)=l.reverse) (λxs=>xs.map (·.2)<+:l.reverse) (λk=>k=bx∨v.ownBlock=some k) w:=by
 intro ll J Jx B0 W hE hJ hJx Vf hY h0 UL
 have BM:∀ {pre B V V'},J pre B V→aB V V'→J pre B V':=λh hE=>hJ _ _ _ _ h (bF.mono hE (λ_ _ h=>h.elim))
 have main:gK Tryz.prog 166 #[.func (.yield ll) #[] #[],.pointer (some ⟨bx,0,none⟩)] W λv W'=>(∃xs B,xs.map (·.2)=l.reverse∧J xs B W')∨∃ pre,Jx pre W':=by
  have hlW:=Zh (hl.ah hE)
  have hbW:=Zh ((bI hE Xg (λh=>h)).trans c1)
  have Js:=Zh (Nat.lt_of_lt_of_le Xg hE.size)
  obtain⟨yW,rfl⟩:=hE.get
  obtain⟨A0,c,rfl,hc,jT,HR⟩:=hl.ent
  clear HR
  have HY:=Zh hY
  have HJ:=Zh hJ
  have H0:=Zh h0
  have HB0:=Zh UL
  clear hY hJ h0 UL Vf hJx hl
  refine Fi (n:=19) Tryz.func166 ?_;intro A hd hA;simp only[ix,Nat.reduceAdd]
  repeat'(first|refine aF ?_|refine au ?_|refine ak (λK hK=>?_)|refine aj ?_|refine aJ ?_|go_step)
  refine dJ [0,1,3] (λn vs w'=>∃ (k:Nat) (i:Int) (B:Nat→Prop),n+k=l.length∧i=(n:Int)-1∧vs=[.func (.yield ll) #[] #[],.pointer (some ⟨bx,0,none⟩),.int .i64 i]∧J (bk l k) B w'∧yQ w' (.slice A0 l.length c) l∧bx<w'.heap.size∧w'.cell? ⟨bx,0,none⟩=some (.slice A0 l.length c)∧(∀k,B k→k≠bx∧Value.ownBlock (.slice A0 l.length c)≠some k)) l.length hd hA (by decide) ?_ ?_
  ·exact⟨0,(l.length:Int)-1,B0,by omega,rfl,by simp[jW],H0.out,hlW.out,Js.out,hbW.out,λk hk=>⟨λe=>HB0.out k hk (.inl e),λe=>HB0.out k hk (.inr e)⟩⟩
  clear hlW HB0 H0 Xg c1 hbW Js
  generalize w.ah yW=W0 at *
  clear hd hA A;intro n vs A w' hd hA _ ⟨k,i,Bs,hn,hi,jk,hj,hr,Js,hcb,hb⟩;subst jk
  simp only[List.zip_cons_cons,List.zip_nil_right,List.zip_nil_left]
  have HJ1:=Zh hj
  have YK:=Zh hb
  have UN:=Zh hr
  obtain⟨A1,c2,Xi,-,-,HR⟩:=hr.ent
  cases Xi
  clear hj hb hr
  by_cases hlt:0<n
  ·obtain⟨m,rfl⟩:∃ m,n=m+1:=⟨n-1,by omega⟩
   obtain rfl:i=(m:Int):=by omega
   have hml:m<l.length:=by omega
   obtain⟨e,be,oe,he,jg,wL,r0,r1,r2,r3,r4,r5⟩:=HR.out m (by omega)
   subst jg
   have sZ:(m:Int)<l.length:=by omega
   have Xo:RowKit.wrap64 ((m:Int)-1)=(m:Int)-1:=by unfold RowKit.wrap64;omega
   have HN:=Zh hn
   have HBC:=Zh (And.intro Js hcb)
   have hbk:=X6 (l:=l) (m:=k) (e:=e) (by rw[show l.length-1-k=m by omega];exact he.out)
   rw[show l.length-1-k=m by omega]at hbk
   have HBK:=Zh hbk
   clear HR hi hn hbk
   repeat'(first|refine aF ?_|refine au ?_|refine ak (λK hK=>?_)|refine aj ?_|refine aG ?_|refine aJ ?_|refine bH ?_|go_step)
   refine PN (l:=ll) (lv:=[.int .i64 m,e.v]) (R:=λb W'=>(b=true∧∃ B',J (bk l (k+1)) B' W'∧yQ W' (.slice (some ⟨be,oe,none⟩) l.length c) l∧bx<W'.heap.size∧W'.cell? ⟨bx,0,none⟩=some (.slice (some ⟨be,oe,none⟩) l.length c)∧∀ k,B' k→k≠bx∧Value.ownBlock (.slice (some ⟨be,oe,none⟩) l.length c)≠some k)∨(b=false∧∃ pre,Jx pre W')) (λX=>?_) (λb W3 hR=>?_)
   ·rw[HBK.out]
    have QV:yQ (w'.ah X) (.slice (some ⟨be,oe,none⟩) l.length c) l:=UN.out.ah X.2
    refine(HY.out (bk l k) Bs ((m:Int),e) (w'.ah X) (BM HJ1.out X.2) (by
     have:=Wn (l:=l) (m:=k+1) (by have:=HN.out;omega)
     rw[HBK.out]at this
     show List.map (·.2) (bk l k++[((m:Int),e)])<+:l.reverse
     rw[this];exact List.take_prefix _ _)).mono ?_
    rintro e' W' (⟨rfl,B',AQ,oQ,GZ⟩|⟨rfl,DK⟩)
    ·have ald:bx<(w'.ah X).heap.size:=Nat.lt_of_lt_of_le HBC.out.1 X.2.size
     refine⟨true,rfl,.inl ⟨rfl,B',AQ,QV.aW oQ (λb hb h=>(YK.out b h).2 hb),Nat.lt_of_lt_of_le ald oQ.size,(bI oQ ald (λh=>(YK.out bx h).1 rfl)).trans ((bI X.2 HBC.out.1 (λh=>h)).trans HBC.out.2),λk hk=>?_⟩⟩
     rcases GZ k hk with h|h
     ·exact YK.out k h
     ·refine⟨by omega,λe=>?_⟩
      have:=QV.lt (by intro hh;rw[hh]at hml;simp at hml) k e;omega
    ·exact⟨false,rfl,.inr ⟨rfl,_,DK⟩⟩
   ·rcases hR with⟨rfl,B',AQ,iE,apt,aqY,Dk⟩|⟨rfl,DK⟩
    ·have HJ3:=Zh AQ
     have xI:=Zh Dk
     have Ir:=Zh iE
     clear AQ Dk iE hcb Js r0 r1 r2 r3 r4 r5
     repeat'(first|refine aF ?_|refine au ?_|refine aj ?_|refine aG ?_|refine bJ ?_|go_step)
     exact⟨_,_,rfl,hd,hA,m,by omega,k+1,(m:Int)-1,B',by have:=HN.out;omega,rfl,by simp[jW,Xo],HJ3.out,Ir.out,apt,aqY,xI.out⟩
    ·have HX:=Zh DK
     clear DK
     repeat'(first|refine aF ?_|refine au ?_|refine aC ?_|refine bH ?_|go_step)
     exact iL hd (.inr HX.out)
  ·obtain rfl:n=0:=by omega
   obtain rfl:k=l.length:=by omega
   obtain rfl:i= -1:=by omega
   clear hn hi hlt
   repeat'(first|refine aF ?_|refine au ?_|refine ak (λK hK=>?_)|refine aj ?_|refine dS ?_|refine bJ ?_|go_step)
   exact iL hd (.inl ⟨_,Bs,by rw[Wn (Nat.le_refl _),←List.length_reverse,List.take_length],HJ1.out⟩)
 refine Calls.mono (Fn.Dj main) ?_
 rintro e W' ⟨W0,ny,hR⟩
 cases e with
 | returned v=>
  refine⟨v,rfl,?_⟩
  rcases hR with⟨xs,B,hS,hj⟩|⟨pre,hx⟩
  ·exact .inl ⟨xs,B,hS,BM hj ny⟩
  ·exact .inr ⟨pre,hJx _ _ _ hx ny⟩
 | panicked c=>exact hR.elim
 | outgrown=>exact hR.elim
theorem Wq {w:World} {v:Value} {l:List cZ} (hl:yQ w v l):gK Tryz.prog 116 #[v] w λv' w'=>∃ bx,v'=.func (.func 166) #[] #[.pointer (some ⟨bx,0,none⟩)]∧aB w w'∧w.heap.size≤bx∧bx<w'.heap.size∧w'.cell? ⟨bx,0,none⟩=some v:=by
 obtain⟨A0,c,rfl,hc,jT,HR⟩:=hl.ent
 clear hl
 refine Fi (n:=4) Tryz.func116 ?_;intro A hd hA;simp only[ix,Nat.reduceAdd]
 repeat'(first|refine aF ?_|refine au ?_|refine ak (λK hK=>?_)|refine aj ?_|refine aC ?_|(refine dI (λx K hK=>?_);go_simp;refine hK _ _ (aB.alloc _ _) ?_;clear hK K;refine aZ x ?_;generalize (World.ah _ x).heap.size=bn;intro yn aU bD bC bG aS;clear x)|go_step)
 exact aA hd ⟨bn,rfl,yn.2,aU,bD,bC 0⟩
section
variable {ρ : Option Nat} {P : Program} {Q : jo} {w : World} {A : Act}
theorem acC {c:Code} {l:List (Nat×Value)} {N:Nat} (ss:List Nat) (I:Nat→List Value→List Deferred→World→Prop) (n:Nat) (hA:A.tmps.size=N) (hs:∀ s∈ss,s<N) (h0:I n (ss.map λs=>jW s l A) A.defers w)
  (round:∀ (n:Nat) (vs:List Value) (B:Act) (w:World),B.tmps.size=N→vs.length=ss.length→I n vs B.defers w→
   Wp ρ P c (Exit.then (λa' w'=>∃ (l':List (Nat×Value)) (B':Act),a'=fr l' B'∧B'.tmps.size=N∧∃ m,m<n∧I m (ss.map λs=>jW s l' B') B'.defers w') Q) (fr (ss.zip vs) B) w):Wp ρ P (.loop c) Q (fr l A) w:=by
 subst hA
 refine aa8 (λn a w=>a.tmps.size=A.tmps.size∧I n (ss.map λs=>a.tmps.getD s undef) a.defers w) n ⟨by rw[vY];simp,?_⟩ ?_
 ·have:(ss.map λs=>(fr l A).tmps.getD s undef)=ss.map λs=>jW s l A:=List.map_congr_left λs zq=>by rw[vY];exact rD A s (hs s zq) l
  rw[this,eF];exact h0
 ·intro n a w hI
  obtain⟨has,hI⟩:=hI
  have hr:=round n (ss.map λs=>a.tmps.getD s undef) a w has (by simp) hI
  have Kq:fr (ss.zip (ss.map λs=>a.tmps.getD s undef)) a=a:=by
   obtain⟨tm,de⟩:=a
   unfold fr
   simp only
   congr 1
   clear hI hr round h0 hs
   induction ss with
   | nil=>simp[kX]
   | cons s ss ih=>
    simp only[List.map_cons,List.zip_cons_cons,kX]
    rw[ih]
    apply Array.ext
    ·simp
    ·intro i h1 h2
     rw[Array.getElem_setIfInBounds]
     split
     ·rename_i e;subst e;simp[h2]
     ·rfl
  rw[Kq]at hr
  refine U0 hr ?_
  intro e a' w' hq
  cases e with
  | normal=>
   obtain⟨l',B',rfl,hB,m,hm,hI'⟩:=hq
   refine⟨m,hm,by rw[vY];simpa using hB,?_⟩
   have:(ss.map λs=>(fr l' B').tmps.getD s undef)=ss.map λs=>jW s l' B':=List.map_congr_left λs zq=>by rw[vY];exact rD B' s (by rw[hB];exact hs s zq) l'
   rw[this,eF];exact hI'
  | _=>exact hq
def Yt (rs:List Nat):List Deferred:=rs.map λr=>{target:=.collected r,args:= #[]}
def Du (rs:List Nat) (w:World):Prop:=rs.Nodup∧∀ r∈rs,w.heap[r]? =some (.deferred (some []))
theorem Du.aW {rs:List Nat} {F:Nat→Prop} {w w':World} (h:Du rs w) (hM:bF F w w') (hF:∀ r∈rs,¬F r):Du rs w':=
 ⟨h.1,λr hr=>(hM.block r ((Array.getElem?_eq_some_iff.1 (h.2 r hr)).1) (hF r hr)).trans (h.2 r hr)⟩
theorem Je:∀ {rs:List Nat} {w:World},Du rs w→∃ w',O6 (Yt rs) w w'∧bF (λk=>k∈rs) w w'
 | [],w,_=>⟨w,rfl,bF.refl _ _⟩
 | r::rs,w,⟨hn,h⟩=>by
  obtain⟨hr,hn⟩:=List.nodup_cons.1 hn
  have hm:bF (· =r) w (w.putObj r (.deferred none)):=rG _ _ _
  obtain⟨w',h1,h2⟩:=Je (rs:=rs) (w:=w.putObj r (.deferred none)) ⟨hn,λk hk=>(hm.block k ((Array.getElem?_eq_some_iff.1 (h k (List.mem_cons_of_mem _ hk))).1) (λe=>hr (by subst e;exact hk))).trans (h k (List.mem_cons_of_mem _ hk))⟩
  exact⟨w',⟨r,rfl,h r List.mem_cons_self,h1⟩,bF.trans hm h2 (λk _ e=>by subst e;exact List.mem_cons_self) (λk _ e=>List.mem_cons_of_mem _ e)⟩
theorem ZF {fn:Func} {R:Hq} {e:Exit} {t:Tmp} {v:Value} {l:List (Nat×Value)} {rs:List Nat} (hd:A.defers=Yt rs) (hm:Du rs w) (hR:∀ w',bF (λk=>k∈rs) w w'→R (.returned v) w') (hr:fn.results= #[.tmp t]:=by rfl) (he:e=.ret∨e=.normal:=by first|exact .inl rfl|exact .inr rfl)
  (hv:Is ((fr l A).tmps.getD t undef) v:=by go_simp;exact Is.mk _):zo P fn R e (fr l A) w:=by
 obtain⟨w',h1,h2⟩:=Je hm
 unfold zo
 rcases he with rfl|rfl<;>exact⟨_,by rw[eF,hd];exact h1,v,λx=>by rw[results_tmp hr,hv.eq],hR _ h2⟩
end
def acD (p i n:Int):eu:={eu.zero with kind:=6,to:= -1,part:=p,ent:=⟨0,i,n,0,0,0⟩}
theorem Dc (p:Int) (l:List cZ) (i:Int):∀ (is:List Int) (c:aO),aO.gU p l (is++[i]) c=match aO.sO l i with|some n=>(aO.gU p l is c).put (acD p i n)|none=>aO.gU p l is c
 | [],c=>rfl
 | j::is,c=>by
  show aO.gU p l (is++[i]) _=_
  rw[Dc p l i is];rfl
theorem Ep (p:Int) (l:List cZ):∀ (is:List Int) (c:aO),(aO.gU p l is c).ctl=c.ctl
 | [],c=>rfl
 | j::is,c=>by
  show (aO.gU p l is _).ctl=_
  rw[Ep p l is]
  split
  ·exact(JY _).1
  ·rfl
def vH (i:Int) (e:cZ):Bool:=(e.id==i)&&(e.kind != 1)
theorem TL {l pre:List cZ} {x:cZ} {i:Int} (h:(pre++[x])<+:l.reverse) (hp:∀ e∈pre,vH i e=false) (hx:vH i x=true):aO.sO l i=some x.num:=by
 obtain⟨t,ht⟩:=h
 have:l=t.reverse++(x::pre.reverse):=by
  rw[←List.reverse_reverse l,←ht];simp
 unfold aO.sO
 have hf:l.filter (λe=>(e.id==i)&&(e.kind != 1))=t.reverse.filter (vH i)++[x]:=by
  rw[this,List.filter_append,List.filter_cons]
  have h1:pre.reverse.filter (λe=>(e.id==i)&&(e.kind != 1))=[]:=List.filter_eq_nil_iff.2 (λe he=>by have:=hp e (List.mem_reverse.1 he);unfold vH at this;simp[this])
  rw[h1]
  have h2:((x.id==i)&&(x.kind != 1))=true:=hx
  rw[if_pos h2];rfl
 rw[hf];simp
theorem TM {l:List cZ} {i:Int} (hp:∀ e∈l,vH i e=false):aO.sO l i=none:=by
 unfold aO.sO
 have:l.filter (λe=>(e.id==i)&&(e.kind != 1))=[]:=List.filter_eq_nil_iff.2 (λe he=>by have:=hp e he;unfold vH at this;simp[this])
 rw[this];rfl
theorem TN {w:World} {b:Nat} {F:Nat→Prop} {c:aO} (x:bV) (h:iO w b F c):gK Tryz.prog 54 #[.pointer (some ⟨b,0,none⟩),x.v] w λr w'=>r=.int .i64 (if(c.ctl.part x.a&&c.ctl.aV x.b)=false then 2 else if(c.rep x.a x.b).role≠3 then 211 else 0)∧eP w b F (if(c.ctl.part x.a&&c.ctl.aV x.b)=false then c else if(c.rep x.a x.b).role≠3 then c else aO.gU x.a ((c.rep x.a x.b).log.take (c.rep x.a x.b).high.toNat) (qU c.ctl.form.ids) c) w':=by
 by_cases hq:(c.ctl.part x.a&&c.ctl.aV x.b)=false
 ·rw[if_pos hq,if_pos hq]
  have HH:=Zh h
  have HQ:=Zh hq
  clear h hq
  refine Fi (n:=62) Tryz.func54 ?_;intro A hd hA;simp only[ix,Nat.reduceAdd]
  repeat'(first|refine aN Tryz.func111 (OO x (HH.out.ah (by simp)) HQ.out) ?_|refine aF ?_|refine au ?_|refine ak (λK hK=>?_)|refine aj ?_|refine aC ?_|(refine dI (λx K hK=>?_);go_simp;refine hK _ _ (aB.alloc _ _) ?_;clear hK K;refine aZ x ?_;generalize (World.ah _ x).heap.size=bn;intro yn aU bD bC bG aS;clear x)|refine bH ?_|go_step)
  exact aA hd ⟨rfl,HH.out.jc (by simp)⟩
 ·rw[if_neg hq,if_neg hq]
  have jM:c.ctl.part x.a=true∧c.ctl.aV x.b=true:=by simpa using hq
  obtain⟨kind,xa,xb,xc⟩:=x
  dsimp only at jM
  obtain⟨p,rfl⟩:∃ p:Nat,xa=p:=⟨xa.toNat,by have:=fV jM.1;omega⟩
  obtain⟨i,rfl⟩:∃ i:Nat,xb=i:=⟨xb.toNat,by have:=dV jM.2;omega⟩
  have BP:=fV jM.1
  have JL:=dV jM.2
  have HH:=Zh h
  obtain⟨A0,h0,hF⟩:=h
  obtain⟨u,ps,q,-,wK,-,-,FM,-,jy,gu⟩:=h0.rep (p:=p) (i:=i) (by omega) (by omega)
  obtain⟨hlt,-,-,c2,-⟩:=h0.cells
  have HA:=Zh h0
  have HF:=Zh hF
  have J3:=Zh wK
  have J4:=Zh FM
  have qy:=Zh jy
  have oW:=Zh gu
  have CZ:=Zh jM
  clear h0 hF hq wK FM jy gu BP JL jM
  dsimp only
  by_cases MX:(c.rep (p:Int) (i:Int)).role=3
  ·have hrb:((c.rep (p:Int) (i:Int)).role != 3)=false:=by simp[MX]
   rw[if_neg (by simp[MX]),if_neg (by simp[MX])]
   clear MX
   refine Fi (n:=62) Tryz.func54 ?_;intro A hd hA;simp only[ix,Nat.reduceAdd]
   repeat'(first|refine aN Tryz.func111 (CX ⟨kind,(p:Int),(i:Int),xc⟩ (HA.out.ah (by simp)) rfl rfl CZ.out.1 CZ.out.2 J3.out J4.out) ?_|refine aF ?_|refine au ?_|refine ak (λK hK=>?_)|refine aj ?_|refine aG ?_|(refine dI (λx K hK=>?_);go_simp;refine hK _ _ (aB.alloc _ _) ?_;clear hK K;refine aZ x ?_;generalize (World.ah _ x).heap.size=bn;intro yn aU bD bC bG aS;clear x)|refine bJ ?_|go_step)
   rename_i b2 y2 p21 p22 p23 p24 p25
   rename Nat=>b3
   rename bM (World.ah w y2)=>y3
   have p31:(w.ah y2).heap.size≤b3:=aU
   have p35:=aS
   have apu:=bC
   clear aU bD bC bG aS
   refine aX Tryz.func20 (wu (qy.out.ah (by simp)) oW.out.bU.ne (by have:=oW.out.bU.NY;omega) (by have:=oW.out.bU.NY;omega)) (λr w1 hR=>?_)
   obtain⟨kY,u1,u2,u3,rfl,QV,NV,iE,-⟩:=hR
   obtain⟨A1,c1,rfl,-⟩:=QV.int
   obtain⟨A2,c2',rfl,-⟩:=NV.int
   obtain⟨A3,c3,rfl,-⟩:=iE.int
   have Jo:(c.rep (p:Int) (i:Int)).qH.role=(c.rep (p:Int) (i:Int)).role:=by unfold aI.qH;split<;>rfl
   rw[←Jo]at hrb
   have JK:(c.rep (p:Int) (i:Int)).qH.high=(c.rep (p:Int) (i:Int)).high:=by unfold aI.qH;split<;>rfl
   have UK:=oW.out.bU.hi
   obtain⟨hg,hhg⟩:∃ hg:Nat,(c.rep (p:Int) (i:Int)).high=hg:=⟨(c.rep (p:Int) (i:Int)).high.toNat,by omega⟩
   have iR:=oW.out.bU.len
   rw[hhg]at JK UK
   have hle:hg≤(c.rep (p:Int) (i:Int)).log.length:=by omega
   obtain⟨z1,rfl⟩:=kY.get
   clear Jo kY QV NV iE
   repeat'(first|refine aF ?_|refine au ?_|(refine jr (λyn bn aU bD bC bG aS=>?_))|refine ak (λK hK=>?_)|refine aj ?_|refine aG ?_|refine bJ ?_|go_step)
   refine dn [(0,0),(2,0),(3,0),(1,1),(4,0),(5,0)] (by kernel_rfl) (by kernel_rfl) ?_
   repeat'(first|refine aF ?_|fail)
   refine fF (R:=λw0 v' w'=>aB w0 w'∧BX w' v' (c.rep (p:Int) (i:Int)).log∧∀ b,v'.ownBlock=some b→w0.heap.size≤b) Tryz.func21 (λz=>Dz (qy.out.ah (Et (by simp) z.ext)) oW.out.bU.ne (by omega)) (λz r w5 hR=>⟨hR.1,?_⟩)
   obtain⟨jY,vS,BF⟩:=hR
   obtain⟨A5,c5,rfl,hc5,ah5,-⟩:=(dQ.rd (enc:=cZ.cs) (k:=6) cZ.len vS).ent
   obtain⟨y5,rfl⟩:=jY.get
   clear jY
   have hgc:hg≤c5:=Nat.le_trans hle hc5
   have hgi:(hg:Int)≤(c5:Int):=by omega
   repeat'(first|refine aF ?_|refine aQ ?_|refine au ?_|refine ak (λK hK=>?_)|refine aj ?_|refine aJ ?_|go_step)
   have kY:aB w ((((((w.ah y2).ah y3).ah z1).ah yn).ah z).ah y5):=by simp
   have DL:yQ ((((((w.ah y2).ah y3).ah z1).ah yn).ah z).ah y5) (.slice A5 hg c5) ((c.rep (p:Int) (i:Int)).log.take hg):=(dQ.rd (enc:=cZ.cs) (k:=6) cZ.len vS).take hg hle
   have hrf:∀ k,(Value.slice A5 (c.rep (p:Int) (i:Int)).log.length c5).ownBlock=some k→w.heap.size≤k∧k<((((((w.ah y2).ah y3).ah z1).ah yn).ah z).ah y5).heap.size:=λk hk=>
    ⟨Nat.le_trans (bF.size (F:=λ_=>False) (show aB w _ by simp)) (BF k hk),vS.lt k hk⟩
   have aaH:kH ((((((w.ah y2).ah y3).ah z1).ah yn).ah z).ah y5) b2 (.pointer (some ⟨b,0,none⟩)):=(kH.of (cO.one p25.out) (by decide) rfl).ah (by simp:aB (w.ah y2) _)
   have ale:cO ((((((w.ah y2).ah y3).ah z1).ah yn).ah z).ah y5) b3 36 4 _:=(cO.new p35.out).ah (by simp:aB ((w.ah y2).ah y3) _)
   have au7:w.heap.size≤b2:=p21
   have au8:w.heap.size≤b3:=Nat.le_trans y2.ext.size p31
   generalize QO:((((((w.ah y2).ah y3).ah z1).ah yn).ah z).ah y5)=W1 at *
   obtain⟨NI,hNI⟩:∃ n:Nat,c.ctl.form.ids=n:=⟨c.ctl.form.ids.toNat,by have:=gB.dX HH.out.bU.ctl.right;omega⟩
   have au9:NI≤4:=by have:=gB.dX HH.out.bU.ctl.right;omega
   have BM:qU c.ctl.form.ids=(List.range NI).map Int.ofNat:=by unfold qU;rw[hNI];simp
   have hLL:(c.rep (p:Int) (i:Int)).log.take (c.rep (p:Int) (i:Int)).high.toNat=(c.rep (p:Int) (i:Int)).log.take hg:=by rw[hhg];rfl
   have HLL:=Zh hLL
   have HUP:=Zh BM
   rw[hNI]
   generalize Ib:(c.rep (p:Int) (i:Int)).log.take hg=L at *
   clear hLL
   have hLn:hg=L.length:=by rw[←Ib,List.length_take];omega
   have HRD:Hid (yQ W1 (.slice A5 L.length c5) L):=Zh (hLn▸DL)
   have HRF:Hid (∀k,(Value.slice A5 L.length c5).ownBlock=some k→w.heap.size≤k∧k<W1.heap.size):=Zh (λk hk=>by
    cases A5 with
    | none=>cases hk
    | some a=>exact hrf k hk)
   have su:=Zh aaH
   have xI:=Zh ale
   have qO:=Zh kY
   have HNI:=Zh hNI
   rw[hLn]
   have HPP:Hid ((1:Int)≤6∧(6:Int)≤7):=Zh (by decide)
   have Fg:eP W1 b (λk=>F k∧k<w.heap.size) c W1:=(HH.out.Fp.ah kY).jc (aB.refl _)
   obtain⟨-,A2,h2,hF2⟩:=Fg
   have H2:=Zh h2
   have HF2:=Zh hF2
   have hds:A.defers=Yt []:=hd
   clear Ib BM DL hrf aaH ale kY vS BF hgc hgi hc5 ah5 hLn UK JK hhg hle aU bD bC bG aS iR apu c2 QO hF2 h2 p21 p22 p23 p24 p25 p31 p35 hlt
   refine acC [2,3,8,35,36] (λm vs ds w'=>∃ (j:Nat) (rs:List Nat) (A1:og),j+m=NI∧vs=[.pointer (some ⟨b2,0,none⟩),.pointer (some ⟨b3,0,none⟩),.slice A5 L.length c5,.int .i64 NI,.int .i64 j]∧ds=Yt rs∧Du rs w'∧iJ w' b A1 (aO.gU (p:Int) L ((List.range j).map Int.ofNat) c)∧(∀k,A1.T k≠0→(F k∧k<w.heap.size)∨W1.heap.size≤k)∧bF (λk=>F k∧k<w.heap.size) W1 w'∧∀ r∈rs,W1.heap.size≤r∧A1.T r=0) NI hA (by decide)
    ⟨0,[],A2,by omega,by simp[jW],hds,⟨List.nodup_nil,λr hr=>by cases hr⟩,by simpa [aO.gU] using H2.out,HF2.out,bF.refl _ _,λr hr=>by cases hr⟩ ?_
   clear hd hA A hds H2 HF2 A2;intro m vs A w' hA _ ⟨j,rs,A1,hj,jk,hds,hmk,Fg,Pv,fM,hrs⟩;subst jk
   have HDS:=Zh hds
   have HMK:=Zh hmk
   have Io:=Zh Fg
   have HT1:=Zh Pv
   have EO:=Zh fM
   have XV:=Zh hrs
   clear hds hmk Fg Pv fM hrs
   simp only[List.zip_cons_cons,List.zip_nil_right,List.zip_nil_left]
   by_cases hjn:j<NI
   ·have oM:(j:Int)<(NI:Int):=by omega
    have Px:=Dc (p:Int) L (j:Int) ((List.range j).map Int.ofNat) c
    rw[Fa]at Px
    have LX:=Zh Px
    have Am:=Ep (p:Int) L ((List.range j).map Int.ofNat) c
    have Gx:=Zh Am
    generalize QS:aO.gU (p:Int) L ((List.range j).map Int.ofNat) c=cc at *
    clear Px Am QS
    have ava:b2<W1.heap.size:=su.out.1
    have avb:=xI.out.lt
    have ah6:Hid (yQ w' (.slice A5 L.length c5) L):=Zh (HRD.out.aW EO.out (λk hk e=>by have:=(HRF.out k hk).1;omega))
    repeat'(first|refine aF ?_|refine au ?_|refine ak (λK hK=>?_)|refine aj ?_|refine aG ?_|refine aJ ?_|(refine dI (λx K hK=>?_);go_simp;refine hK _ _ (aB.alloc _ _) ?_;clear hK K;refine aZ x ?_;generalize (World.ah _ x).heap.size=bn;intro yn aU bD bC bG aS;clear x)|refine bH ?_|go_step)
    rename Nat=>b9
    rename bM w'=>y9
    have hw9:w'.heap.size≤b9:=aU
    refine aY (off:=0) (cO.new aS.out) (λW8 Nq XP=>?_)
    have hE8:aB w' W8:=aB.bK (by simp:aB w' (w'.ah y9)) Nq (λk hk=>by subst hk;exact hw9)
    obtain⟨y8,rfl⟩:=hE8.get
    have iG:=Zh XP
    clear aU bD bC bG aS hE8 Nq XP y9
    repeat'(first|refine aF ?_|refine au ?_|refine ak (λK hK=>?_)|refine aj ?_|go_step)
    refine aX Tryz.func116 (Wq (ah6.out.ah y8.ext)) (λr w5 hR=>?_)
    obtain⟨bx,rfl,jY,avc,aaH,JM⟩:=hR
    have TP:aB w' w5:=Et y8.ext jY
    have avd:=y8.ext.size
    have HBX:=Zh JM
    have apx:Hid (kH w5 b9 (.int .i64 j)):=Zh ((kH.of iG.out (by decide) rfl).ah jY)
    have apy:=Zh (Io.out.ah TP)
    have apz:=Zh (ah6.out.ah TP)
    have apA:Hid (kH w5 b2 (.pointer (some ⟨b,0,none⟩))):=Zh ((su.out.aW EO.out (λe=>by omega)).ah TP)
    have apB:=Zh ((xI.out.aW EO.out (λe=>by omega)).ah TP)
    have zM:=Zh Io.out.lt
    have uo:=Zh (bF.trans EO.out TP (H:=λk=>F k∧k<w.heap.size) (λ_ _ h=>h) (λ_ _ h=>h.elim))
    have acE:=Zh (HMK.out.aW TP (λ_ _ h=>h))
    have ave:=TP.size
    have Jo:=EO.out.size
    clear jY JM TP iG ah6 EO HMK
    repeat'(first|refine au ?_|refine aJ ?_|go_step)
    refine XH (ps:=[41,42]) (encs:=λx:Int×cZ=>[.int .i64 x.1,x.2.v]) Tryz.func166 (by kernel_rfl) (ZE apz.out aaH HBX.out) (λ_=>rfl) (by go_simp;exact Is.mk _)
     (λpre B W=>B=(λk=>A1.T k≠0)∧iJ W b A1 cc∧aB w5 W∧∀ x∈pre,vH (j:Int) x.2=false)
     (λcd pre B W=>cd=.exit 2∧∃ (A2:og) (n:Int),aO.sO L (j:Int)=some n∧B=(λk=>A2.T k≠0)∧iJ W b A2 (cc.put (acD p j n))∧(∀k,A2.T k≠0→A1.T k≠0∨w5.heap.size≤k)∧bF (λk=>A1.T k≠0) w5 W) ?_ ?_ (λk=>A1.T k≠0) ⟨rfl,apy.out,aB.refl _,λx hx=>by cases hx⟩ ?_ ?_ ?_ ?_
    ·rintro pre B W W' ⟨rfl,Na,hE,hp⟩ hM
     exact⟨rfl,Na.aW hM (λk hk h=>h.1 hk),bF.trans hE hM (λ_ _ h=>h) (λk hk h=>by have:=h.2;omega),hp⟩
    ·rintro cd pre B W W' ⟨rfl,A2,n,Xn,rfl,Jr,QI,kL⟩ hM
     exact⟨rfl,A2,n,Xn,rfl,Jr.aW hM (λk hk h=>h.1 hk),QI,bF.trans kL hM (λ_ _ h=>h) (λk hk h=>by have:=h.2;omega)⟩
    ·intro k hk
     have h1:=zM.out k hk
     refine⟨by omega,?_⟩
     rintro(h|h)
     ·omega
     ·have h2:=HRF.out k h
      rcases HT1.out k hk with h3|h3<;>omega
    ·rintro l1 pre B x W wF Yj ⟨rfl,Na,hE,hp⟩ hBl JH
     obtain⟨x1,ep,id,num,seq,kd,val⟩:=x
     simp only[List.zip_cons_cons,List.zip_nil_right,List.reverse_cons,List.reverse_nil,List.nil_append,List.singleton_append,List.cons_append]
     repeat'(first|refine au ?_|(refine jr (λyn bn aU bD bC bG aS=>?_))|refine aj ?_|go_step)
     refine⟨by simp,λW2 kL=>?_⟩
     have hYs:=yn.ext.size
     have hEs:=hE.size
     have h11:=(cO.new aS.out).aW kL (by omega)
     have q1:=h11.cell (k:=1) (by simp)
     have q2:=h11.cell (k:=2) (by simp)
     have q4:=h11.cell (k:=4) (by simp)
     simp at q1 q2 q4
     have avf:=h11.lt
     have acF:aB w5 W2:=bF.trans (Et hE yn.ext) kL (λ_ _ h=>h) (λk hk e=>by subst e;omega)
     obtain⟨l9,x9⟩:=apx.out.ah acF
     obtain⟨l2,x2⟩:=apA.out.ah acF
     have ah7:=apB.out.ah acF
     have z1:=ah7.cell (k:=1) (by omega)
     simp at z1
     have O8:=ah7.lt
     have Jr:iJ W2 b A1 cc:=(Na.ah yn.ext).aW kL (λk hk e=>(hBl k hk).1 e)
     have apC:W.heap.size≤W2.heap.size:=Nat.le_trans hYs kL.size
     have kG:=Zh Jr
     have ah8:=Zh acF
     have HP:=Zh hp
     have apD:=Zh JH
     clear aU bD bC bG aS h11 acF ah7 Jr Na hp JH hBl kL hYs
     have adE:∀ k,A1.T k≠0→k<W2.heap.size:=λk hk=>kG.out.lt k hk
     have HFA:=Zh adE
     clear adE
     by_cases hmk:vH (j:Int) ⟨ep,id,num,seq,kd,val⟩=true
     ·have hm2:=hmk
      simp only[vH,Bool.and_eq_true,beq_iff_eq,bne_iff_ne]at hm2
      obtain⟨rfl,hkd⟩:=hm2
      have O7:(kd != 1)=true:=by simp[hkd]
      have ah9:=Zh hmk
      clear hmk hkd
      repeat'(first|refine dw ?_|refine aF ?_|refine au ?_|refine ak (λK hK=>?_)|refine aj ?_|refine aJ ?_|refine bH ?_|go_step)
      refine aX Tryz.func106 (Ak (F:=λk=>A1.T k≠0) (x:=⟨{eu.zero with kind:=6,to:= -1,part:=(p:Int),ent:=⟨0,(j:Int),num,0,0,0⟩},.slice none 0 0,.slice none 0 0,.slice none 0 0⟩) ⟨A1,kG.out,λ_ h=>h⟩ ⟨Rd.nil _,Rd.nil _,Rd.nil _,Nat.zero_le _,Nat.zero_le _,Nat.zero_le _⟩ ⟨by show (1:Int)≤6∧(6:Int)≤7;decide,by rw[Gx.out];exact fV CZ.out.1,(λe=>by cases e),λ_=>rfl,Nat.zero_le _,Nat.zero_le _,Nat.zero_le _⟩) (λr w3 hR=>?_)
      obtain⟨rfl,jd,A3,hc3,hT3⟩:=hR
      have mZ:=Zh hc3
      have HT3:=Zh hT3
      have FB:=Zh jd
      clear hc3 hT3 jd
      repeat'(first|refine au ?_|refine dS ?_|go_step)
      have Xn:aO.sO L (j:Int)=some num:=TL (pre:=pre.map (·.2)) (x:=⟨ep,(j:Int),num,seq,kd,val⟩) (by have:=apD.out;simpa using this) (λe he=>by
       obtain⟨y,hy,rfl⟩:=List.mem_map.1 he
       exact HP.out y hy) ah9.out
      have Kr:=ah8.out.size
      exact⟨_,⟨rfl,A3,num,Xn,rfl,mZ.out,λk hk=>(HT3.out k hk).imp id (λh=>Nat.le_trans Kr h),bF.trans ah8.out FB.out (λ_ _ h=>h.elim) (λ_ _ h=>h)⟩,bF.mono FB.out (λk _ h=>.inl h),λk hk=>⟨(HT3.out k hk).imp id (λh=>Nat.le_trans apC h),mZ.out.lt k hk⟩⟩
     ·have hmk:vH (j:Int) ⟨ep,id,num,seq,kd,val⟩=false:=by simpa using hmk
      have ah9:=Zh hmk
      have uF:∃ B',(B'=(λk=>A1.T k≠0)∧iJ W2 b A1 cc∧aB w5 W2∧∀ x∈pre++[(x1,(⟨ep,id,num,seq,kd,val⟩:cZ))],vH (j:Int) x.2=false)∧bF (λk=>A1.T k≠0∨W.heap.size≤k) W2 W2∧∀ k,B' k→(A1.T k≠0∨W.heap.size≤k)∧k<W2.heap.size:=
       ⟨_,⟨rfl,kG.out,ah8.out,λy hy=>by
        rcases List.mem_append.1 hy with h|h
        ·exact HP.out y h
        ·obtain rfl:=List.mem_singleton.1 h;exact ah9.out⟩,bF.refl _ _,λk hk=>⟨.inl hk,HFA.out k hk⟩⟩
      have alg:=Zh uF
      clear uF
      by_cases hid:id=(j:Int)
      ·have hkd:kd=1:=by
        simp only[vH,hid,beq_self_eq_true,Bool.true_and]at hmk
        simpa using hmk
       subst hid hkd
       clear hmk
       repeat'(first|refine dw ?_|refine aF ?_|refine au ?_|refine ak (λK hK=>?_)|refine aj ?_|refine aG ?_|refine aJ ?_|refine bJ ?_|go_step)
       exact alg.out
      ·have hib:(id==(j:Int))=false:=by simp[hid]
       clear hmk hid
       repeat'(first|refine aF ?_|refine mg ?_|refine jF ?_|refine au ?_|refine ak (λK hK=>?_)|refine aj ?_|refine aG ?_|refine aJ ?_|refine bJ ?_|go_step)
       exact alg.out
    ·rintro D xs B W hD hBD hS ⟨rfl,Na,hE,hp⟩ hDD
     have Xn:aO.sO L (j:Int)=none:=TM (λe he=>by
      have h1:e∈xs.map (·.2):=by rw[hS];exact List.mem_reverse.2 he
      obtain⟨y,hy,rfl⟩:=List.mem_map.1 h1
      exact hp y hy)
     rw[Xn]at LX
     have uF:∃ (j2:Nat) (rs2:List Nat) (A2:og),j2=j+1∧rs2=D::rs∧Du rs2 W∧iJ W b A2 (aO.gU (p:Int) L ((List.range j2).map Int.ofNat) c)∧(∀k,A2.T k≠0→(F k∧k<w.heap.size)∨W1.heap.size≤k)∧bF (λk=>F k∧k<w.heap.size) W1 W∧∀ r∈rs2,W1.heap.size≤r∧A2.T r=0:=by
      have BI:=acE.out.aW hE (λ_ _ h=>h)
      refine⟨_,_,A1,rfl,rfl,⟨List.nodup_cons.2 ⟨λhm=>?_,BI.1⟩,λr hr=>?_⟩,by rw[LX.out];exact Na,HT1.out,bF.trans uo.out hE (λ_ _ h=>h) (λ_ _ h=>h.elim),λr hr=>?_⟩
      ·have:=(Array.getElem?_eq_some_iff.1 (acE.out.2 D hm)).1;omega
      ·rcases List.mem_cons.1 hr with rfl|hr
       ·exact hDD
       ·exact BI.2 r hr
      ·rcases List.mem_cons.1 hr with rfl|hr
       ·exact⟨by omega,Classical.byContradiction hBD⟩
       ·exact XV.out r hr
     obtain⟨j2,rs2,A2,rfl,rfl,acG,acH,QI,kL,acI⟩:=uF
     have aia:=Zh acG
     have aib:=Zh acH
     have HT2:=Zh QI
     have IK:=Zh kL
     have aic:=Zh acI
     clear acG acH QI kL acI Na hE hp Xn hS hBD hDD
     repeat'(first|refine aF ?_|refine au ?_|refine aj ?_|go_step)
     exact⟨_,_,rfl,hA,m-1,by omega,j+1,D::rs,A2,by omega,by simp[jW],by show _::A.defers=_;rw[HDS.out];rfl,aia.out,aib.out,HT2.out,IK.out,aic.out⟩
    ·rintro D cd pre B W hD hBD ⟨rfl,A2,n,Xn,rfl,Jr,QI,kL⟩ hDD
     rw[Xn]at LX
     have uF:∃ (j2:Nat) (rs2:List Nat),j2=j+1∧rs2=D::rs∧Du rs2 W∧iJ W b A2 (aO.gU (p:Int) L ((List.range j2).map Int.ofNat) c)∧(∀k,A2.T k≠0→(F k∧k<w.heap.size)∨W1.heap.size≤k)∧bF (λk=>F k∧k<w.heap.size) W1 W∧∀ r∈rs2,W1.heap.size≤r∧A2.T r=0:=by
      have BI:=acE.out.aW kL (λr hr h=>h (XV.out r hr).2)
      refine⟨_,_,rfl,rfl,⟨List.nodup_cons.2 ⟨λhm=>?_,BI.1⟩,λr hr=>?_⟩,by rw[LX.out];exact Jr,λk hk=>?_,bF.trans uo.out kL (λ_ _ h=>h) (λk hk h=>?_),λr hr=>?_⟩
      ·have:=(Array.getElem?_eq_some_iff.1 (acE.out.2 D hm)).1;omega
      ·rcases List.mem_cons.1 hr with rfl|hr
       ·exact hDD
       ·exact BI.2 r hr
      ·rcases QI k hk with h|h
       ·exact HT1.out k h
       ·right;omega
      ·rcases HT1.out k h with h1|h1
       ·exact h1
       ·omega
      ·rcases List.mem_cons.1 hr with rfl|hr
       ·exact⟨by omega,Classical.byContradiction hBD⟩
       ·refine⟨(XV.out r hr).1,Classical.byContradiction λh=>?_⟩
        rcases QI r h with h1|h1
        ·exact h1 (XV.out r hr).2
        ·have:=(Array.getElem?_eq_some_iff.1 (acE.out.2 r hr)).1;omega
     obtain⟨j2,rs2,rfl,rfl,acG,acH,QI,kL,acI⟩:=uF
     have aia:=Zh acG
     have aib:=Zh acH
     have HT2:=Zh QI
     have IK:=Zh kL
     have aic:=Zh acI
     clear acG acH QI kL acI Jr Xn hBD hDD
     repeat'(first|refine aF ?_|refine au ?_|refine aj ?_|refine dS ?_|go_step)
     exact⟨_,_,rfl,hA,m-1,by omega,j+1,D::rs,A2,by omega,by simp[jW],by show _::A.defers=_;rw[HDS.out];rfl,aia.out,aib.out,HT2.out,IK.out,aic.out⟩
   ·obtain rfl:j=NI:=by omega
    clear hj hjn hNI
    repeat'(first|refine aF ?_|refine au ?_|refine ak (λK hK=>?_)|refine aj ?_|refine aC ?_|refine dS ?_|refine bJ ?_|go_step)
    refine ZF HDS.out HMK.out (λw2 hM=>⟨rfl,?_⟩)
    rw[HLL.out,HUP.out]
    have bP:eP W1 b (λk=>F k∧k<w.heap.size) (aO.gU (p:Int) L ((List.range j).map Int.ofNat) c) w2:=
     ⟨bF.trans EO.out hM (λ_ _ h=>h) (λk hk h=>by have:=(XV.out k h).1;omega),A1,Io.out.aW hM (λk hk h=>hk (XV.out k h).2),HT1.out⟩
    exact(bP.mono (λk _ h=>h.1) (λk h=>.inl h.1)).ext qO.out
  ·have hrb:((c.rep (p:Int) (i:Int)).role != 3)=true:=by simp[MX]
   rw[if_pos MX,if_pos MX]
   clear MX
   refine Fi (n:=62) Tryz.func54 ?_;intro A hd hA;simp only[ix,Nat.reduceAdd]
   repeat'(first|refine aN Tryz.func111 (CX ⟨kind,(p:Int),(i:Int),xc⟩ (HA.out.ah (by simp)) rfl rfl CZ.out.1 CZ.out.2 J3.out J4.out) ?_|refine aF ?_|refine au ?_|refine ak (λK hK=>?_)|refine aj ?_|refine aG ?_|(refine dI (λx K hK=>?_);go_simp;refine hK _ _ (aB.alloc _ _) ?_;clear hK K;refine aZ x ?_;generalize (World.ah _ x).heap.size=bn;intro yn aU bD bC bG aS;clear x)|refine bJ ?_|go_step)
   refine aX Tryz.func20 (wu (qy.out.ah (by simp)) oW.out.bU.ne (by have:=oW.out.bU.NY;omega) (by have:=oW.out.bU.NY;omega)) (λr w1 hR=>?_)
   obtain⟨kY,u1,u2,u3,rfl,QV,NV,iE,-⟩:=hR
   obtain⟨A1,c1,rfl,-⟩:=QV.int
   obtain⟨A2,c2',rfl,-⟩:=NV.int
   obtain⟨A3,c3,rfl,-⟩:=iE.int
   have Jo:(c.rep (p:Int) (i:Int)).qH.role=(c.rep (p:Int) (i:Int)).role:=by unfold aI.qH;split<;>rfl
   rw[←Jo]at hrb
   obtain⟨z1,rfl⟩:=kY.get
   clear Jo kY QV NV iE
   repeat'(first|refine aF ?_|refine au ?_|(refine jr (λyn bn aU bD bC bG aS=>?_))|refine ak (λK hK=>?_)|refine aj ?_|refine aC ?_|refine bH ?_|go_step)
   exact aA hd ⟨rfl,HH.out.jc (by simp)⟩
end Go.Ws
