/- Lemmas for the statements of this layer (joined texts); no condition. -/
import Derived.Test.YtdabdbmehmccnaaGreatCa10
import Derived.Test.YtdabdbmehmccnaaGreatCa11
namespace Go.Ws
open Go Go.RowKit Go.Proofs
set_option maxHeartbeats 4000000
set_option maxRecDepth 100000
set_option linter.unusedVariables false
set_option linter.unusedSimpArgs false
section
variable {c : aO}
theorem Ip (m:eu):(c.put m).ctl=c.ctl:=by unfold aO.put;split<;>rfl
theorem Jg (b dY:Int):∀ (ps:List Int) (c:aO),(aO.jw b dY ps c).ctl=c.ctl
 | [],c=>rfl
 | p::ps,c=>by show (aO.jw b dY ps _).ctl=_;rw[Jg b dY ps];rfl
theorem MB (i:Int) (w:bW):∀ (ps:List Int) (c:aO),(aO.iY i w ps c).ctl=c.ctl
 | [],c=>rfl
 | p::ps,c=>by
  show (aO.iY i w ps _).ctl=_
  rw[MB i w ps]
  split
  ·exact Ip _
  ·rfl
theorem Gy (p:Int) (l:List cZ):∀ (is:List Int) (c:aO),(aO.gU p l is c).ctl=c.ctl
 | [],c=>rfl
 | j::is,c=>by
  show (aO.gU p l is _).ctl=_
  rw[Gy p l is]
  split
  ·exact Ip _
  ·rfl
theorem TU (c:aO) (m:eu):(c.lC m).1.ctl.form=c.ctl.form:=by
 unfold aO.lC
 split
 ·exact Ad _ _ _ _ _
 split
 ·exact yh _ _ _
 split
 ·rfl
 split
 ·show (ite _ _ _:aO).ctl.form=_
  split
  ·rw[Ip];rfl
  ·rfl
 split<;>rfl
theorem ain (c:aO) (x:bV):(c.one x).1.ctl.form=c.ctl.form:=by
 unfold aO.one
 split
 ·rw[Ip]
 split
 ·split
  ·rfl
  ·split
   ·rw[Ip]
   ·rfl
 split
 ·rfl
 split
 ·split
  ·rfl
  ·show (ite _ _ _:aO).ctl.form=_
   split
   ·rw[Ip];rfl
   ·rfl
 split
 ·split
  ·rfl
  ·rw[Gy]
 rfl
theorem afb (c:aO) (x:bV):(c.step x).1.ctl.form=c.ctl.form:=by
 unfold aO.step
 split
 ·exact zY _ _ _
 split
 ·exact zZ _
 split
 ·exact uN _
 split
 ·split
  ·rfl
  ·rw[Jg]
 split
 ·unfold aO.mark
  split
  ·rfl
  split
  ·rfl
  ·rw[MB]
 split
 ·unfold aO.rC
  split
  ·rfl
  split
  ·rfl
  split
  ·exact TU _ _
  ·rw[TU];rfl
 split
 ·unfold aO.qL
  split
  ·rfl
  split
  ·rfl
  ·exact DC _
 split
 ·split
  ·rfl
  ·exact ain _ _
 rfl
end
theorem Gz:∀ (l:List cZ) (p:Int) (n:Nat),iI p l=true→iI p (l.take n)=true
 | [],_,_,_=>by simp[iI]
 | x::xs,p,0,_=>rfl
 | x::xs,p,n+1,h=>by
  rw[lQ]at h
  simp only[Bool.and_eq_true]at h
  rw[List.take_succ_cons,lQ,Gz xs x.ep n h.2,h.1.1,h.1.2];rfl
theorem Az:∀ (l:List cZ) (p:Int),iI p l=true→∀ e∈l,e.ep≤gZ l
 | [],_,_,e,he=>by cases he
 | [x],_,_,e,he=>by
  obtain rfl:e=x:=by simpa using he
  exact Int.le_refl _
 | x::y::xs,p,h,e,he=>by
  rw[lQ]at h
  simp only[Bool.and_eq_true]at h
  have hl:gZ (x::y::xs)=gZ (y::xs):=by unfold gZ;rw[List.getLast?_cons_cons]
  rw[hl]
  rcases List.mem_cons.1 he with rfl|he
  ·have h1:=LJ (y::xs) _ h.2 y (by simp)
   have h2:=Az (y::xs) _ h.2 y (by simp)
   omega
  ·exact Az (y::xs) _ h.2 e he
theorem TV {l:List cZ} {ep:Int} {m:Nat} (h:iI 1 l=true) (hm:m≤l.length) (he:∀ k e,k<m→l[k]? =some e→e.ep≤ep):m≤dO l ep:=by
 rcases Nat.lt_or_ge (dO l ep) m with h1|h1
 ·have hk:dO l ep<l.length:=by omega
  have h2:=(Zp l 1 ep h (dO l ep) _ (List.getElem?_eq_getElem hk)).1 (he _ _ h1 (List.getElem?_eq_getElem hk))
  omega
 ·exact h1
theorem ZV {s:aI} {p:iM} {W:List cZ} {m:Nat} (hs:iI 1 s.log=true) (hW:iI 1 W=true) (hm:m≤W.length) (he:s.log.take m=W.take m) (hml:m<s.log.length)
  (uF:p.qI=dO W (gZ s.log)) (UH:p.jv=gZ (W.take (dO W (gZ s.log)))):(m:Int)≤s.tZ p:=by
 have amv:∀ k,k<m→s.log[k]? =W[k]? :=λk hk=>by
  have h1:(s.log.take m)[k]? =(W.take m)[k]? :=by rw[he]
  rwa [List.getElem?_take,List.getElem?_take,if_pos hk,if_pos hk]at h1
 have h1:m≤dO W (gZ s.log):=TV hW hm (λk e hk hg=>by
  rw[←amv k hk]at hg
  exact Az s.log 1 hs e (List.mem_of_getElem? hg))
 have h2:m≤dO s.log p.jv:=TV hs (by omega) (λk e hk hg=>by
  rw[amv k hk]at hg
  rw[UH]
  refine Az _ 1 (Gz W 1 _ hW) e ?_
  have:(W.take (dO W (gZ s.log)))[k]? =some e:=by rw[List.getElem?_take,if_pos (by omega)];exact hg
  exact List.mem_of_getElem? this)
 unfold aI.tZ
 rw[nO,jE,uF]
 omega
structure PS where
 nb:Int
 view:dL
 rep:Int→aI
 iq:eu→Prop
structure Gh where
 W:Int→List cZ
 S:Int→Nat
 st:Int→Prop
 ld:Int→Int
 K:List cZ
 zC:Int
def PS.jU (s:PS) (b:Int):Prop:=0≤b∧b<s.nb
def PS.aP (s:PS) (b:Int) (r:aI):PS:={s with rep:=λx=>if x=b then r else s.rep x}
def PS.add (s:PS) (m:eu):PS:={s with iq:=λx=>s.iq x∨x=m}
theorem fC (s:PS) (b:Int) (r:aI):(s.aP b r).rep b=r:=by simp[PS.aP]
theorem DF (s:PS) {b x:Int} (r:aI) (h:x≠b):(s.aP b r).rep x=s.rep x:=by simp[PS.aP,h]
def zD (r:aI):List cZ:=r.log.take r.flushed.toNat
def BK (r:aI):List cZ:=r.log.take r.high.toNat
def Gh.qM (g:Gh) (e:Int):List cZ:=(g.W e).take (g.S e)
def Df (g:Gh) (l:List cZ):Prop:=∀ k x,l[k]? =some x→g.st x.ep∧g.S x.ep≤k∧l.take (k+1)<+:g.W x.ep
theorem Df.nil (g:Gh):Df g []:=λk x h=>by cases h
theorem Df.take {g:Gh} {l:List cZ} (h:Df g l) (n:Nat):Df g (l.take n):=λk x hx=>by
 rw[List.getElem?_take]at hx
 split at hx
 ·rename_i hk
  have:=h k x hx
  rw[List.take_take,Nat.min_eq_left (by omega)]
  exact this
 ·cases hx
theorem Df.pre {g:Gh} {l l':List cZ} (h:Df g l) (hp:l'<+:l):Df g l':=by
 rw[List.prefix_iff_eq_take.1 hp];exact h.take _
theorem Df.amw {g:Gh} {l:List cZ} {x:cZ} (h:Df g l) (hs:g.st x.ep) (hS:g.S x.ep≤l.length) (hp:l++[x]<+:g.W x.ep):Df g (l++[x]):=λk y hy=>by
 rcases Nat.lt_or_ge k l.length with hk|hk
 ·rw[List.getElem?_append_left hk]at hy
  rw[List.take_append_of_le_length (by omega)]
  exact h k y hy
 ·rw[List.getElem?_append_right hk]at hy
  have h0:k-l.length=0:=by
   cases kS:k-l.length with
   | zero=>rfl
   | succ n=>rw[kS]at hy;simp at hy
  rw[h0]at hy
  obtain rfl:x=y:=by simpa using hy
  have kS:k=l.length:=by omega
  subst kS
  refine⟨hs,hS,?_⟩
  rw[List.take_of_length_le (by simp)]
  exact hp
theorem Df.jc {g:Gh} {a b:List cZ} (ha:Df g a) (hb:Df g b) (hl:a.length=b.length) (he:gZ a=gZ b):a=b:=by
 cases hn:a.length with
 | zero=>
  have h1:a=[]:=List.length_eq_zero_iff.1 hn
  have h2:b=[]:=List.length_eq_zero_iff.1 (by omega)
  rw[h1,h2]
 | succ n=>
  obtain⟨x,hx⟩:∃ x,a[n]? =some x:=⟨_,List.getElem?_eq_getElem (by omega)⟩
  obtain⟨y,hy⟩:∃ y,b[n]? =some y:=⟨_,List.getElem?_eq_getElem (by omega)⟩
  have h1:=(ha _ _ hx).2.2
  have h2:=(hb _ _ hy).2.2
  have e1:=Ih hx
  have e2:=Ih hy
  have t1:a.take (n+1)=a:=List.take_of_length_le (by omega)
  have t2:b.take (n+1)=b:=List.take_of_length_le (by omega)
  rw[t1]at h1 e1
  rw[t2]at h2 e2
  have e3:x.ep=y.ep:=by rw[←e1,←e2,he]
  rw[e3]at h1
  have p1:=List.prefix_iff_eq_take.1 h1
  have p2:=List.prefix_iff_eq_take.1 h2
  rw[p1,p2,hl]
theorem Fe {a b c:List cZ} (h1:a<+:c) (h2:b<+:c) (h:a.length≤b.length):a<+:b:=List.prefix_of_prefix_length_le h1 h2 h
theorem pJ {a b:List cZ} (h:a<+:b) {n:Nat} (hn:a.length≤n):a<+:b.take n:=by
 rw[List.prefix_iff_eq_take.1 h]
 exact⟨(b.take n).drop a.length,by
  have:b.take a.length=(b.take n).take a.length:=by rw[List.take_take,Nat.min_eq_left hn]
  rw[this,List.take_append_drop]⟩
theorem iQ (l:List cZ) (n:Nat):l.take n<+:l:=List.take_prefix n l
def UE (g:Gh) (f:pW) (X:List cZ):Prop:=Df g X∧(X.length:Int)=f.offset∧gZ X=f.last
def PS.sW (s:PS) (l:List Int):Prop:=l=s.view.isr∨∃ m,s.iq m∧m.kind=4∧m.alter.epoch=s.view.epoch∧m.alter.version=s.view.version∧l=m.alter.isr
def wJ (s:PS) (g:Gh) (e b:Int):Prop:=(∃l,s.sW l∧b∈l)∨∃ e1,e<e1∧e1≤s.view.epoch∧¬ g.st e1∧g.ld e1=b∧s.jU b∧(s.rep b).epoch<e1
def PS.nJ (s:PS) (e v:Int) (l:List Int):Prop:=(∃m,s.iq m∧m.kind=1∧m.view.epoch=e∧v<m.view.version∧l=m.view.isr)∨(e=s.view.epoch∧v<s.view.version∧l=s.view.isr)
inductive lG (s:PS) (g:Gh) (e:Int):List Int→(Int→Int)→List cZ→Prop
 | now:s.jU (g.ld e)→(s.rep (g.ld e)).role=3→(s.rep (g.ld e)).epoch=e→lG s g e (s.rep (g.ld e)).counts (λc=>(s.rep (g.ld e)).known c.toNat) (g.W e)
 | next {l:List Int}:s.jU (g.ld e)→(s.rep (g.ld e)).role=3→(s.rep (g.ld e)).epoch=e→s.nJ e (s.rep (g.ld e)).version l→lG s g e l (λc=>(s.rep (g.ld e)).known c.toNat) (g.W e)
 | first{l:List Int} {v:Int} {Y:List cZ}:s.jU (g.ld e)→¬ g.st e→1≤e→(s.rep (g.ld e)).epoch<e→s.nJ e v l→lG s g e l (λ_=> -1) Y
def rX (s:PS) (g:Gh) (e:Int) (kn:Int→Int) (Y:List cZ) (c:Int) (n:Nat):Prop:=
 (n:Int)≤kn c∨∃ m X,s.iq m∧m.kind=2∧m.fetch.mD=c∧m.fetch.epoch=e∧UE g m.fetch X∧X<+:Y∧(n:Int)≤m.fetch.flushed
def afR (s:PS) (g:Gh) (e:Int) (Z:List cZ):Prop:=
 (∀e1,e<e1→g.st e1→Z<+:g.qM e1)∧∀ b,wJ s g e b→e<(s.rep b).epoch→Z<+:zD (s.rep b)
structure aln (s:PS) (g:Gh):Prop where
 nb:1≤s.nb∧s.nb≤4
 self:∀ b,s.jU b→(s.rep b).self=b
 out:∀ b,¬s.jU b→(s.rep b).epoch=0
 fine:∀ b,s.jU b→(s.rep b).oU
 view:0≤s.view.epoch∧0≤s.view.version
 isr:s.view.isr≠[]∧∀ b∈s.view.isr,s.jU b
 ZW:s.view.leader=g.ld s.view.epoch
 uZ:s.view.leader≠ -1→s.view.leader∈s.view.isr
 ep:∀ b,s.jU b→(s.rep b).epoch≤s.view.epoch
 st:∀ e,g.st e→1≤e∧e≤s.view.epoch∧s.jU (g.ld e)∧e≤(s.rep (g.ld e)).epoch∧g.S e≤(g.W e).length∧iI 1 (g.W e)=true
 alive:∀ b,s.jU b→(s.rep b).role=3→g.st (s.rep b).epoch∧g.ld (s.rep b).epoch=b∧(s.rep b).log=g.W (s.rep b).epoch∧b∈(s.rep b).counts∧(∀x∈(s.rep b).counts,s.jU x)∧(s.rep b).qM=g.S (s.rep b).epoch
structure alo (s:PS) (g:Gh):Prop where
 rep:∀ b,s.jU b→Df g (s.rep b).log
 w:∀ e,g.st e→Df g (g.W e)
 MC:∀ b,s.jU b→∀ x∈(s.rep b).log,x.ep≤(s.rep b).epoch
 X7:∀ e,g.st e→∀ k x,(g.W e)[k]? =some x→x.ep≤e∧(x.ep=e↔g.S e≤k)
structure alp (s:PS) (g:Gh):Prop where
 fetch:∀ m,s.iq m→m.kind=2→s.jU m.fetch.mD∧m.fetch.epoch≤(s.rep m.fetch.mD).epoch∧0≤m.fetch.flushed∧m.fetch.flushed≤m.fetch.offset∧
  ∃X,UE g m.fetch X∧(∀x∈X,x.ep≤m.fetch.epoch)∧((s.rep m.fetch.mD).epoch=m.fetch.epoch→(g.st m.fetch.epoch→X<+:g.W m.fetch.epoch)→X.take m.fetch.flushed.toNat<+:zD (s.rep m.fetch.mD))
 known:∀ b,s.jU b→(s.rep b).role=3→∀ c,s.jU c→c≠b→0≤(s.rep b).known c.toNat→(s.rep b).epoch≤(s.rep c).epoch∧(s.rep b).known c.toNat≤(g.W (s.rep b).epoch).length∧
  ((s.rep c).epoch=(s.rep b).epoch→(g.W (s.rep b).epoch).take ((s.rep b).known c.toNat).toNat<+:zD (s.rep c))
 reply:∀ m,s.iq m→m.kind=3→g.st m.reply.epoch∧0≤m.reply.base∧
  (m.reply.cut=false→((g.W m.reply.epoch).take m.reply.base.toNat).length=m.reply.base.toNat∧gZ ((g.W m.reply.epoch).take m.reply.base.toNat)=m.reply.last∧(g.W m.reply.epoch).take m.reply.base.toNat++m.reply.entries<+:g.W m.reply.epoch∧
   0≤m.reply.high∧m.reply.high≤(g.W m.reply.epoch).length∧(g.W m.reply.epoch).take m.reply.high.toNat<+:g.K)∧
  (m.reply.cut=true→m.reply.last<m.reply.epoch∧¬ (m.reply.base≤(g.W m.reply.epoch).length∧gZ ((g.W m.reply.epoch).take m.reply.base.toNat)=m.reply.last)∧
   m.reply.qI=dO (g.W m.reply.epoch) m.reply.last∧m.reply.jv=gZ ((g.W m.reply.epoch).take (dO (g.W m.reply.epoch) m.reply.last)))
structure amx (s:PS) (g:Gh):Prop where
 tell:∀ m,s.iq m→m.kind=1→m.view.epoch≤s.view.epoch∧m.view.leader=g.ld m.view.epoch∧(∀x∈m.view.isr,s.jU x)∧(m.view.epoch=s.view.epoch→m.view.version≤s.view.version∧(m.view.version=s.view.version→m.view.isr=s.view.isr))
 GH:∀ b,s.jU b→(s.rep b).role=3→(s.rep b).epoch=s.view.epoch→(s.rep b).version≤s.view.version∧((s.rep b).version=s.view.version→(s.rep b).isr=s.view.isr)
 alter:∀ m,s.iq m→m.kind=4→m.alter.epoch≤s.view.epoch∧m.alter.leader=g.ld m.alter.epoch∧g.st m.alter.epoch∧(m.alter.epoch=s.view.epoch→m.alter.version≤s.view.version∧(∀b∈m.alter.isr,s.jU b)∧m.alter.leader∈m.alter.isr∧
   ∀b,s.jU b→(s.rep b).role=3→(s.rep b).epoch=s.view.epoch→m.alter.version≤(s.rep b).version)
structure alq (s:PS) (g:Gh):Prop where
 c1:∀ e C kn Y,lG s g e C kn Y→∀ b,wJ s g e b→b∈C∨e<(s.rep b).epoch
 c2:∀ e C kn Y,lG s g e C kn Y→∀ n:Nat,n≤Y.length→(∀c∈C,c≠g.ld e→e<(s.rep c).epoch→rX s g e kn Y c n)→afR s g e (Y.take n)
 c3:∀ e C kn Y,lG s g e C kn Y→((∃e1,e<e1∧g.st e1)∨∃ b,wJ s g e b∧e<(s.rep b).epoch)→∃ c∈C,c≠g.ld e∧e<(s.rep c).epoch
structure apJ (s:PS) (g:Gh):Prop where
 zC:0≤g.zC∧g.zC≤s.view.epoch
 ZX:g.zC=0∨g.st g.zC
 k1:∀ b,wJ s g g.zC b→g.zC≤(s.rep b).epoch∧g.K<+:zD (s.rep b)
 k2:(g.st g.zC→g.K<+:g.W g.zC)∧∀ e,g.zC<e→g.st e→g.K<+:g.qM e
 k4:∃ h,s.jU h∧g.zC≤(s.rep h).epoch∧BK (s.rep h)=g.K∧(s.rep h).high≤(s.rep h).flushed
 k5:∀ b,s.jU b→BK (s.rep b)<+:g.K
 k8:∀ b,s.jU b→(s.rep b).role=3→(s.rep b).epoch=g.zC→BK (s.rep b)=g.K
structure oO (s:PS) (g:Gh):Prop where
 b:aln s g
 m:alo s g
 f:alp s g
 v:amx s g
 c:alq s g
 k:apJ s g
inductive pK:PS→PS→Prop
 | oK {s:PS} (b:Int):b∈s.view.isr→s.view.epoch<bQ→pK s {s with view:=⟨b,s.view.epoch+1,s.view.version+1,s.view.isr⟩}
 | fence {s:PS} (b:Int) (v:dL):aH.fenced b s.view=some v→v.isr≠[]→pK s {s with view:=v}
 | alter {s:PS} (m:eu):s.iq m→m.kind=4→m.alter.leader=s.view.leader→m.alter.epoch=s.view.epoch→m.alter.version=s.view.version→m.alter.isr≠[]→pK s {s with view:={s.view with isr:=m.alter.isr,version:=s.view.version+1}}
 | tell {s:PS} (m:eu):m.kind=1→m.view=s.view→pK s (s.add m)
 | learn {s:PS} (m:eu) (b:Int):s.iq m→m.kind=1→s.jU b→pK s (s.aP b ((s.rep b).learn m.view).1)
 | app {s:PS} (b:Int) (e:cZ):s.jU b→pK s (s.aP b ((s.rep b).app e))
 | flush {s:PS} (b:Int):s.jU b→pK s (s.aP b (s.rep b).flush)
 | ask {s:PS} (b:Int) (m:eu):s.jU b→(s.rep b).role=2→m.kind=2→m.fetch=(s.rep b).Us→pK s (s.add m)
 | serve {s:PS} (b:Int) (m:eu):s.jU b→s.iq m→m.kind=2→pK s (s.aP b ((s.rep b).serve m.fetch 4))
 | reply {s:PS} (b:Int) (m m':eu):s.jU b→s.iq m→m.kind=2→(s.rep b).ji m.fetch 4=0→m'.kind=3→m'.reply=(s.rep b).reply m.fetch 4→pK s ((s.aP b ((s.rep b).serve m.fetch 4)).add m')
 | take {s:PS} (b:Int) (m:eu):s.jU b→s.iq m→m.kind=3→pK s (s.aP b ((s.rep b).take m.reply))
 | propose {s:PS} (b:Int) (l:List Int):s.jU b→(∀x∈l,s.jU x)→pK s (s.aP b ((s.rep b).qV l))
 | asked {s:PS} (b:Int) (l:List Int) (m:eu):s.jU b→(∀x∈l,s.jU x)→(s.rep b).jS l=0→m.kind=4→m.alter=(s.rep b).alter l→pK s ((s.aP b ((s.rep b).qV l)).add m)
 | crash {s:PS} (b dY:Int):s.jU b→pK s (s.aP b ((s.rep b).crash dY).1)
 | iq {s:PS} (p:eu→Prop):(∀m,p m→s.iq m∨(m.kind≠1∧m.kind≠2∧m.kind≠3∧m.kind≠4))→pK s {s with iq:=p}
section
variable {s : PS} {g : Gh} {p : eu → Prop}
def AY (s:PS) (p:eu→Prop):Prop:=∀ m,p m→s.iq m∨(m.kind≠1∧m.kind≠2∧m.kind≠3∧m.kind≠4)
theorem AY.one (h:AY s p) {m:eu} (hm:p m) (k:m.kind=1):s.iq m:=(h m hm).resolve_right (λe=>e.1 k)
theorem AY.two (h:AY s p) {m:eu} (hm:p m) (k:m.kind=2):s.iq m:=(h m hm).resolve_right (λe=>e.2.1 k)
theorem AY.amy (h:AY s p) {m:eu} (hm:p m) (k:m.kind=3):s.iq m:=(h m hm).resolve_right (λe=>e.2.2.1 k)
theorem AY.amz (h:AY s p) {m:eu} (hm:p m) (k:m.kind=4):s.iq m:=(h m hm).resolve_right (λe=>e.2.2.2 k)
theorem AY.sW (h:AY s p) {l:List Int} (hl:({s with iq:=p}:PS).sW l):s.sW l:=by
 rcases hl with hl|⟨m,hm,k,h1,h2,h3⟩
 ·exact .inl hl
 ·exact .inr ⟨m,h.amz hm k,k,h1,h2,h3⟩
theorem AY.wJ (h:AY s p) {e b:Int} (hx:wJ {s with iq:=p} g e b):wJ s g e b:=by
 rcases hx with⟨l,hl,hb⟩|hx
 ·exact .inl ⟨l,h.sW hl,hb⟩
 ·exact .inr hx
theorem AY.nJ (h:AY s p) {e v:Int} {l:List Int} (ht:({s with iq:=p}:PS).nJ e v l):s.nJ e v l:=by
 rcases ht with⟨m,hm,k,h1,h2,h3⟩|ht
 ·exact .inl ⟨m,h.one hm k,k,h1,h2,h3⟩
 ·exact .inr ht
theorem AY.ai2 (h:AY s p) {e:Int} {C:List Int} {kn:Int→Int} {Y:List cZ} (hc:lG {s with iq:=p} g e C kn Y):lG s g e C kn Y:=by
 cases hc with
 | now h1 h2 h3=>exact .now h1 h2 h3
 | next h1 h2 h3 h4=>exact .next h1 h2 h3 (h.nJ h4)
 | first h1 h2 h3 h4 h5=>exact .first h1 h2 h3 h4 (h.nJ h5)
theorem AY.rX (h:AY s p) {e:Int} {kn:Int→Int} {Y:List cZ} {c:Int} {n:Nat} (ha:rX {s with iq:=p} g e kn Y c n):rX s g e kn Y c n:=by
 rcases ha with ha|⟨m,X,hm,k,h1⟩
 ·exact .inl ha
 ·exact .inr ⟨m,X,h.two hm k,k,h1⟩
theorem afc (h:oO s g) (hp:AY s p):oO {s with iq:=p} g:=by
 refine⟨⟨h.b.nb,h.b.self,h.b.out,h.b.fine,h.b.view,h.b.isr,h.b.ZW,h.b.uZ,h.b.ep,h.b.st,h.b.alive⟩,⟨h.m.rep,h.m.w,h.m.MC,h.m.X7⟩,
  ⟨λm hm k=>h.f.fetch m (hp.two hm k) k,h.f.known,λm hm k=>h.f.reply m (hp.amy hm k) k⟩,
  ⟨λm hm k=>h.v.tell m (hp.one hm k) k,h.v.GH,λm hm k=>h.v.alter m (hp.amz hm k) k⟩,⟨?_,?_,?_⟩,⟨h.k.zC,h.k.ZX,λb hb=>h.k.k1 b (hp.wJ hb),h.k.k2,h.k.k4,h.k.k5,h.k.k8⟩⟩
 ·intro e C kn Y hc b hb
  exact h.c.c1 e C kn Y (hp.ai2 hc) b (hp.wJ hb)
 ·intro e C kn Y hc n hn ha
  have h2:=h.c.c2 e C kn Y (hp.ai2 hc) n hn (λc hcC jm he=>hp.rX (ha c hcC jm he))
  exact⟨h2.1,λb hb=>h2.2 b (hp.wJ hb)⟩
 ·intro e C kn Y hc hx
  refine h.c.c3 e C kn Y (hp.ai2 hc) (hx.imp id (λhx=>?_))
  obtain⟨b,hb,he⟩:=hx
  exact⟨b,hp.wJ hb,he⟩
end
structure afd (g:Gh) (r r':aI):Prop where
 self:r'.self=r.self
 epoch:r'.epoch=r.epoch
 fine:r'.oU
 alive:r'.role=3→r.role=3∧r'.log=r.log∧r'.known=r.known∧r'.counts=r.counts∧r'.version=r.version∧r'.isr=r.isr∧r'.qM=r.qM
 keeps:∀ Z,Z<+:zD r→(g.st r.epoch→Z<+:g.W r.epoch)→Z<+:zD r'
 mat:Df g r'.log
 eps:∀ x∈r'.log,x.ep≤r'.epoch
structure Jh (g:Gh) (r r':aI):Prop where
 soft:afd g r r'
 apK:r'.role=3→BK r'=BK r
 apL:BK r'<+:g.K
 xE:BK r=g.K→r.high≤r.flushed→(g.st r.epoch→g.K<+:g.W r.epoch)→BK r'=g.K∧r'.high≤r'.flushed
section
variable {s : PS} {g : Gh} {b : Int} {r' : aI}
theorem bg (s:PS) (b:Int) (r':aI) (x:Int):(x=b∧(s.aP b r').rep x=r')∨(x≠b∧(s.aP b r').rep x=s.rep x):=by
 by_cases h:x=b
 ·left;subst h;exact⟨rfl,fC s x r'⟩
 ·right;exact⟨h,DF s r' h⟩
theorem pO (h:r'.epoch=(s.rep b).epoch) (x:Int):((s.aP b r').rep x).epoch=(s.rep x).epoch:=by
 rcases bg s b r' x with⟨rfl,e⟩|⟨_,e⟩
 ·rw[e,h]
 ·rw[e]
theorem GI (h:r'.epoch=(s.rep b).epoch) {e x:Int}:wJ (s.aP b r') g e x↔wJ s g e x:=by
 constructor
 ·rintro(hx|⟨e1,h1,h2,h3,h4,h5,h6⟩)
  ·exact .inl hx
  ·exact .inr ⟨e1,h1,h2,h3,h4,h5,by rwa [pO h]at h6⟩
 ·rintro(hx|⟨e1,h1,h2,h3,h4,h5,h6⟩)
  ·exact .inl hx
  ·exact .inr ⟨e1,h1,h2,h3,h4,h5,by rwa [pO h]⟩
theorem Iq (hs:afd g (s.rep b) r') {e:Int} {C:List Int} {kn:Int→Int} {Y:List cZ} (hc:lG (s.aP b r') g e C kn Y):lG s g e C kn Y:=by
 cases hc with
 | now h1 h2 h3=>
  rcases bg s b r' (g.ld e) with⟨hb,hr⟩|⟨_,hr⟩
  ·rw[hr]at h2 h3 ⊢
   obtain⟨a1,a2,a3,a4,-⟩:=hs.alive h2
   rw[a3,a4]
   rw[hs.epoch,←hb]at h3
   rw[←hb]at a1 ⊢
   exact .now h1 a1 h3
  ·rw[hr]at h2 h3 ⊢
   exact .now h1 h2 h3
 | next h1 h2 h3 h4=>
  rcases bg s b r' (g.ld e) with⟨hb,hr⟩|⟨_,hr⟩
  ·rw[hr]at h2 h3 h4 ⊢
   obtain⟨a1,a2,a3,a4,a5,-⟩:=hs.alive h2
   rw[a5]at h4
   rw[a3]
   rw[hs.epoch,←hb]at h3
   rw[←hb]at a1 h4 ⊢
   exact .next h1 a1 h3 h4
  ·rw[hr]at h2 h3 h4 ⊢
   exact .next h1 h2 h3 h4
 | first h1 h2 h3 h4 h5=>exact .first h1 h2 h3 (by rwa [pO hs.epoch]at h4) h5
theorem Qu (g:Gh) (e:Int):g.qM e<+:g.W e:=iQ _ _
theorem OX (h:oO s g) (hb:s.jU b) (hs:afd g (s.rep b) r'):aln (s.aP b r') g∧alo (s.aP b r') g∧alp (s.aP b r') g∧amx (s.aP b r') g∧alq (s.aP b r') g∧(∀x,wJ (s.aP b r') g g.zC x→g.zC≤((s.aP b r').rep x).epoch∧g.K<+:zD ((s.aP b r').rep x)):=by
 have ep:=pO (s:=s) (b:=b) hs.epoch
 have iX:∀ {e x},wJ (s.aP b r') g e x↔wJ s g e x:=GI hs.epoch
 -- what was flushed stays
 have dY:∀ c Z,Z<+:zD (s.rep c)→(g.st (s.rep c).epoch→Z<+:g.W (s.rep c).epoch)→Z<+:zD ((s.aP b r').rep c):=by
  intro c Z h1 h2
  rcases bg s b r' c with⟨rfl,hr⟩|⟨_,hr⟩
  ·rw[hr];exact hs.keeps Z h1 h2
  ·rw[hr];exact h1
 have k2':∀ c,g.zC≤(s.rep c).epoch→g.st (s.rep c).epoch→g.K<+:g.W (s.rep c).epoch:=by
  intro c h1 h2
  rcases Int.lt_or_eq_of_le h1 with h3|h3
  ·exact(h.k.k2.2 _ h3 h2).trans (Qu _ _)
  ·rw[←h3]at h2 ⊢;exact h.k.k2.1 h2
 refine⟨⟨h.b.nb,?_,?_,?_,h.b.view,h.b.isr,h.b.ZW,h.b.uZ,?_,?_,?_⟩,⟨?_,h.m.w,?_,h.m.X7⟩,⟨?_,?_,h.f.reply⟩,⟨h.v.tell,?_,?_⟩,⟨?_,?_,?_⟩,?_⟩
 ·intro x hx
  rcases bg s b r' x with⟨rfl,hr⟩|⟨_,hr⟩
  ·rw[hr,hs.self];exact h.b.self x hx
  ·rw[hr];exact h.b.self x hx
 ·intro x hx;rw[ep];exact h.b.out x hx
 ·intro x hx
  rcases bg s b r' x with⟨rfl,hr⟩|⟨_,hr⟩
  ·rw[hr];exact hs.fine
  ·rw[hr];exact h.b.fine x hx
 ·intro x hx;rw[ep];exact h.b.ep x hx
 ·intro e he
  obtain⟨a1,a2,a3,a4,a5,a6⟩:=h.b.st e he
  exact⟨a1,a2,a3,by rw[ep];exact a4,a5,a6⟩
 ·intro x hx iE
  rcases bg s b r' x with⟨rfl,hr⟩|⟨_,hr⟩
  ·rw[hr]at iE ⊢
   obtain⟨a1,a2,a3,a4,a5,a6,a7⟩:=hs.alive iE
   rw[hs.epoch,a2,a4,a7]
   exact h.b.alive x hx a1
  ·rw[hr]at iE ⊢;exact h.b.alive x hx iE
 ·intro x hx
  rcases bg s b r' x with⟨rfl,hr⟩|⟨_,hr⟩
  ·rw[hr];exact hs.mat
  ·rw[hr];exact h.m.rep x hx
 ·intro x hx
  rcases bg s b r' x with⟨rfl,hr⟩|⟨_,hr⟩
  ·rw[hr];exact hs.eps
  ·rw[hr];exact h.m.MC x hx
 ·intro m hm k
  obtain⟨a1,a2,a3,a4,X,a5,a6,a7⟩:=h.f.fetch m hm k
  refine⟨a1,by rw[ep];exact a2,a3,a4,X,a5,a6,λe1 e2=>?_⟩
  rw[ep]at e1
  refine dY _ _ (a7 e1 e2) (λqR=>?_)
  rw[e1]at qR ⊢
  exact(iQ _ _).trans (e2 qR)
 ·intro x hx iE c hc JM hk
  rw[ep,ep]
  have BO:(s.rep x).role=3∧((s.aP b r').rep x).known=(s.rep x).known:=by
   rcases bg s b r' x with⟨rfl,hr⟩|⟨_,hr⟩
   ·rw[hr]at iE ⊢
    obtain⟨a1,a2,a3,-⟩:=hs.alive iE
    exact⟨a1,a3⟩
   ·rw[hr]at iE ⊢;exact⟨iE,rfl⟩
  rw[BO.2]at hk ⊢
  obtain⟨b1,b2,b3⟩:=h.f.known x hx BO.1 c hc JM hk
  refine⟨b1,b2,λe1=>dY _ _ (b3 e1) (λ_=>?_)⟩
  rw[e1];exact iQ _ _
 ·intro x hx iE he
  rw[ep]at he
  rcases bg s b r' x with⟨rfl,hr⟩|⟨_,hr⟩
  ·rw[hr]at iE ⊢
   obtain⟨a1,a2,a3,a4,a5,a6,a7⟩:=hs.alive iE
   rw[a5,a6];exact h.v.GH x hx a1 he
  ·rw[hr]at iE ⊢;exact h.v.GH x hx iE he
 ·intro m hm k
  obtain⟨a1,a2,a3,a4⟩:=h.v.alter m hm k
  refine⟨a1,a2,a3,λe=>?_⟩
  obtain⟨c1,c2,c3,c4⟩:=a4 e
  refine⟨c1,c2,c3,λx hx iE he=>?_⟩
  rw[ep]at he
  rcases bg s b r' x with⟨rfl,hr⟩|⟨_,hr⟩
  ·rw[hr]at iE ⊢
   obtain⟨a1,a2,a3,a4,a5,-⟩:=hs.alive iE
   rw[a5];exact c4 x hx a1 he
  ·rw[hr]at iE ⊢;exact c4 x hx iE he
 ·intro e C kn Y hc x hx
  rw[ep]
  exact h.c.c1 e C kn Y (Iq hs hc) x (iX.1 hx)
 ·intro e C kn Y hc n hn ha
  have h2:=h.c.c2 e C kn Y (Iq hs hc) n hn (λc hcC jm he=>ha c hcC jm (by rw[ep];exact he))
  refine⟨h2.1,λx hx he=>?_⟩
  rw[ep]at he
  exact dY x _ (h2.2 x (iX.1 hx) he) (λqR=>(h2.1 _ he qR).trans (Qu _ _))
 ·intro e C kn Y hc hx
  obtain⟨c,c1,c2,c3⟩:=h.c.c3 e C kn Y (Iq hs hc) (hx.imp id (λ⟨x,hx,he⟩=>⟨x,iX.1 hx,by rwa [ep]at he⟩))
  exact⟨c,c1,c2,by rw[ep];exact c3⟩
 ·intro x hx
  obtain⟨a1,a2⟩:=h.k.k1 x (iX.1 hx)
  exact⟨by rw[ep];exact a1,dY x _ a2 (k2' x a1)⟩
theorem alr (h:oO s g) (c:Int) (h1:g.zC≤(s.rep c).epoch) (h2:g.st (s.rep c).epoch):g.K<+:g.W (s.rep c).epoch:=by
 rcases Int.lt_or_eq_of_le h1 with h3|h3
 ·exact(h.k.k2.2 _ h3 h2).trans (Qu _ _)
 ·rw[←h3]at h2 ⊢;exact h.k.k2.1 h2
theorem GK (h:oO s g) (hb:s.jU b) (hs:Jh g (s.rep b) r'):oO (s.aP b r') g:=by
 obtain⟨c1,c2,c3,c4,c5,c6⟩:=OX h hb hs.soft
 have ep:=pO (s:=s) (b:=b) hs.soft.epoch
 refine⟨c1,c2,c3,c4,c5,⟨h.k.zC,h.k.ZX,c6,h.k.k2,?_,?_,?_⟩⟩
 ·obtain⟨x,a1,a2,a3,a4⟩:=h.k.k4
  refine⟨x,a1,by rw[ep];exact a2,?_⟩
  rcases bg s b r' x with⟨rfl,hr⟩|⟨_,hr⟩
  ·rw[hr];exact hs.xE a3 a4 (alr h x a2)
  ·rw[hr];exact⟨a3,a4⟩
 ·intro x hx
  rcases bg s b r' x with⟨rfl,hr⟩|⟨_,hr⟩
  ·rw[hr];exact hs.apL
  ·rw[hr];exact h.k.k5 x hx
 ·intro x hx iE he
  rw[ep]at he
  rcases bg s b r' x with⟨rfl,hr⟩|⟨_,hr⟩
  ·rw[hr]at iE ⊢
   rw[hs.apK iE];exact h.k.k8 x hx (hs.soft.alive iE).1 he
  ·rw[hr]at iE ⊢;exact h.k.k8 x hx iE he
end
section
variable {s : PS} {g : Gh} {b : Int}
theorem Jh.refl {r:aI} (hf:r.oU) (hm:Df g r.log) (he:∀ x∈r.log,x.ep≤r.epoch) (hl:BK r<+:g.K):Jh g r r:=
 ⟨⟨rfl,rfl,hf,λh=>⟨h,rfl,rfl,rfl,rfl,rfl,rfl⟩,λ_ h _=>h,hm,he⟩,λ_=>rfl,hl,λh1 h2 _=>⟨h1,h2⟩⟩
theorem oO.refl (h:oO s g) (hb:s.jU b):Jh g (s.rep b) (s.rep b):=Jh.refl (h.b.fine b hb) (h.m.rep b hb) (h.m.MC b hb) (h.k.k5 b hb)
theorem WG (h:oO s g) (hb:s.jU b) (dY:Int):Jh g (s.rep b) ((s.rep b).crash dY).1:=by
 have hf:=h.b.fine b hb
 have hg:=hf.bU
 obtain⟨f0,f1⟩:=hg.fl
 obtain⟨h0,h1⟩:=hg.hi
 have hk5:=h.k.k5 b hb
 by_cases hk:dY<0
 ·have e:((s.rep b).crash dY).1=s.rep b:=by unfold aI.crash;rw[if_pos hk]
  rw[e];exact h.refl hb
 ·have e:((s.rep b).crash dY).1={s.rep b with version:=0,qM:=0,isr:=[],counts:=[],known:=λ_=>0,log:=(s.rep b).log.take (iD ((s.rep b).log.length:Int) ((s.rep b).flushed+iD dY 4096)).toNat,flushed:=iD ((s.rep b).log.length:Int) ((s.rep b).flushed+iD dY 4096),high:=iD (s.rep b).high (iD ((s.rep b).log.length:Int) ((s.rep b).flushed+iD dY 4096)),role:=1}:=by
   unfold aI.crash;rw[if_neg hk]
  have hfc:=Ag hf dY
  rw[e]at hfc ⊢
  have hn:(s.rep b).flushed≤iD ((s.rep b).log.length:Int) ((s.rep b).flushed+iD dY 4096)∧iD ((s.rep b).log.length:Int) ((s.rep b).flushed+iD dY 4096)≤(s.rep b).log.length:=by
   simp only[jE];omega
  generalize iD ((s.rep b).log.length:Int) ((s.rep b).flushed+iD dY 4096)=n at *
  have hlw:∀ k:Nat,k≤n.toNat→((s.rep b).log.take n.toNat).take k=(s.rep b).log.take k:=λk hk=>by rw[List.take_take,Nat.min_eq_left hk]
  have hgm:=jE (s.rep b).high n
  refine⟨⟨rfl,rfl,hfc,(λh3=>by cases h3),λZ hZ _=>?_,(h.m.rep b hb).take _,λx hx=>h.m.MC b hb x (List.mem_of_mem_take hx)⟩,(λh3=>by cases h3),?_,λa1 a2 _=>?_⟩
  ·show Z<+:((s.rep b).log.take n.toNat).take n.toNat
   rw[hlw _ (Nat.le_refl _)]
   have:zD (s.rep b)<+:(s.rep b).log.take n.toNat:=by
    unfold zD
    refine pJ (iQ _ _) ?_
    rw[List.length_take];omega
   exact hZ.trans this
  ·show ((s.rep b).log.take n.toNat).take (iD (s.rep b).high n).toNat<+:g.K
   rw[hlw _ (by omega)]
   refine List.IsPrefix.trans ?_ hk5
   unfold BK
   refine pJ (iQ _ _) ?_
   rw[List.length_take];omega
  ·have e2:iD (s.rep b).high n=(s.rep b).high:=by omega
   constructor
   ·show ((s.rep b).log.take n.toNat).take (iD (s.rep b).high n).toNat=g.K
    rw[hlw _ (by omega),e2];exact a1
   ·show iD (s.rep b).high n≤n
    omega
theorem ZY (h:oO s g) (hb:s.jU b) {m:eu} (hm:s.iq m) (hk:m.kind=3):Jh g (s.rep b) ((s.rep b).take m.reply):=by
 have hf:=h.b.fine b hb
 have hg:=hf.bU
 obtain⟨f0,f1⟩:=hg.fl
 obtain⟨h0,h1⟩:=hg.hi
 have hk5:=h.k.k5 b hb
 obtain⟨r1,r2,r3,r4⟩:=h.f.reply m hm hk
 have hfc:=Ii hf m.reply
 by_cases bT:(s.rep b).lD m.reply=0
 ·have Xv:=bT
  unfold aI.lD at Xv
  split at Xv
  ·cases Xv
  split at Xv
  ·cases Xv
  rename_i KX
  have KX:(s.rep b).role=2:=by simpa using KX
  split at Xv
  ·cases Xv
  rename_i tH
  have tH:m.reply.epoch=(s.rep b).epoch∧m.reply.base=((s.rep b).log.length:Int)∧m.reply.last=gZ (s.rep b).log:=by
   simpa [aI.zS] using tH
  obtain⟨q1,q2,q3⟩:=tH
  obtain⟨st1,st2,st3,st4,st5,st6⟩:=h.b.st _ r1
  have D6:iI 1 (s.rep b).log=true:=by
   have:=hg.BN
   unfold vZ at this
   simp only[Bool.and_eq_true]at this
   exact this.1
  by_cases hc:m.reply.cut=true
  ·obtain⟨c1,c2,c3,c4⟩:=r4 hc
   have e:(s.rep b).take m.reply={s.rep b with log:=(s.rep b).log.take ((s.rep b).tZ m.reply).toNat,flushed:=iD (s.rep b).flushed ((s.rep b).tZ m.reply),high:=iD (s.rep b).high ((s.rep b).tZ m.reply)}:=by
    unfold aI.take;rw[if_neg (by simp[bT]),if_pos hc]
   -- what begins the log and the TW is kept
   have key:∀ Z:List cZ,Z<+:(s.rep b).log→Z<+:g.W (s.rep b).epoch→(Z.length:Int)≤(s.rep b).tZ m.reply:=by
    intro Z z1 z2
    have t1:=List.prefix_iff_eq_take.1 z1
    have t2:=List.prefix_iff_eq_take.1 z2
    have l1:=z1.length_le
    have l2:=z2.length_le
    have hlt:Z.length<(s.rep b).log.length:=by
     rcases Nat.lt_or_ge Z.length (s.rep b).log.length with hl|hl
     ·exact hl
     ·exfalso
      have e1:Z.length=(s.rep b).log.length:=by omega
      rw[e1,List.take_length]at t1
      rw[q1,q2,q3]at c2
      refine c2 ⟨by rw[←t1];exact_mod_cast l2,?_⟩
      have:((s.rep b).log.length:Int).toNat=Z.length:=by omega
      rw[this,←t2,t1]
    refine ZV D6 (q1▸st6) l2 (by rw[←t1,←t2]) hlt ?_ ?_
    ·rw[c3,q1,q3]
    ·rw[c4,q1,q3]
   have hn0:0≤(s.rep b).tZ m.reply:=by unfold aI.tZ;rw[nO];omega
   rw[e]at hfc ⊢
   generalize (s.rep b).tZ m.reply=n at *
   have hlw:∀ k:Nat,k≤n.toNat→((s.rep b).log.take n.toNat).take k=(s.rep b).log.take k:=λk hk=>by rw[List.take_take,Nat.min_eq_left hk]
   have qR:g.st (s.rep b).epoch:=q1▸r1
   have hgm:=jE (s.rep b).high n
   have hgf:=jE (s.rep b).flushed n
   refine⟨⟨rfl,rfl,hfc,(λh3=>by have Ye:(s.rep b).role=3:=h3;omega),λZ hZ hW=>?_,(h.m.rep b hb).take _,λx hx=>h.m.MC b hb x (List.mem_of_mem_take hx)⟩,(λh3=>by have Ye:(s.rep b).role=3:=h3;omega),?_,λa1 a2 a3=>?_⟩
   ·show Z<+:((s.rep b).log.take n.toNat).take (iD (s.rep b).flushed n).toNat
    have z1:=hZ.trans (iQ _ _)
    have z2:=key Z z1 (hW qR)
    have z3:=hZ.length_le
    rw[hlw _ (by omega)]
    refine pJ z1 ?_
    unfold zD at z3
    rw[List.length_take]at z3
    omega
   ·show ((s.rep b).log.take n.toNat).take (iD (s.rep b).high n).toNat<+:g.K
    rw[hlw _ (by omega)]
    refine List.IsPrefix.trans ?_ hk5
    unfold BK
    refine pJ (iQ _ _) ?_
    rw[List.length_take];omega
   ·have z1:g.K<+:(s.rep b).log:=by rw[←a1];exact iQ _ _
    have z2:=key g.K z1 (a3 qR)
    have z3:(g.K.length:Int)=(s.rep b).high:=by
     rw[←a1];unfold BK;rw[List.length_take];omega
    constructor
    ·show ((s.rep b).log.take n.toNat).take (iD (s.rep b).high n).toNat=g.K
     rw[hlw _ (by omega)]
     have:iD (s.rep b).high n=(s.rep b).high:=by omega
     rw[this];exact a1
    ·show iD (s.rep b).high n≤iD (s.rep b).flushed n
     omega
  ·have Xl:m.reply.cut=false:=by simpa using hc
   obtain⟨c1,c2,c3,c4,c5,c6⟩:=r3 Xl
   have e:(s.rep b).take m.reply={s.rep b with log:=(s.rep b).log++m.reply.entries,high:=ku (s.rep b).high (iD m.reply.high (((s.rep b).log.length+m.reply.entries.length:Nat):Int))}:=by
    unfold aI.take;rw[if_neg (by simp[bT]),if_neg hc]
   rw[q1]at c1 c2 c3 c5 c6
   have amB:m.reply.base.toNat=(s.rep b).log.length:=by omega
   rw[amB]at c1 c2 c3
   -- its log is the TW
   have ajX:(s.rep b).log=(g.W (s.rep b).epoch).take (s.rep b).log.length:=Df.jc (h.m.rep b hb) ((h.m.w _ (q1▸r1)).take _) (by rw[c1]) (by rw[c2,q3])
   rw[←ajX]at c3
   rw[e]at hfc ⊢
   have hgm:=nO (s.rep b).high (iD m.reply.high (((s.rep b).log.length+m.reply.entries.length:Nat):Int))
   have hgn:=jE m.reply.high (((s.rep b).log.length+m.reply.entries.length:Nat):Int)
   have iR:((s.rep b).log++m.reply.entries).length=(s.rep b).log.length+m.reply.entries.length:=List.length_append
   refine⟨⟨rfl,rfl,hfc,(λh3=>by have Ye:(s.rep b).role=3:=h3;omega),λZ hZ _=>?_,(h.m.w _ (q1▸r1)).pre c3,λx hx=>?_⟩,(λh3=>by have Ye:(s.rep b).role=3:=h3;omega),?_,λa1 a2 a3=>?_⟩
   ·show Z<+:((s.rep b).log++m.reply.entries).take (s.rep b).flushed.toNat
    rw[List.take_append_of_le_length (by omega)]
    exact hZ
   ·obtain⟨k,hk⟩:=List.getElem?_of_mem (c3.subset hx)
    exact(h.m.X7 _ (q1▸r1) k x hk).1
   ·show ((s.rep b).log++m.reply.entries).take (ku (s.rep b).high (iD m.reply.high (((s.rep b).log.length+m.reply.entries.length:Nat):Int))).toNat<+:g.K
    by_cases hh:iD m.reply.high (((s.rep b).log.length+m.reply.entries.length:Nat):Int)≤(s.rep b).high
    ·have e3:ku (s.rep b).high (iD m.reply.high (((s.rep b).log.length+m.reply.entries.length:Nat):Int))=(s.rep b).high:=by omega
     rw[e3,List.take_append_of_le_length (by omega)]
     exact hk5
    ·have e3:ku (s.rep b).high (iD m.reply.high (((s.rep b).log.length+m.reply.entries.length:Nat):Int))=iD m.reply.high (((s.rep b).log.length+m.reply.entries.length:Nat):Int):=by omega
     rw[e3]
     refine List.IsPrefix.trans ?_ c6
     refine pJ ((iQ _ _).trans c3) ?_
     rw[List.length_take];omega
   ·have z3:(g.K.length:Int)=(s.rep b).high:=by
     rw[←a1];unfold BK;rw[List.length_take];omega
    have z4:=c6.length_le
    rw[List.length_take]at z4
    have e3:ku (s.rep b).high (iD m.reply.high (((s.rep b).log.length+m.reply.entries.length:Nat):Int))=(s.rep b).high:=by omega
    constructor
    ·show ((s.rep b).log++m.reply.entries).take (ku (s.rep b).high (iD m.reply.high (((s.rep b).log.length+m.reply.entries.length:Nat):Int))).toNat=g.K
     rw[e3,List.take_append_of_le_length (by omega)]
     exact a1
    ·show ku (s.rep b).high (iD m.reply.high (((s.rep b).log.length+m.reply.entries.length:Nat):Int))≤(s.rep b).flushed
     omega
 ·have e:(s.rep b).take m.reply=s.rep b:=by unfold aI.take;rw[if_pos bT]
  rw[e];exact h.refl hb
end
section
variable {s : PS} {g : Gh}
theorem TY (h:oO s g) {v:dL} (hl:v.leader=s.view.leader) (he:v.epoch=s.view.epoch) (hv:v.version=s.view.version+1) (h0:v.isr≠[]) (hi:∀ x∈v.isr,s.jU x) (MQ:v.leader≠ -1→v.leader∈v.isr)
  (hx:∀ x∈v.isr,∃l,s.sW l∧x∈l):oO {s with view:=v} g:=by
 have bT:∀ {l:List Int},({s with view:=v}:PS).sW l→l=v.isr:=by
  rintro l (h1|⟨m,hm,k,h1,h2,-⟩)
  ·exact h1
  ·have MZ:m.alter.epoch=v.epoch:=h1
   have Yd:m.alter.version=v.version:=h2
   have h3:=((h.v.alter m hm k).2.2.2 (by rw[MZ,he])).1
   omega
 have iX:∀ {e x},wJ {s with view:=v} g e x→wJ s g e x:=by
  rintro e x (⟨l,h1,h2⟩|⟨e1,h1,h2,h3⟩)
  ·rw[bT h1]at h2;exact .inl (hx x h2)
  ·exact .inr ⟨e1,h1,by have Yd:e1≤v.epoch:=h2;omega,h3⟩
 have top:∀ {e x},e=s.view.epoch→wJ {s with view:=v} g e x→x∈v.isr:=by
  rintro e x rfl (⟨l,h1,h2⟩|⟨e1,h1,h2,h3⟩)
  ·rw[bT h1]at h2;exact h2
  ·have Yd:e1≤v.epoch:=h2
   omega
 have tl:∀ {e u l},({s with view:=v}:PS).nJ e u l→s.nJ e u l∨(e=s.view.epoch∧l=v.isr):=by
  rintro e u l (h1|⟨h1,-,h3⟩)
  ·exact .inl (.inl h1)
  ·exact .inr ⟨h1.trans he,h3⟩
 have cf:∀ {e C kn Y},lG {s with view:=v} g e C kn Y→lG s g e C kn Y∨(e=s.view.epoch∧C=v.isr):=by
  intro e C kn Y hc
  cases hc with
  | now a1 a2 a3=>exact .inl (.now a1 a2 a3)
  | next a1 a2 a3 a4=>
   rcases tl a4 with a5|a5
   ·exact .inl (.next a1 a2 a3 a5)
   ·exact .inr a5
  | first a1 a2 a3 a4 a5=>
   rcases tl a5 with a6|a6
   ·exact .inl (.first a1 a2 a3 a4 a6)
   ·exact .inr a6
 have none:∀ {e x},e=s.view.epoch→wJ s g e x→¬ e<(s.rep x).epoch:=by
  rintro e x rfl N8 hlt
  have hb:s.jU x:=by
   rcases N8 with⟨l,h1,h2⟩|⟨e1,_,_,_,_,h5,_⟩
   ·rcases h1 with rfl|⟨m,hm,k,h3,h4,rfl⟩
    ·exact h.b.isr.2 x h2
    ·exact((h.v.alter m hm k).2.2.2 h3).2.1 x h2
   ·exact h5
  have:=h.b.ep x hb
  omega
 refine⟨⟨h.b.nb,h.b.self,h.b.out,h.b.fine,⟨by show 0≤v.epoch;have:=h.b.view;omega,by show 0≤v.version;have:=h.b.view;omega⟩,⟨h0,hi⟩,?_,MQ,?_,?_,h.b.alive⟩,⟨h.m.rep,h.m.w,h.m.MC,h.m.X7⟩,⟨h.f.fetch,h.f.known,h.f.reply⟩,⟨?_,?_,?_⟩,⟨?_,?_,?_⟩,⟨?_,h.k.ZX,λb hb=>h.k.k1 b (iX hb),h.k.k2,h.k.k4,h.k.k5,h.k.k8⟩⟩
 ·show v.leader=g.ld v.epoch
  rw[hl,he];exact h.b.ZW
 ·intro b hb;show (s.rep b).epoch≤v.epoch;rw[he];exact h.b.ep b hb
 ·intro e qR
  obtain⟨a1,a2,a3⟩:=h.b.st e qR
  exact⟨a1,by show e≤v.epoch;rw[he];exact a2,a3⟩
 ·intro m hm k
  obtain⟨a1,a2,a0,a3⟩:=h.v.tell m hm k
  refine⟨by show _≤v.epoch;rw[he];exact a1,a2,a0,λe=>?_⟩
  have e':m.view.epoch=v.epoch:=e
  have:=(a3 (by rw[e',he])).1
  exact⟨by show m.view.version≤v.version;omega,λe2=>by have e3:m.view.version=v.version:=e2;omega⟩
 ·intro b hb hr UH
  have e':(s.rep b).epoch=v.epoch:=UH
  have:=(h.v.GH b hb hr (by rw[e',he])).1
  exact⟨by show (s.rep b).version≤v.version;omega,λe2=>by have e3:(s.rep b).version=v.version:=e2;omega⟩
 ·intro m hm k
  obtain⟨a1,a2,a3,a4⟩:=h.v.alter m hm k
  refine⟨by show _≤v.epoch;rw[he];exact a1,a2,a3,λe=>?_⟩
  have e':m.alter.epoch=v.epoch:=e
  obtain⟨b1,b2,b3,b4⟩:=a4 (by rw[e',he])
  exact⟨by show m.alter.version≤v.version;omega,b2,b3,λb hb hr UH=>b4 b hb hr (by have:(s.rep b).epoch=v.epoch:=UH;rw[this,he])⟩
 ·intro e C kn Y hc x N8
  rcases cf hc with hc|⟨h1,rfl⟩
  ·exact h.c.c1 e C kn Y hc x (iX N8)
  ·exact .inl (top h1 N8)
 ·intro e C kn Y hc n hn ha
  rcases cf hc with hc|⟨h1,rfl⟩
  ·have h2:=h.c.c2 e C kn Y hc n hn ha
   exact⟨h2.1,λx N8=>h2.2 x (iX N8)⟩
  ·exact⟨λe1 h2 h3=>by have:=(h.b.st e1 h3).2.1;omega,λx N8 hlt=>absurd hlt (none h1 (iX N8))⟩
 ·intro e C kn Y hc N8
  rcases cf hc with hc|⟨h1,rfl⟩
  ·exact h.c.c3 e C kn Y hc (N8.imp id (λ⟨x,a,b⟩=>⟨x,iX a,b⟩))
  ·rcases N8 with⟨e1,h2,h3⟩|⟨x,h2,h3⟩
   ·have:=(h.b.st e1 h3).2.1;omega
   ·exact absurd h3 (none h1 (iX h2))
 ·exact⟨h.k.zC.1,by show g.zC≤v.epoch;rw[he];exact h.k.zC.2⟩
theorem Ua (h:oO s g) {v:dL} (he:v.epoch=s.view.epoch+1) (hv:v.version=s.view.version+1) (h0:v.isr≠[]) (hi:∀ x∈v.isr,x∈s.view.isr) (MQ:v.leader= -1∨v.leader∈v.isr):
  oO {s with view:=v} {g with ld:=λe=>if e=v.epoch then v.leader else g.ld e}:=by
 have ldo:∀ e,e≤s.view.epoch→(if e=v.epoch then v.leader else g.ld e)=g.ld e:=λe h1=>if_neg (by omega)
 have bT:∀ {l:List Int},({s with view:=v}:PS).sW l→l=v.isr:=by
  rintro l (h1|⟨m,hm,k,h1,h2,-⟩)
  ·exact h1
  ·have MZ:m.alter.epoch=v.epoch:=h1
   have h3:=(h.v.alter m hm k).1
   omega
 have iX:∀ {e x},wJ {s with view:=v} {g with ld:=λe=>if e=v.epoch then v.leader else g.ld e} e x→wJ s g e x:=by
  rintro e x (⟨l,h1,h2⟩|⟨e1,h1,h2,h3,h4,h5,h6⟩)
  ·rw[bT h1]at h2;exact .inl ⟨_,.inl rfl,hi x h2⟩
  ·have Yd:e1≤v.epoch:=h2
   have h4':(if e1=v.epoch then v.leader else g.ld e1)=x:=h4
   by_cases h7:e1=v.epoch
   ·rw[if_pos h7]at h4'
    rcases MQ with h8|h8
    ·have h5':s.jU x:=h5
     rw[←h4',h8]at h5'
     exact absurd h5'.1 (by decide)
    ·rw[h4']at h8;exact .inl ⟨_,.inl rfl,hi x h8⟩
   ·rw[if_neg h7]at h4'
    exact .inr ⟨e1,h1,by omega,h3,h4',h5,h6⟩
 have top:∀ {e x},e=v.epoch→wJ {s with view:=v} {g with ld:=λe=>if e=v.epoch then v.leader else g.ld e} e x→x∈v.isr:=by
  rintro e x rfl (⟨l,h1,h2⟩|⟨e1,h1,h2,h3⟩)
  ·rw[bT h1]at h2;exact h2
  ·have Yd:e1≤v.epoch:=h2
   omega
 have bOf:∀ {e x},wJ s g e x→s.jU x:=by
  rintro e x (⟨l,h1,h2⟩|⟨e1,_,_,_,_,h5,_⟩)
  ·rcases h1 with rfl|⟨m,hm,k,h3,h4,rfl⟩
   ·exact h.b.isr.2 x h2
   ·exact((h.v.alter m hm k).2.2.2 h3).2.1 x h2
  ·exact h5
 have cf:∀ {e C kn Y},lG {s with view:=v} {g with ld:=λe=>if e=v.epoch then v.leader else g.ld e} e C kn Y→(lG s g e C kn Y∧e≤s.view.epoch)∨(e=v.epoch∧C=v.isr):=by
  intro e C kn Y hc
  have tl:∀ {u l},e≤s.view.epoch→({s with view:=v}:PS).nJ e u l→s.nJ e u l:=by
   rintro u l hle (h1|⟨h1,-,h3⟩)
   ·exact .inl h1
   ·have MZ:e=v.epoch:=h1
    omega
  cases hc with
  | now a1 a2 a3=>
   have a1':s.jU (if e=v.epoch then v.leader else g.ld e):=a1
   have a3':(s.rep (if e=v.epoch then v.leader else g.ld e)).epoch=e:=a3
   have hle:e≤s.view.epoch:=by rw[←a3'];exact h.b.ep _ a1'
   have a2':(s.rep (if e=v.epoch then v.leader else g.ld e)).role=3:=a2
   left
   show lG s g e (s.rep (if e=v.epoch then v.leader else g.ld e)).counts (λc=>(s.rep (if e=v.epoch then v.leader else g.ld e)).known c.toNat) (g.W e)∧_
   rw[ldo e hle]at a1' a2' a3' ⊢
   exact⟨.now a1' a2' a3',hle⟩
  | next a1 a2 a3 a4=>
   have a1':s.jU (if e=v.epoch then v.leader else g.ld e):=a1
   have a3':(s.rep (if e=v.epoch then v.leader else g.ld e)).epoch=e:=a3
   have hle:e≤s.view.epoch:=by rw[←a3'];exact h.b.ep _ a1'
   have a2':(s.rep (if e=v.epoch then v.leader else g.ld e)).role=3:=a2
   have a4':=tl hle a4
   left
   show lG s g e C (λc=>(s.rep (if e=v.epoch then v.leader else g.ld e)).known c.toNat) (g.W e)∧_
   have als:s.nJ e (s.rep (if e=v.epoch then v.leader else g.ld e)).version C:=a4'
   rw[ldo e hle]at a1' a2' a3' als ⊢
   exact⟨.next a1' a2' a3' als,hle⟩
  | first a1 a2 a3 a4 a5=>
   by_cases hle:e≤s.view.epoch
   ·have a1':s.jU (if e=v.epoch then v.leader else g.ld e):=a1
    have a4':(s.rep (if e=v.epoch then v.leader else g.ld e)).epoch<e:=a4
    rw[ldo e hle]at a1' a4'
    exact .inl ⟨.first a1' a2 a3 a4' (tl hle a5),hle⟩
   ·right
    rcases a5 with⟨m,hm,k,h1,-⟩|⟨h1,-,h3⟩
    ·have:=(h.v.tell m hm k).1;omega
    ·exact⟨h1,h3⟩
 refine⟨⟨h.b.nb,h.b.self,h.b.out,h.b.fine,⟨by show 0≤v.epoch;have:=h.b.view;omega,by show 0≤v.version;have:=h.b.view;omega⟩,⟨h0,λx hx=>h.b.isr.2 x (hi x hx)⟩,?_,?_,?_,?_,?_⟩,⟨h.m.rep,h.m.w,h.m.MC,h.m.X7⟩,⟨h.f.fetch,h.f.known,h.f.reply⟩,⟨?_,?_,?_⟩,⟨?_,?_,?_⟩,⟨?_,h.k.ZX,λb hb=>h.k.k1 b (iX hb),h.k.k2,h.k.k4,h.k.k5,h.k.k8⟩⟩
 ·show v.leader=if v.epoch=v.epoch then v.leader else g.ld v.epoch
  rw[if_pos rfl]
 ·intro jm
  exact MQ.resolve_left jm
 ·intro b hb;show (s.rep b).epoch≤v.epoch;have:=h.b.ep b hb;omega
 ·intro e qR
  obtain⟨a1,a2,a3,a4,a5⟩:=h.b.st e qR
  refine⟨a1,by show e≤v.epoch;omega,?_,?_,a5⟩
  ·show s.jU (if e=v.epoch then v.leader else g.ld e)
   rw[ldo e a2];exact a3
  ·show e≤(s.rep (if e=v.epoch then v.leader else g.ld e)).epoch
   rw[ldo e a2];exact a4
 ·intro b hb hr
  obtain⟨a1,a2,a3⟩:=h.b.alive b hb hr
  refine⟨a1,?_,a3⟩
  show (if(s.rep b).epoch=v.epoch then v.leader else g.ld (s.rep b).epoch)=b
  rw[ldo _ (h.b.ep b hb)];exact a2
 ·intro m hm k
  obtain⟨a1,a2,a0,a3⟩:=h.v.tell m hm k
  refine⟨by show _≤v.epoch;omega,?_,a0,λe=>by have e':m.view.epoch=v.epoch:=e;omega⟩
  show m.view.leader=if m.view.epoch=v.epoch then v.leader else g.ld m.view.epoch
  rw[ldo _ a1];exact a2
 ·intro b hb hr UH
  have e':(s.rep b).epoch=v.epoch:=UH
  have:=h.b.ep b hb
  omega
 ·intro m hm k
  obtain⟨a1,a2,a3,a4⟩:=h.v.alter m hm k
  refine⟨by show _≤v.epoch;omega,?_,a3,λe=>by have e':m.alter.epoch=v.epoch:=e;omega⟩
  show m.alter.leader=if m.alter.epoch=v.epoch then v.leader else g.ld m.alter.epoch
  rw[ldo _ a1];exact a2
 ·intro e C kn Y hc x N8
  rcases cf hc with⟨hc,-⟩|⟨h1,rfl⟩
  ·exact h.c.c1 e C kn Y hc x (iX N8)
  ·exact .inl (top h1 N8)
 ·intro e C kn Y hc n hn ha
  rcases cf hc with⟨hc,hle⟩|⟨h1,rfl⟩
  ·have h2:=h.c.c2 e C kn Y hc n hn (λc hcC jm hlt=>ha c hcC (by
    show c≠if e=v.epoch then v.leader else g.ld e
    rw[ldo e hle];exact jm) hlt)
   exact⟨h2.1,λx N8=>h2.2 x (iX N8)⟩
  ·exact⟨λe1 h2 h3=>by have:=(h.b.st e1 h3).2.1;omega,λx N8 hlt=>by have:=h.b.ep x (bOf (iX N8));have afv:e<(s.rep x).epoch:=hlt;omega⟩
 ·intro e C kn Y hc N8
  rcases cf hc with⟨hc,hle⟩|⟨h1,rfl⟩
  ·obtain⟨c,c1,c2,c3⟩:=h.c.c3 e C kn Y hc (N8.imp id (λ⟨x,a,b⟩=>⟨x,iX a,b⟩))
   refine⟨c,c1,?_,c3⟩
   show c≠if e=v.epoch then v.leader else g.ld e
   rw[ldo e hle];exact c2
  ·rcases N8 with⟨e1,h2,h3⟩|⟨x,h2,h3⟩
   ·have:=(h.b.st e1 h3).2.1;omega
   ·have:=h.b.ep x (bOf (iX h2));have Ye:e<(s.rep x).epoch:=h3;omega
 ·exact⟨h.k.zC.1,by show g.zC≤v.epoch;have:=h.k.zC.2;omega⟩
end
section
variable {s : PS} {g : Gh} {b : Int}
theorem afe (h:oO s g) {e x:Int} (hx:wJ s g e x):s.jU x:=by
 rcases hx with⟨l,h1,h2⟩|⟨e1,_,_,_,_,h5,_⟩
 ·rcases h1 with rfl|⟨m,hm,k,h3,h4,rfl⟩
  ·exact h.b.isr.2 x h2
  ·exact((h.v.alter m hm k).2.2.2 h3).2.1 x h2
 ·exact h5
theorem Eu (self:Int) (known:Nat→Int):∀ (l:List Int) (n:Int),∀c∈l,c≠self→oN self known l n≤known c.toNat
 | [],n,c,hc,_=>by cases hc
 | x::l,n,c,hc,jm=>by
  have e:oN self known (x::l) n=oN self known l (if x=self then n else iD n (known x.toNat)):=rfl
  rw[e]
  rcases List.mem_cons.1 hc with rfl|hc
  ·have h1:=EP self known l (if c=self then n else iD n (known c.toNat))
   rw[if_neg jm]at h1 ⊢
   have h2:=jE n (known c.toNat)
   omega
  ·exact Eu self known l _ c hc jm
theorem rY (s:PS) (b:Int):s.aP b (s.rep b)=s:=by
 have:(λx=>if x=b then s.rep b else s.rep x)=s.rep:=by
  funext x
  by_cases h:x=b
  ·subst h;simp
  ·simp[h]
 unfold PS.aP
 rw[this]
theorem acQ (h:oO s g) (hb:s.jU b) (hr:(s.rep b).role=3) {n:Int} (hn:(s.rep b).high<n) (hfl:n≤(s.rep b).flushed) (hk:∀ c∈(s.rep b).counts,c≠b→n≤(s.rep b).known c.toNat)
  (gu:({s.rep b with high:=n}:aI).oU):∃ g',oO (s.aP b {s.rep b with high:=n}) g'∧g.K<+:g'.K:=by
 obtain⟨a1,a2,a3,a4,a5,a6⟩:=h.b.alive b hb hr
 have hg:=(h.b.fine b hb).bU
 obtain⟨f0,f1⟩:=hg.fl
 obtain⟨h0,h1⟩:=hg.hi
 generalize he:(s.rep b).epoch=e at *
 have agq:lG s g e (s.rep b).counts (λc=>(s.rep b).known c.toNat) (g.W e):=by
  have:=lG.now (s:=s) (g:=g) (e:=e) (by rw[a2];exact hb) (by rw[a2];exact hr) (by rw[a2];exact he)
  rw[a2]at this;exact this
 have iR:(g.W e).length=(s.rep b).log.length:=by rw[a3]
 have hZl:((g.W e).take n.toNat).length=n.toNat:=by rw[List.length_take];omega
 have agO:afR s g e ((g.W e).take n.toNat):=h.c.c2 e _ _ _ agq n.toNat (by omega) (λc hc jm hlt=>.inl (by
  rw[a2]at jm
  have:=hk c hc jm
  show ((n.toNat:Nat):Int)≤(s.rep b).known c.toNat
  omega))
 -- it is in the flushed part of all that iT
 have jB:∀ x,wJ s g e x→e≤(s.rep x).epoch∧(g.W e).take n.toNat<+:zD (s.rep x):=by
  intro x hx
  by_cases hm:e<(s.rep x).epoch
  ·exact⟨by omega,agO.2 x hx hm⟩
  ·have hxc:=(h.c.c1 e _ _ _ agq x hx).resolve_right hm
   by_cases DJ:x=b
   ·subst DJ
    refine⟨by omega,?_⟩
    unfold zD
    rw[a3]
    refine pJ (iQ _ _) ?_
    omega
   ·have hkx:=hk x hxc DJ
    obtain⟨k1,k2,k3⟩:=h.f.known b hb hr x (afe h hx) DJ (by omega)
    rw[he]at k1 k2 k3
    have hxe:(s.rep x).epoch=e:=by omega
    refine⟨by omega,List.IsPrefix.trans ?_ (k3 hxe)⟩
    refine pJ (iQ _ _) ?_
    omega
 obtain⟨x0,hx0⟩:∃ x0,x0∈s.view.isr:=List.exists_mem_of_ne_nil _ h.b.isr.1
 have alu:∀ e',wJ s g e' x0:=λe'=>.inl ⟨_,.inl rfl,hx0⟩
 have hKx:=(h.k.k1 x0 (alu _)).2
 have hZx:=(jB x0 (alu _)).2
 have alv:afd g (s.rep b) {s.rep b with high:=n}:=⟨rfl,rfl,gu,λ_=>⟨hr,rfl,rfl,rfl,rfl,rfl,rfl⟩,λ_ h _=>h,h.m.rep b hb,h.m.MC b hb⟩
 have afS:BK ({s.rep b with high:=n}:aI)=(g.W e).take n.toNat:=by
  show (s.rep b).log.take n.toNat=_
  rw[a3]
 obtain⟨c1,c2,c3,c4,c5,c6⟩:=OX h hb alv
 have ep:=pO (s:=s) (b:=b) (r':={s.rep b with high:=n}) rfl
 have iX:∀ {e' x},wJ (s.aP b {s.rep b with high:=n}) g e' x↔wJ s g e' x:=GI (r':={s.rep b with high:=n}) rfl
 have apN:∀ x,zD ((s.aP b {s.rep b with high:=n}).rep x)=zD (s.rep x):=by
  intro x
  rcases bg s b {s.rep b with high:=n} x with⟨rfl,tC⟩|⟨_,tC⟩
  ·rw[tC];rfl
  ·rw[tC]
 have X8:BK (s.rep b)=g.K→(g.K.length:Int)=(s.rep b).high:=λhl=>by
  rw[←hl];unfold BK;rw[List.length_take];omega
 rcases Nat.le_total ((g.W e).take n.toNat).length g.K.length with hle|hle
 ·-- within what is dR
  have hZK:=Fe hZx hKx hle
  refine⟨g,⟨c1,c2,c3,c4,c5,⟨h.k.zC,h.k.ZX,c6,h.k.k2,?_,?_,?_⟩⟩,List.prefix_refl _⟩
  ·obtain⟨x,y1,y2,y3,y4⟩:=h.k.k4
   refine⟨x,y1,by rw[ep];exact y2,?_⟩
   rcases bg s b {s.rep b with high:=n} x with⟨rfl,tC⟩|⟨_,tC⟩
   ·have:=X8 y3;omega
   ·rw[tC];exact⟨y3,y4⟩
  ·intro x hx
   rcases bg s b {s.rep b with high:=n} x with⟨rfl,tC⟩|⟨_,tC⟩
   ·rw[tC,afS];exact hZK
   ·rw[tC];exact h.k.k5 x hx
  ·intro x hx iE pY
   rw[ep]at pY
   rcases bg s b {s.rep b with high:=n} x with⟨rfl,tC⟩|⟨_,tC⟩
   ·have:=X8 (h.k.k8 x hx hr pY);omega
   ·rw[tC]at iE ⊢;exact h.k.k8 x hx iE pY
 ·-- more is dR
  have hKZ:=Fe hKx hZx hle
  obtain⟨s1,s2,s3,s4,s5⟩:=h.b.st e a1
  refine⟨{g with K:=(g.W e).take n.toNat,zC:=e},⟨⟨c1.nb,c1.self,c1.out,c1.fine,c1.view,c1.isr,c1.ZW,c1.uZ,c1.ep,c1.st,c1.alive⟩,⟨c2.rep,c2.w,c2.MC,c2.X7⟩,⟨c3.fetch,c3.known,?_⟩,⟨c4.tell,c4.GH,c4.alter⟩,⟨?_,?_,?_⟩,⟨⟨by show 0≤e;omega,s2⟩,.inr a1,?_,⟨λ_=>iQ _ _,agO.1⟩,?_,?_,?_⟩⟩,hKZ⟩
  ·intro m hm k
   obtain⟨r1,r2,r3,r4⟩:=c3.reply m hm k
   refine⟨r1,r2,λhc=>?_,r4⟩
   obtain⟨q1,q2,q3,q4,q5,q6⟩:=r3 hc
   exact⟨q1,q2,q3,q4,q5,q6.trans hKZ⟩
  ·intro e' C kn Y hc x hx
   have Xl:lG (s.aP b {s.rep b with high:=n}) g e' C kn Y:=by
    cases hc with
    | now q1 q2 q3=>exact .now q1 q2 q3
    | next q1 q2 q3 q4=>exact .next q1 q2 q3 q4
    | first q1 q2 q3 q4 q5=>exact .first q1 q2 q3 q4 q5
   exact c5.c1 e' C kn Y Xl x hx
  ·intro e' C kn Y hc m hm ha
   have Xl:lG (s.aP b {s.rep b with high:=n}) g e' C kn Y:=by
    cases hc with
    | now q1 q2 q3=>exact .now q1 q2 q3
    | next q1 q2 q3 q4=>exact .next q1 q2 q3 q4
    | first q1 q2 q3 q4 q5=>exact .first q1 q2 q3 q4 q5
   exact c5.c2 e' C kn Y Xl m hm ha
  ·intro e' C kn Y hc hx
   have Xl:lG (s.aP b {s.rep b with high:=n}) g e' C kn Y:=by
    cases hc with
    | now q1 q2 q3=>exact .now q1 q2 q3
    | next q1 q2 q3 q4=>exact .next q1 q2 q3 q4
    | first q1 q2 q3 q4 q5=>exact .first q1 q2 q3 q4 q5
   exact c5.c3 e' C kn Y Xl hx
  ·intro x hx
   obtain⟨y1,y2⟩:=jB x (iX.1 hx)
   exact⟨by rw[ep];exact y1,by rw[apN];exact y2⟩
  ·refine⟨b,hb,by rw[ep];show e≤(s.rep b).epoch;omega,?_⟩
   rw[fC]
   exact⟨afS,hfl⟩
  ·intro x hx
   rcases bg s b {s.rep b with high:=n} x with⟨rfl,tC⟩|⟨_,tC⟩
   ·rw[tC,afS];exact List.prefix_refl _
   ·rw[tC];exact(h.k.k5 x hx).trans hKZ
  ·intro x hx iE pY
   rw[ep]at pY
   rcases bg s b {s.rep b with high:=n} x with⟨rfl,tC⟩|⟨jm,tC⟩
   ·rw[tC];exact afS
   ·rw[tC]at iE
    have y:=(h.b.alive x hx iE).2.1
    have adF:(s.rep x).epoch=e:=pY
    rw[adF,a2]at y
    exact absurd y.symm jm
theorem Z4 (h:oO s g) (hb:s.jU b):∃ g',oO (s.aP b (s.rep b).iT) g'∧g.K<+:g'.K:=by
 by_cases hr:(s.rep b).role=3
 ·have e:(s.rep b).iT={s.rep b with high:=ku (s.rep b).high (oN (s.rep b).self (s.rep b).known (s.rep b).counts (s.rep b).flushed)}:=by
   unfold aI.iT;rw[if_pos hr]
  have hfl:=EP (s.rep b).self (s.rep b).known (s.rep b).counts (s.rep b).flushed
  have BO:=Eu (s.rep b).self (s.rep b).known (s.rep b).counts (s.rep b).flushed
  have gu:((s.rep b).iT).oU:=⟨wR (h.b.fine b hb).bU,by rw[zk];exact(h.b.fine b hb).ver⟩
  rw[h.b.self b hb]at *
  rw[e]at gu ⊢
  generalize oN b (s.rep b).known (s.rep b).counts (s.rep b).flushed=n at *
  have hgm:=nO (s.rep b).high n
  by_cases hn:n≤(s.rep b).high
  ·have e2:ku (s.rep b).high n=(s.rep b).high:=by omega
   rw[e2]
   have e3:({s.rep b with high:=(s.rep b).high}:aI)=s.rep b:=rfl
   rw[e3,rY]
   exact⟨g,h,List.prefix_refl _⟩
  ·have e2:ku (s.rep b).high n=n:=by omega
   rw[e2]at gu ⊢
   exact acQ h hb hr (by omega) hfl BO gu
 ·have e:(s.rep b).iT=s.rep b:=by unfold aI.iT;rw[if_neg hr]
  rw[e,rY]
  exact⟨g,h,List.prefix_refl _⟩
end
section
variable {s : PS} {g : Gh} {b : Int}
theorem OY {m:eu} (hk:m.kind≠4) {l:List Int}:(s.add m).sW l↔s.sW l:=by
 constructor
 ·rintro(h|⟨m',h|h,k,h1,h2,h3⟩)
  ·exact .inl h
  ·exact .inr ⟨m',h,k,h1,h2,h3⟩
  ·subst h;exact absurd k hk
 ·rintro(h|⟨m',h,k,h1,h2,h3⟩)
  ·exact .inl h
  ·exact .inr ⟨m',.inl h,k,h1,h2,h3⟩
theorem J7 {m:eu} (hk:m.kind≠4) {e x:Int}:wJ (s.add m) g e x↔wJ s g e x:=by
 constructor
 ·rintro(⟨l,h1,h2⟩|h)
  ·exact .inl ⟨l,(OY hk).1 h1,h2⟩
  ·exact .inr h
 ·rintro(⟨l,h1,h2⟩|h)
  ·exact .inl ⟨l,(OY hk).2 h1,h2⟩
  ·exact .inr h
theorem J8 {m:eu} (ht:∀ {e v l},(s.add m).nJ e v l→s.nJ e v l) {e:Int} {C:List Int} {kn:Int→Int} {Y:List cZ} (hc:lG (s.add m) g e C kn Y):lG s g e C kn Y:=by
 cases hc with
 | now h1 h2 h3=>exact .now h1 h2 h3
 | next h1 h2 h3 h4=>exact .next h1 h2 h3 (ht h4)
 | first h1 h2 h3 h4 h5=>exact .first h1 h2 h3 h4 (ht h5)
theorem Qv (h:oO s g) {m:eu} (hk:m.kind≠4) (ht:∀ {e v l},(s.add m).nJ e v l→s.nJ e v l)
  (hf:m.kind=2→s.jU m.fetch.mD∧m.fetch.epoch=(s.rep m.fetch.mD).epoch∧0≤m.fetch.flushed∧m.fetch.flushed≤m.fetch.offset∧∃ X,UE g m.fetch X∧(∀x∈X,x.ep≤m.fetch.epoch)∧X.take m.fetch.flushed.toNat<+:zD (s.rep m.fetch.mD))
  (hr:m.kind=3→g.st m.reply.epoch∧0≤m.reply.base∧
  (m.reply.cut=false→((g.W m.reply.epoch).take m.reply.base.toNat).length=m.reply.base.toNat∧gZ ((g.W m.reply.epoch).take m.reply.base.toNat)=m.reply.last∧(g.W m.reply.epoch).take m.reply.base.toNat++m.reply.entries<+:g.W m.reply.epoch∧
   0≤m.reply.high∧m.reply.high≤(g.W m.reply.epoch).length∧(g.W m.reply.epoch).take m.reply.high.toNat<+:g.K)∧
  (m.reply.cut=true→m.reply.last<m.reply.epoch∧¬ (m.reply.base≤(g.W m.reply.epoch).length∧gZ ((g.W m.reply.epoch).take m.reply.base.toNat)=m.reply.last)∧
   m.reply.qI=dO (g.W m.reply.epoch) m.reply.last∧m.reply.jv=gZ ((g.W m.reply.epoch).take (dO (g.W m.reply.epoch) m.reply.last))))
  (hv:m.kind=1→m.view.epoch≤s.view.epoch∧m.view.leader=g.ld m.view.epoch∧(∀x∈m.view.isr,s.jU x)∧(m.view.epoch=s.view.epoch→m.view.version≤s.view.version∧(m.view.version=s.view.version→m.view.isr=s.view.isr))):oO (s.add m) g:=by
 have ha:∀ {e kn Y c n},e<(s.rep c).epoch→rX (s.add m) g e kn Y c n→rX s g e kn Y c n:=by
  rintro e kn Y c n hlt (h1|⟨m',X,h1|h1,k,h2,h3,h4⟩)
  ·exact .inl h1
  ·exact .inr ⟨m',X,h1,k,h2,h3,h4⟩
  ·subst h1
   have:=(hf k).2.1
   rw[h2,h3]at this
   omega
 refine⟨⟨h.b.nb,h.b.self,h.b.out,h.b.fine,h.b.view,h.b.isr,h.b.ZW,h.b.uZ,h.b.ep,h.b.st,h.b.alive⟩,⟨h.m.rep,h.m.w,h.m.MC,h.m.X7⟩,⟨?_,h.f.known,?_⟩,⟨?_,h.v.GH,?_⟩,⟨?_,?_,?_⟩,⟨h.k.zC,h.k.ZX,λx hx=>h.k.k1 x ((J7 hk).1 hx),h.k.k2,h.k.k4,h.k.k5,h.k.k8⟩⟩
 ·rintro m' (hm|rfl) k
  ·exact h.f.fetch m' hm k
  ·obtain⟨a1,a2,a3,a4,X,a5,a6,a7⟩:=hf k
   exact⟨a1,by show m'.fetch.epoch≤(s.rep m'.fetch.mD).epoch;omega,a3,a4,X,a5,a6,λ_ _=>a7⟩
 ·rintro m' (hm|rfl) k
  ·exact h.f.reply m' hm k
  ·exact hr k
 ·rintro m' (hm|rfl) k
  ·exact h.v.tell m' hm k
  ·exact hv k
 ·rintro m' (hm|rfl) k
  ·exact h.v.alter m' hm k
  ·exact absurd k hk
 ·intro e C kn Y hc x hx
  exact h.c.c1 e C kn Y (J8 ht hc) x ((J7 hk).1 hx)
 ·intro e C kn Y hc n hn hac
  have h2:=h.c.c2 e C kn Y (J8 ht hc) n hn (λc c1 c2 c3=>ha c3 (hac c c1 c2 c3))
  exact⟨h2.1,λx hx=>h2.2 x ((J7 hk).1 hx)⟩
 ·intro e C kn Y hc hx
  exact h.c.c3 e C kn Y (J8 ht hc) (hx.imp id (λ⟨x,a,b⟩=>⟨x,(J7 hk).1 a,b⟩))
theorem Dh {m:eu} (hk:m.kind≠1) {e v:Int} {l:List Int} (h:(s.add m).nJ e v l):s.nJ e v l:=by
 rcases h with⟨m',h1|rfl,k,h2⟩|h
 ·exact .inl ⟨m',h1,k,h2⟩
 ·exact absurd k hk
 ·exact .inr h
theorem acR (h:oO s g) {m:eu} (hk:m.kind=1) (hm:m.view=s.view):oO (s.add m) g:=by
 refine Qv h (by omega) ?_ (λk=>by omega) (λk=>by omega) (λ_=>?_)
 ·rintro e v l (⟨m',h1|rfl,k,h2,h3,h4⟩|h1)
  ·exact .inl ⟨m',h1,k,h2,h3,h4⟩
  ·rw[hm]at h2 h3 h4
   exact .inr ⟨h2.symm,h3,h4⟩
  ·exact .inr h1
 ·rw[hm]
  exact⟨Int.le_refl _,h.b.ZW,h.b.isr.2,λ_=>⟨Int.le_refl _,λ_=>rfl⟩⟩
theorem aff (h:oO s g) (hb:s.jU b) {m:eu} (hk:m.kind=2) (hm:m.fetch=(s.rep b).Us):oO (s.add m) g:=by
 have adG:=h.b.self b hb
 obtain⟨f0,f1⟩:=(h.b.fine b hb).bU.fl
 refine Qv h (by omega) (λht=>Dh (by omega) ht) (λ_=>?_) (λk=>by omega) (λk=>by omega)
 rw[hm]
 have e1:(s.rep b).Us.mD=b:=adG
 rw[e1]
 exact⟨hb,rfl,f0,f1,(s.rep b).log,⟨h.m.rep b hb,rfl,rfl⟩,h.m.MC b hb,List.prefix_refl _⟩
end
section
variable {s : PS} {g : Gh} {b : Int}
def Gh.QE (g:Gh) (e:Int) (x:cZ):Gh:={g with W:=λe'=>if e'=e then g.W e'++[x] else g.W e'}
theorem X9 (g:Gh) (e:Int) (x:cZ):(g.QE e x).W e=g.W e++[x]:=if_pos rfl
theorem Ya (g:Gh) {e e':Int} (x:cZ) (h:e'≠e):(g.QE e x).W e'=g.W e':=if_neg h
theorem Ub (g:Gh) (e:Int) (x:cZ) (e':Int):g.W e'<+:(g.QE e x).W e':=by
 by_cases h:e'=e
 ·subst h;rw[X9];exact List.prefix_append _ _
 ·rw[Ya g x h];exact List.prefix_refl _
theorem Df.up {e:Int} {x:cZ} {l:List cZ} (h:Df g l):Df (g.QE e x) l:=λk y hy=>by
 obtain⟨h1,h2,h3⟩:=h k y hy
 exact⟨h1,h2,h3.trans (Ub g e x _)⟩
theorem OZ {x:cZ} {e:Int} {l:List cZ} (h:Df g l) (hx:x.ep=e) (hp:l<+:g.W e++[x]):l<+:g.W e:=by
 rcases Nat.lt_or_ge (g.W e).length l.length with h1|h1
 ·exfalso
  have h2:=hp.length_le
  rw[List.length_append]at h2
  have h3:l.length=(g.W e++[x]).length:=by rw[List.length_append];simp at h2 ⊢;omega
  have h4:l=g.W e++[x]:=hp.eq_of_length h3
  have h5:l[(g.W e).length]? =some x:=by rw[h4,List.getElem?_append_right (Nat.le_refl _),Nat.sub_self];rfl
  have h6:=(h _ _ h5).2.2.length_le
  rw[List.length_take,hx]at h6
  omega
 ·exact Fe hp (List.prefix_append _ _) h1
theorem Z5 {l:List cZ} {x:cZ} {ep:Int} (h:ep<x.ep):dO (l++[x]) ep=dO l ep:=by
 unfold dO
 induction l with
 | nil=>
  have:¬ x.ep≤ep:=by omega
  simp[this]
 | cons y l ih=>
  simp only[List.cons_append,List.takeWhile_cons]
  split
  ·simp only[List.length_cons];rw[ih]
  ·rfl
theorem acS (h:oO s g) (hb:s.jU b) (hr:(s.rep b).role=3) {x:cZ} (hx:x.ep=(s.rep b).epoch) (gu:({s.rep b with log:=(s.rep b).log++[x]}:aI).oU):
  oO (s.aP b {s.rep b with log:=(s.rep b).log++[x]}) (g.QE (s.rep b).epoch x):=by
 obtain⟨a1,a2,a3,a4,a5,a6⟩:=h.b.alive b hb hr
 have hg:=(h.b.fine b hb).bU
 obtain⟨f0,f1⟩:=hg.fl
 obtain⟨i0,i1⟩:=hg.hi
 have D6:iI 1 (g.W (s.rep b).epoch++[x])=true:=by
  have:=gu.bU.BN
  unfold vZ at this
  simp only[Bool.and_eq_true]at this
  rw[←a3];exact this.1
 generalize he:(s.rep b).epoch=e at *
 obtain⟨st1,st2,st3,st4,st5,st6⟩:=h.b.st e a1
 generalize zq:s.aP b {s.rep b with log:=(s.rep b).log++[x]}=s' at *
 generalize ML:g.QE e x=g' at *
 have wpre:∀ e',g.W e'<+:g'.W e':=λe'=>by rw[←ML];exact Ub g e x e'
 have Bd:g'.W e=g.W e++[x]:=by rw[←ML];exact X9 g e x
 have NJ:∀ e',e'≠e→g'.W e'=g.W e':=λe' h1=>by rw[←ML];exact Ya g x h1
 have up:∀ {l},Df g l→Df g' l:=λh1=>by rw[←ML];exact h1.up
 have eS:g'.S=g.S:=by rw[←ML];rfl
 have eT:g'.st=g.st:=by rw[←ML];rfl
 have eL:g'.ld=g.ld:=by rw[←ML];rfl
 have eK:g'.K=g.K:=by rw[←ML];rfl
 have ek:g'.zC=g.zC:=by rw[←ML];rfl
 have Yb:∀ e' k,k≤(g.W e').length→(g'.W e').take k=(g.W e').take k:=by
  intro e' k hk
  by_cases h1:e'=e
  ·subst h1;rw[Bd,List.take_append_of_le_length hk]
  ·rw[NJ e' h1]
 have agr:∀ e',g.st e'→g'.qM e'=g.qM e':=by
  intro e' h1
  unfold Gh.qM
  rw[eS]
  exact Yb e' _ (h.b.st e' h1).2.2.2.2.1
 have rc:∀ y,(y=b∧s'.rep y={s.rep b with log:=(s.rep b).log++[x]})∨(y≠b∧s'.rep y=s.rep y):=λy=>by rw[←zq];exact bg s b _ y
 have sv:s'.view=s.view:=by rw[←zq];rfl
 have sb:s'.iq=s.iq:=by rw[←zq];rfl
 have sB:∀ y,s'.jU y↔s.jU y:=λy=>by rw[←zq];exact Iff.rfl
 have sn:s'.nb=s.nb:=by rw[←zq];rfl
 have ep:∀ y,(s'.rep y).epoch=(s.rep y).epoch:=λy=>by
  rcases rc y with⟨rfl,h1⟩|⟨_,h1⟩<;>rw[h1]
 have fl:∀ y,zD (s'.rep y)=zD (s.rep y):=λy=>by
  rcases rc y with⟨rfl,h1⟩|⟨_,h1⟩
  ·rw[h1]
   show ((s.rep y).log++[x]).take (s.rep y).flushed.toNat=(s.rep y).log.take (s.rep y).flushed.toNat
   rw[List.take_append_of_le_length (by omega)]
  ·rw[h1]
 have lw:∀ y,BK (s'.rep y)=BK (s.rep y):=λy=>by
  rcases rc y with⟨rfl,h1⟩|⟨_,h1⟩
  ·rw[h1]
   show ((s.rep y).log++[x]).take (s.rep y).high.toNat=(s.rep y).log.take (s.rep y).high.toNat
   rw[List.take_append_of_le_length (by omega)]
  ·rw[h1]
 have uY:∀ y,(s'.rep y).self=(s.rep y).self∧(s'.rep y).role=(s.rep y).role∧(s'.rep y).known=(s.rep y).known∧(s'.rep y).counts=(s.rep y).counts∧(s'.rep y).version=(s.rep y).version∧(s'.rep y).isr=(s.rep y).isr∧(s'.rep y).qM=(s.rep y).qM∧(s'.rep y).high=(s.rep y).high∧(s'.rep y).flushed=(s.rep y).flushed:=λy=>by
  rcases rc y with⟨rfl,h1⟩|⟨_,h1⟩<;>rw[h1]<;>exact⟨rfl,rfl,rfl,rfl,rfl,rfl,rfl,rfl,rfl⟩
 have sW:∀ {l},s'.sW l↔s.sW l:=fun{l}=>by rw[←zq];exact Iff.rfl
 have nJ:∀ {e' v l},s'.nJ e' v l↔s.nJ e' v l:=fun{e' v l}=>by rw[←zq];exact Iff.rfl
 have iX:∀ {e' y},wJ s' g' e' y↔wJ s g e' y:=by
  intro e' y
  unfold wJ
  rw[sv,eT,eL]
  simp only[sW,ep,sB]
 have cf:∀ {e' C kn Y},lG s' g' e' C kn Y→∃ Y0,lG s g e' C kn Y0∧(Y=Y0∨(e'=e∧Y0=g.W e∧Y=g.W e++[x])):=by
  intro e' C kn Y hc
  have wY:g'.W e'=g.W e'∨(e'=e∧g.W e'=g.W e∧g'.W e'=g.W e++[x]):=by
   by_cases h1:e'=e
   ·subst h1;exact .inr ⟨rfl,rfl,Bd⟩
   ·exact .inl (NJ e' h1)
  cases hc with
  | now q1 q2 q3=>
   rw[eL]at q1 q2 q3 ⊢
   rw[(uY _).2.1]at q2
   rw[ep]at q3
   rw[(uY _).2.2.1,(uY _).2.2.2.1]
   exact⟨_,.now ((sB _).1 q1) q2 q3,wY⟩
  | next q1 q2 q3 q4=>
   rw[eL]at q1 q2 q3 q4 ⊢
   rw[(uY _).2.1]at q2
   rw[ep]at q3
   rw[(uY _).2.2.2.2.1]at q4
   rw[(uY _).2.2.1]
   exact⟨_,.next ((sB _).1 q1) q2 q3 (nJ.1 q4),wY⟩
  | first q1 q2 q3 q4 q5=>
   rw[eL]at q1 q4
   rw[eT]at q2
   rw[ep]at q4
   exact⟨_,.first ((sB _).1 q1) q2 q3 q4 (nJ.1 q5),.inl rfl⟩
 have WH:∀ {f X},UE g' f X→∀ m,s.iq m→m.kind=2→f=m.fetch→UE g f X:=by
  rintro f X ⟨t1,t2,t3⟩ m hm hk rfl
  obtain⟨-,-,-,-,X0,⟨u1,u2,u3⟩,-⟩:=h.f.fetch m hm hk
  have:X=X0:=Df.jc t1 (up u1) (by omega) (by rw[t3,u3])
  rw[this];exact⟨u1,u2,u3⟩
 have acT:∀ {e' Z},afR s g e' Z→afR s' g' e' Z:=by
  rintro e' Z ⟨z1,z2⟩
  refine⟨λe1 h1 h2=>?_,λy hy hlt=>?_⟩
  ·rw[eT]at h2;rw[agr e1 h2];exact z1 e1 h1 h2
  ·rw[ep]at hlt;rw[fl];exact z2 y (iX.1 hy) hlt
 refine⟨⟨by rw[sn];exact h.b.nb,?_,?_,?_,by rw[sv];exact h.b.view,?_,by rw[sv,eL];exact h.b.ZW,by rw[sv];exact h.b.uZ,?_,?_,?_⟩,⟨?_,?_,?_,?_⟩,⟨?_,?_,?_⟩,⟨?_,?_,?_⟩,⟨?_,?_,?_⟩,⟨by rw[ek,sv];exact h.k.zC,by rw[ek,eT];exact h.k.ZX,?_,?_,?_,?_,?_⟩⟩
 ·intro y hy;rw[(uY y).1];exact h.b.self y ((sB y).1 hy)
 ·intro y hy;rw[ep];exact h.b.out y (λh1=>hy ((sB y).2 h1))
 ·intro y hy
  rcases rc y with⟨rfl,h1⟩|⟨_,h1⟩
  ·rw[h1];exact gu
  ·rw[h1];exact h.b.fine y ((sB y).1 hy)
 ·rw[sv];exact⟨h.b.isr.1,λy hy=>(sB y).2 (h.b.isr.2 y hy)⟩
 ·intro y hy;rw[ep,sv];exact h.b.ep y ((sB y).1 hy)
 ·intro e' h1
  rw[eT]at h1
  obtain⟨q1,q2,q3,q4,q5,q6⟩:=h.b.st e' h1
  rw[eL,eS,sv,ep]
  refine⟨q1,q2,(sB _).2 q3,q4,Nat.le_trans q5 (wpre e').length_le,?_⟩
  by_cases h2:e'=e
  ·subst h2;rw[Bd];exact D6
  ·rw[NJ e' h2];exact q6
 ·intro y hy iE
  rw[(uY y).2.1]at iE
  obtain⟨q1,q2,q3,q4,q5,q6⟩:=h.b.alive y ((sB y).1 hy) iE
  rw[ep,eT,eL,eS,(uY y).2.2.2.1,(uY y).2.2.2.2.2.2.1]
  refine⟨q1,q2,?_,q4,λz hz=>(sB z).2 (q5 z hz),q6⟩
  rcases rc y with⟨rfl,h1⟩|⟨jm,h1⟩
  ·rw[h1,he,Bd]
   show (s.rep y).log++[x]=_
   rw[a3]
  ·rw[h1,NJ]
   ·exact q3
   ·intro h2;rw[h2,a2]at q2;exact jm q2.symm
 ·intro y hy
  rcases rc y with⟨rfl,h1⟩|⟨_,h1⟩
  ·rw[h1]
   refine Df.amw (up (h.m.rep y hb)) (by rw[eT,hx];exact a1) (by rw[eS,hx,a3];exact st5) ?_
   rw[hx,Bd,a3];exact List.prefix_refl _
  ·rw[h1];exact up (h.m.rep y ((sB y).1 hy))
 ·intro e' h1
  rw[eT]at h1
  by_cases h2:e'=e
  ·subst h2
   rw[Bd]
   refine Df.amw (up (h.m.w _ h1)) (by rw[eT,hx];exact a1) (by rw[eS,hx];exact st5) ?_
   rw[hx,Bd];exact List.prefix_refl _
  ·rw[NJ e' h2];exact up (h.m.w e' h1)
 ·intro y hy z hz
  rcases rc y with⟨rfl,h1⟩|⟨_,h1⟩
  ·rw[h1]at hz
   rw[ep]
   rcases List.mem_append.1 hz with hz|hz
   ·exact h.m.MC y hb z hz
   ·obtain rfl:z=x:=by simpa using hz
    omega
  ·rw[h1]at hz;rw[ep];exact h.m.MC y ((sB y).1 hy) z hz
 ·intro e' h1 k z hz
  rw[eT]at h1
  rw[eS]
  by_cases h2:e'=e
  ·subst h2
   rw[Bd]at hz
   rcases Nat.lt_or_ge k (g.W e').length with hk|hk
   ·rw[List.getElem?_append_left hk]at hz;exact h.m.X7 _ h1 k z hz
   ·rw[List.getElem?_append_right hk]at hz
    have h0:k-(g.W e').length=0:=by
     cases kS:k-(g.W e').length with
     | zero=>rfl
     | succ n=>rw[kS]at hz;simp at hz
    rw[h0]at hz
    obtain rfl:x=z:=by simpa using hz
    exact⟨by omega,λ_=>by omega,λ_=>hx⟩
  ·rw[NJ e' h2]at hz;exact h.m.X7 e' h1 k z hz
 ·intro m hm hk
  rw[sb]at hm
  obtain⟨q1,q2,q3,q4,X,⟨u1,u2,u3⟩,q6,q7⟩:=h.f.fetch m hm hk
  refine⟨(sB _).2 q1,by rw[ep];exact q2,q3,q4,X,⟨up u1,u2,u3⟩,q6,λh1 h2=>?_⟩
  rw[ep]at h1
  rw[fl]
  refine q7 h1 (λh3=>?_)
  have h4:=h2 (by rw[eT];exact h3)
  by_cases h5:m.fetch.epoch=e
  ·rw[h5,Bd]at h4;rw[h5];exact OZ u1 hx h4
  ·rw[NJ _ h5]at h4;exact h4
 ·intro y hy iE c hc hcy hk
  rw[(uY y).2.1]at iE
  rw[(uY y).2.2.1]at hk ⊢
  obtain⟨q1,q2,q3⟩:=h.f.known y ((sB y).1 hy) iE c ((sB c).1 hc) hcy hk
  rw[ep,ep]
  refine⟨q1,?_,λh1=>?_⟩
  ·have:=(wpre (s.rep y).epoch).length_le;omega
  ·rw[fl,Yb _ _ (by omega)];exact q3 h1
 ·intro m hm hk
  rw[sb]at hm
  obtain⟨q1,q2,q3,q4⟩:=h.f.reply m hm hk
  rw[eT,eK]
  refine⟨q1,q2,λhc=>?_,λhc=>?_⟩
  ·obtain⟨p1,p2,p3,p4,p5,p6⟩:=q3 hc
   have Js:m.reply.base.toNat≤(g.W m.reply.epoch).length:=by rw[List.length_take]at p1;omega
   rw[Yb _ _ Js,Yb _ _ (by omega)]
   exact⟨p1,p2,p3.trans (wpre _),p4,by have:=(wpre m.reply.epoch).length_le;omega,p6⟩
  ·obtain⟨p1,p2,p3,p4⟩:=q4 hc
   by_cases h5:m.reply.epoch=e
   ·rw[h5]at p1 p2 p3 p4 ⊢
    rw[Bd,Z5 (by omega)]
    refine⟨p1,?_,p3,?_⟩
    ·rintro⟨z1,z2⟩
     rw[List.length_append]at z1
     have z1':m.reply.base≤(g.W e).length+1:=by simpa using z1
     by_cases z3:m.reply.base≤(g.W e).length
     ·rw[List.take_append_of_le_length (by omega)]at z2
      exact p2 ⟨z3,z2⟩
     ·have z4:m.reply.base.toNat=(g.W e++[x]).length:=by rw[List.length_append];simp;omega
      rw[z4,List.take_length,La]at z2
      omega
    ·rw[List.take_append_of_le_length (acr _ _)];exact p4
   ·rw[NJ _ h5];exact⟨p1,p2,p3,p4⟩
 ·intro m hm hk
  rw[sb]at hm
  obtain⟨q1,q2,q3,q4⟩:=h.v.tell m hm hk
  rw[sv,eL];exact⟨q1,q2,λy hy=>(sB y).2 (q3 y hy),q4⟩
 ·intro y hy iE h1
  rw[(uY y).2.1]at iE
  rw[ep,sv]at h1
  rw[(uY y).2.2.2.2.1,(uY y).2.2.2.2.2.1,sv]
  exact h.v.GH y ((sB y).1 hy) iE h1
 ·intro m hm hk
  rw[sb]at hm
  obtain⟨q1,q2,q3,q4⟩:=h.v.alter m hm hk
  rw[sv,eL,eT]
  refine⟨q1,q2,q3,λh1=>?_⟩
  obtain⟨p1,p2,p3,p4⟩:=q4 h1
  refine⟨p1,λy hy=>(sB y).2 (p2 y hy),p3,λy hy iE h2=>?_⟩
  rw[(uY y).2.1]at iE
  rw[ep]at h2
  rw[(uY y).2.2.2.2.1];exact p4 y ((sB y).1 hy) iE h2
 ·intro e' C kn Y hc y hy
  obtain⟨Y0,Bq,-⟩:=cf hc
  rw[ep];exact h.c.c1 e' C kn Y0 Bq y (iX.1 hy)
 ·intro e' C kn Y hc n hn ha
  obtain⟨Y0,Bq,hY⟩:=cf hc
  have ha0:∀ c∈C,c≠g.ld e'→e'<(s.rep c).epoch→rX s g e' kn Y0 c n:=by
   intro c h1 h2 h3
   rcases ha c h1 (by rw[eL];exact h2) (by rw[ep];exact h3) with h4|⟨m,X,h4,h5,h6,h7,h8,h9,h10⟩
   ·exact .inl h4
   ·rw[sb]at h4
    have h8':=WH h8 m h4 h5 rfl
    refine .inr ⟨m,X,h4,h5,h6,h7,h8',?_,h10⟩
    rcases hY with rfl|⟨-,rfl,rfl⟩
    ·exact h9
    ·exact OZ h8'.1 hx h9
  rcases hY with rfl|⟨rfl,rfl,rfl⟩
  ·exact acT (h.c.c2 e' C kn Y Bq n hn ha0)
  ·by_cases hm:∃ c∈C,c≠g.ld e'∧e'<(s.rep c).epoch
   ·obtain⟨c,h1,h2,h3⟩:=hm
    have hcB:s.jU c:=by
     by_cases h4:s.jU c
     ·exact h4
     ·have:=h.b.out c h4;omega
    have hn0:n≤(g.W e').length:=by
     rcases ha0 c h1 h2 h3 with h4|⟨m,X,h4,h5,h6,h7,h8,h9,h10⟩
     ·have BO:kn=λc=>(s.rep b).known c.toNat:=by
       cases Bq with
       | now q1 q2 q3=>rw[a2]
       | next q1 q2 q3 q4=>rw[a2]
       | first q1 q2 q3 q4 q5=>exact absurd a1 q2
      rw[BO]at h4
      have h4':(n:Int)≤(s.rep b).known c.toNat:=h4
      rw[a2]at h2
      have:=(h.f.known b hb hr c hcB h2 (by omega)).2.1
      rw[he]at this
      omega
     ·have h11:=h9.length_le
      have h12:=(h.f.fetch m h4 h5).2.2.2.1
      have h13:=h8.2.1
      omega
    rw[List.take_append_of_le_length hn0]
    exact acT (h.c.c2 _ C kn _ Bq n hn0 ha0)
   ·refine⟨λe1 h1 h2=>?_,λy hy hlt=>?_⟩
    ·rw[eT]at h2
     exact absurd (h.c.c3 _ C kn _ Bq (.inl ⟨e1,h1,h2⟩)) hm
    ·rw[ep]at hlt
     exact absurd (h.c.c3 _ C kn _ Bq (.inr ⟨y,iX.1 hy,hlt⟩)) hm
 ·intro e' C kn Y hc DK
  obtain⟨Y0,Bq,-⟩:=cf hc
  rw[eT]at DK
  obtain⟨c,h1,h2,h3⟩:=h.c.c3 e' C kn Y0 Bq (DK.imp id (λ⟨y,h1,h2⟩=>⟨y,iX.1 h1,by rw[ep]at h2;exact h2⟩))
  exact⟨c,h1,by rw[eL];exact h2,by rw[ep];exact h3⟩
 ·intro y hy
  rw[ek]at hy
  rw[ek,eK,ep,fl];exact h.k.k1 y (iX.1 hy)
 ·rw[ek,eK,eT]
  exact⟨λh1=>(h.k.k2.1 h1).trans (wpre _),λe' h1 h2=>by rw[agr e' h2];exact h.k.k2.2 e' h1 h2⟩
 ·obtain⟨y,q1,q2,q3,q4⟩:=h.k.k4
  rw[ek,eK]
  exact⟨y,(sB y).2 q1,by rw[ep];exact q2,by rw[lw];exact q3,by rw[(uY y).2.2.2.2.2.2.2.1,(uY y).2.2.2.2.2.2.2.2];exact q4⟩
 ·intro y hy
  rw[eK,lw];exact h.k.k5 y ((sB y).1 hy)
 ·intro y hy iE h1
  rw[(uY y).2.1]at iE
  rw[ep,ek]at h1
  rw[eK,lw];exact h.k.k8 y ((sB y).1 hy) iE h1
end
section
variable {s : PS} {g : Gh} {b : Int} {r' : aI}
theorem WI (h:oO s g) (hb:s.jU b) (hr:(s.rep b).role=3) {m:eu} (hm:s.iq m) (hk:m.kind=1) (he:m.view.epoch=(s.rep b).epoch) (hv:(s.rep b).version<m.view.version) (JI:b∈m.view.isr)
  (gu:((s.rep b).Dp m.view).oU):oO (s.aP b ((s.rep b).Dp m.view)) g:=by
 obtain⟨a1,a2,a3,a4,a5,a6⟩:=h.b.alive b hb hr
 obtain⟨t1,t2,t3,t4⟩:=h.v.tell m hm hk
 generalize tC:(s.rep b).Dp m.view=r' at *
 have e1:r'.self=(s.rep b).self∧r'.epoch=(s.rep b).epoch∧r'.role=(s.rep b).role∧r'.log=(s.rep b).log∧r'.known=(s.rep b).known∧r'.counts=m.view.isr∧r'.version=m.view.version∧r'.isr=m.view.isr∧r'.qM=(s.rep b).qM∧zD r'=zD (s.rep b)∧BK r'=BK (s.rep b)∧r'.high=(s.rep b).high∧r'.flushed=(s.rep b).flushed:=by
  rw[←tC];exact⟨rfl,rfl,rfl,rfl,rfl,rfl,rfl,rfl,rfl,rfl,rfl,rfl,rfl⟩
 obtain⟨y1,y2,y3,y4,y5,y6,y7,y8,y9,y10,y11,y12,y13⟩:=e1
 have ep:=pO (s:=s) (b:=b) y2
 have iX:∀ {e x},wJ (s.aP b r') g e x↔wJ s g e x:=GI y2
 have fl:∀ x,zD ((s.aP b r').rep x)=zD (s.rep x):=λx=>by
  rcases bg s b r' x with⟨rfl,q⟩|⟨_,q⟩<;>rw[q]
  exact y10
 have lw:∀ x,BK ((s.aP b r').rep x)=BK (s.rep x):=λx=>by
  rcases bg s b r' x with⟨rfl,q⟩|⟨_,q⟩<;>rw[q]
  exact y11
 have uY:∀ x,((s.aP b r').rep x).role=(s.rep x).role∧((s.aP b r').rep x).known=(s.rep x).known∧((s.aP b r').rep x).log=(s.rep x).log∧((s.aP b r').rep x).high=(s.rep x).high∧((s.aP b r').rep x).flushed=(s.rep x).flushed∧((s.aP b r').rep x).qM=(s.rep x).qM∧((s.aP b r').rep x).self=(s.rep x).self:=λx=>by
  rcases bg s b r' x with⟨rfl,q⟩|⟨_,q⟩<;>rw[q]
  ·exact⟨y3,y5,y4,y12,y13,y9,y1⟩
  ·exact⟨rfl,rfl,rfl,rfl,rfl,rfl,rfl⟩
 have MQ:∀ e,g.ld e=b→s.jU (g.ld e)→(s.rep (g.ld e)).role=3→(s.rep (g.ld e)).epoch=e→e=(s.rep b).epoch:=λe q1 _ _ q4=>by rw[q1]at q4;exact q4.symm
 have cf:∀ {e C kn Y},lG (s.aP b r') g e C kn Y→lG s g e C kn Y:=by
  intro e C kn Y hc
  cases hc with
  | now q1 q2 q3=>
   rcases bg s b r' (g.ld e) with⟨wL,q⟩|⟨_,q⟩
   ·rw[q]at q2 q3 ⊢
    have he':e=(s.rep b).epoch:=by rw[←q3,y2]
    rw[y5,y6]
    have:=lG.next (s:=s) (g:=g) (e:=e) (l:=m.view.isr) (by rw[wL];exact hb) (by rw[wL];exact hr) (by rw[wL];exact he'.symm) (.inl ⟨m,hm,hk,by rw[he,he'],by rw[wL];exact hv,rfl⟩)
    rw[wL]at this;exact this
   ·rw[q]at q2 q3 ⊢;exact .now q1 q2 q3
  | next q1 q2 q3 q4=>
   rcases bg s b r' (g.ld e) with⟨wL,q⟩|⟨_,q⟩
   ·rw[q]at q2 q3 q4 ⊢
    have he':e=(s.rep b).epoch:=by rw[←q3,y2]
    rw[y7]at q4
    rw[y5]
    have ht:s.nJ e (s.rep b).version C:=by
     rcases q4 with⟨m',z1,z2,z3,z4,z5⟩|⟨z1,z2,z3⟩
     ·exact .inl ⟨m',z1,z2,z3,by omega,z5⟩
     ·exact .inr ⟨z1,by have z2':m.view.version<s.view.version:=z2;omega,z3⟩
    have:=lG.next (s:=s) (g:=g) (e:=e) (l:=C) (by rw[wL];exact hb) (by rw[wL];exact hr) (by rw[wL];exact he'.symm) (by rw[wL];exact ht)
    rw[wL]at this;exact this
   ·rw[q]at q2 q3 q4 ⊢;exact .next q1 q2 q3 q4
  | first q1 q2 q3 q4 q5=>exact .first q1 q2 q3 (by rwa [ep]at q4) q5
 refine⟨⟨h.b.nb,?_,?_,?_,h.b.view,h.b.isr,h.b.ZW,h.b.uZ,?_,?_,?_⟩,⟨?_,h.m.w,?_,h.m.X7⟩,⟨?_,?_,h.f.reply⟩,⟨h.v.tell,?_,?_⟩,⟨?_,?_,?_⟩,⟨h.k.zC,h.k.ZX,?_,h.k.k2,?_,?_,?_⟩⟩
 ·intro x hx;rw[(uY x).2.2.2.2.2.2];exact h.b.self x hx
 ·intro x hx;rw[ep];exact h.b.out x hx
 ·intro x hx
  rcases bg s b r' x with⟨rfl,q⟩|⟨_,q⟩
  ·rw[q];exact gu
  ·rw[q];exact h.b.fine x hx
 ·intro x hx;rw[ep];exact h.b.ep x hx
 ·intro e he'
  obtain⟨b1,b2,b3,b4,b5⟩:=h.b.st e he'
  exact⟨b1,b2,b3,by rw[ep];exact b4,b5⟩
 ·intro x hx iE
  rw[(uY x).1]at iE
  obtain⟨b1,b2,b3,b4,b5,b6⟩:=h.b.alive x hx iE
  rw[ep,(uY x).2.2.1,(uY x).2.2.2.2.2.1]
  rcases bg s b r' x with⟨rfl,q⟩|⟨_,q⟩
  ·rw[q,y6];exact⟨b1,b2,b3,JI,t3,b6⟩
  ·rw[q];exact⟨b1,b2,b3,b4,b5,b6⟩
 ·intro x hx;rw[(uY x).2.2.1];exact h.m.rep x hx
 ·intro x hx;rw[(uY x).2.2.1,ep];exact h.m.MC x hx
 ·intro m' uD k
  obtain⟨b1,b2,b3,b4,X,b5,b6,b7⟩:=h.f.fetch m' uD k
  exact⟨b1,by rw[ep];exact b2,b3,b4,X,b5,b6,λq1 q2=>by rw[ep]at q1;rw[fl];exact b7 q1 q2⟩
 ·intro x hx iE c hc JM BO
  rw[(uY x).1]at iE
  rw[(uY x).2.1]at BO ⊢
  obtain⟨b1,b2,b3⟩:=h.f.known x hx iE c hc JM BO
  rw[ep,ep]
  exact⟨b1,b2,λq=>by rw[fl];exact b3 q⟩
 ·intro x hx iE pY
  rw[(uY x).1]at iE
  rw[ep]at pY
  rcases bg s b r' x with⟨rfl,q⟩|⟨_,q⟩
  ·rw[q,y7,y8]
   exact t4 (by rw[he];exact pY)
  ·rw[q];exact h.v.GH x hx iE pY
 ·intro m' uD k
  obtain⟨b1,b2,b3,b4⟩:=h.v.alter m' uD k
  refine⟨b1,b2,b3,λq1=>?_⟩
  obtain⟨c1,c2,c3,c4⟩:=b4 q1
  refine⟨c1,c2,c3,λx hx iE pY=>?_⟩
  rw[(uY x).1]at iE
  rw[ep]at pY
  have:=c4 x hx iE pY
  rcases bg s b r' x with⟨rfl,q⟩|⟨_,q⟩
  ·rw[q,y7];omega
  ·rw[q];exact this
 ·intro e C kn Y hc x hx
  rw[ep];exact h.c.c1 e C kn Y (cf hc) x (iX.1 hx)
 ·intro e C kn Y hc n hn ha
  have h2:=h.c.c2 e C kn Y (cf hc) n hn (λc q1 q2 q3=>ha c q1 q2 (by rw[ep];exact q3))
  exact⟨h2.1,λx hx q=>by rw[ep]at q;rw[fl];exact h2.2 x (iX.1 hx) q⟩
 ·intro e C kn Y hc hx
  obtain⟨c,q1,q2,q3⟩:=h.c.c3 e C kn Y (cf hc) (hx.imp id (λ⟨x,z1,z2⟩=>⟨x,iX.1 z1,by rwa [ep]at z2⟩))
  exact⟨c,q1,q2,by rw[ep];exact q3⟩
 ·intro x hx
  rw[ep,fl];exact h.k.k1 x (iX.1 hx)
 ·obtain⟨x,q1,q2,q3,q4⟩:=h.k.k4
  exact⟨x,q1,by rw[ep];exact q2,by rw[lw];exact q3,by rw[(uY x).2.2.2.1,(uY x).2.2.2.2.1];exact q4⟩
 ·intro x hx;rw[lw];exact h.k.k5 x hx
 ·intro x hx iE pY
  rw[(uY x).1]at iE
  rw[ep]at pY
  rw[lw];exact h.k.k8 x hx iE pY
structure adH (r r':aI) (e2:Int):Prop where
 self:r'.self=r.self
 log:r'.log=r.log
 flushed:r'.flushed=r.flushed
 high:r'.high=r.high
 epoch:r'.epoch=e2
 lt:r.epoch<e2
 fine:r'.oU
theorem O0 (h:oO s g) (hb:s.jU b) {e:Int} {C:List Int} {kn:Int→Int} {Y:List cZ} (hc:lG s g e C kn Y) (jm:b≠g.ld e) (hle:(s.rep b).epoch≤e) {n:Nat} (hn:n≤Y.length) (ha:rX s g e kn Y b n):Y.take n<+:zD (s.rep b):=by
 rcases ha with ha|⟨m,X,h4,h5,h6,h7,h8,h9,h10⟩
 ·have key:s.jU (g.ld e)→(s.rep (g.ld e)).role=3→(s.rep (g.ld e)).epoch=e→(n:Int)≤(s.rep (g.ld e)).known b.toNat→(g.W e).take n<+:zD (s.rep b):=by
   intro q1 q2 q3 q4
   obtain⟨k1,k2,k3⟩:=h.f.known (g.ld e) q1 q2 b hb jm (by omega)
   rw[q3]at k1 k2 k3
   refine List.IsPrefix.trans ?_ (k3 (by omega))
   refine pJ (iQ _ _) ?_
   rw[List.length_take];omega
  cases hc with
  | now q1 q2 q3=>exact key q1 q2 q3 ha
  | next q1 q2 q3 q4=>exact key q1 q2 q3 ha
  | first q1 q2 q3 q4 q5=>
   have ha':(n:Int)≤ -1:=ha
   omega
 ·obtain⟨f1,f2,f3,f4,X0,⟨u1,u2,u3⟩,f6,f7⟩:=h.f.fetch m h4 h5
  rw[h6]at f1 f2 f7
  rw[h7]at f2 f7
  obtain⟨v1,v2,v3⟩:=h8
  have hXX:X=X0:=Df.jc v1 u1 (by omega) (by rw[v3,u3])
  subst hXX
  have qR:g.st e→X<+:g.W e:=by
   intro hs
   cases hc with
   | now q1 q2 q3=>exact h9
   | next q1 q2 q3 q4=>exact h9
   | first q1 q2 q3 q4 q5=>exact absurd hs q2
  have h11:=f7 (by omega) qR
  refine List.IsPrefix.trans ?_ h11
  have h12:=h9.length_le
  have h13:Y.take n=X.take n:=by
   rw[List.prefix_iff_eq_take.1 h9,List.take_take,Nat.min_eq_left (by omega)]
  rw[h13]
  refine pJ (iQ _ _) ?_
  rw[List.length_take];omega
theorem Uc (h:oO s g) (hb:s.jU b) {e2:Int} (hmv:adH (s.rep b) r' e2) (hr:r'.role≠3) (hE:e2≤s.view.epoch):oO (s.aP b r') g:=by
 obtain⟨y1,y2,y3,y4,y5,y6,y7⟩:=hmv
 have epb:∀ x,x≠b→((s.aP b r').rep x).epoch=(s.rep x).epoch:=λx hx=>by rw[DF s r' hx]
 have xw:∀ x,(s.rep x).epoch≤((s.aP b r').rep x).epoch:=λx=>by
  rcases bg s b r' x with⟨rfl,q⟩|⟨_,q⟩<;>rw[q]<;>omega
 have fl:∀ x,zD ((s.aP b r').rep x)=zD (s.rep x):=λx=>by
  rcases bg s b r' x with⟨rfl,q⟩|⟨_,q⟩<;>rw[q]
  unfold zD;rw[y2,y3]
 have lw:∀ x,BK ((s.aP b r').rep x)=BK (s.rep x):=λx=>by
  rcases bg s b r' x with⟨rfl,q⟩|⟨_,q⟩<;>rw[q]
  unfold BK;rw[y2,y4]
 have al:∀ x,((s.aP b r').rep x).role=3→x≠b∧(s.aP b r').rep x=s.rep x:=λx q=>by
  rcases bg s b r' x with⟨rfl,q1⟩|⟨q1,q2⟩
  ·rw[q1]at q;exact absurd q hr
  ·exact⟨q1,q2⟩
 have iX:∀ {e x},wJ (s.aP b r') g e x→wJ s g e x:=by
  rintro e x (q|⟨e1,q1,q2,q3,q4,q5,q6⟩)
  ·exact .inl q
  ·exact .inr ⟨e1,q1,q2,q3,q4,q5,Int.lt_of_le_of_lt (xw x) q6⟩
 have cf:∀ {e C kn Y},lG (s.aP b r') g e C kn Y→lG s g e C kn Y∧(g.ld e=b→e2<e):=by
  intro e C kn Y hc
  cases hc with
  | now q1 q2 q3=>
   obtain⟨z1,z2⟩:=al _ q2
   rw[z2]at q2 q3 ⊢
   exact⟨.now q1 q2 q3,λq=>absurd q z1⟩
  | next q1 q2 q3 q4=>
   obtain⟨z1,z2⟩:=al _ q2
   rw[z2]at q2 q3 q4 ⊢
   exact⟨.next q1 q2 q3 q4,λq=>absurd q z1⟩
  | first q1 q2 q3 q4 q5=>
   refine⟨.first q1 q2 q3 (Int.lt_of_le_of_lt (xw _) q4) q5,λq=>?_⟩
   rw[q,fC]at q4
   omega
 -- what is known of b where it moves past e
 have mine:∀ {e C kn Y},lG (s.aP b r') g e C kn Y→∀ n:Nat,n≤Y.length→(∀c∈C,c≠g.ld e→e<((s.aP b r').rep c).epoch→rX (s.aP b r') g e kn Y c n)→wJ (s.aP b r') g e b→e<e2→Y.take n<+:zD (s.rep b):=by
  intro e C kn Y hc n hn ha hx hlt
  obtain⟨Bq,jm⟩:=cf hc
  have h2:=h.c.c2 e C kn Y Bq n hn (λc q1 q2 q3=>ha c q1 q2 (Int.lt_of_lt_of_le q3 (xw c)))
  by_cases hm:e<(s.rep b).epoch
  ·exact h2.2 b (iX hx) hm
  ·have hbC:=(h.c.c1 e C kn Y Bq b (iX hx)).resolve_right hm
   have Js:b≠g.ld e:=λq=>by have:=jm q.symm;omega
   exact O0 h hb Bq Js (by omega) hn (ha b hbC Js (by rw[fC];omega))
 refine⟨⟨h.b.nb,?_,?_,?_,h.b.view,h.b.isr,h.b.ZW,h.b.uZ,?_,?_,?_⟩,⟨?_,h.m.w,?_,h.m.X7⟩,⟨?_,?_,h.f.reply⟩,⟨h.v.tell,?_,?_⟩,⟨?_,?_,?_⟩,⟨h.k.zC,h.k.ZX,?_,h.k.k2,?_,?_,?_⟩⟩
 ·intro x hx
  rcases bg s b r' x with⟨rfl,q⟩|⟨_,q⟩<;>rw[q]
  ·rw[y1];exact h.b.self x hx
  ·exact h.b.self x hx
 ·intro x hx
  rw[epb x (λq=>hx (q▸hb))];exact h.b.out x hx
 ·intro x hx
  rcases bg s b r' x with⟨rfl,q⟩|⟨_,q⟩<;>rw[q]
  ·exact y7
  ·exact h.b.fine x hx
 ·intro x hx
  rcases bg s b r' x with⟨rfl,q⟩|⟨_,q⟩<;>rw[q]
  ·rw[y5];exact hE
  ·exact h.b.ep x hx
 ·intro e he
  obtain⟨b1,b2,b3,b4,b5⟩:=h.b.st e he
  exact⟨b1,b2,b3,Int.le_trans b4 (xw _),b5⟩
 ·intro x hx iE
  obtain⟨-,z⟩:=al x iE
  rw[z]at iE ⊢;exact h.b.alive x hx iE
 ·intro x hx
  rcases bg s b r' x with⟨rfl,q⟩|⟨_,q⟩<;>rw[q]
  ·rw[y2];exact h.m.rep x hx
  ·exact h.m.rep x hx
 ·intro x hx z hz
  rcases bg s b r' x with⟨rfl,q⟩|⟨_,q⟩
  ·rw[q]at hz ⊢
   rw[y2]at hz
   have:=h.m.MC x hx z hz
   omega
  ·rw[q]at hz ⊢;exact h.m.MC x hx z hz
 ·intro m hm k
  obtain⟨b1,b2,b3,b4,X,b5,b6,b7⟩:=h.f.fetch m hm k
  refine⟨b1,Int.le_trans b2 (xw _),b3,b4,X,b5,b6,λq1 q2=>?_⟩
  rw[fl]
  by_cases hsb:m.fetch.mD=b
  ·rw[hsb,fC]at q1
   rw[hsb]at b2
   omega
  ·rw[epb _ hsb]at q1;exact b7 q1 q2
 ·intro x hx iE c hc JM BO
  obtain⟨-,z⟩:=al x iE
  rw[z]at iE BO ⊢
  obtain⟨b1,b2,b3⟩:=h.f.known x hx iE c hc JM BO
  refine⟨Int.le_trans b1 (xw _),b2,λq=>?_⟩
  rw[fl]
  by_cases hcb:c=b
  ·subst hcb
   rw[fC]at q
   omega
  ·rw[epb c hcb]at q;exact b3 q
 ·intro x hx iE pY
  obtain⟨-,z⟩:=al x iE
  rw[z]at iE pY ⊢;exact h.v.GH x hx iE pY
 ·intro m hm k
  obtain⟨b1,b2,b3,b4⟩:=h.v.alter m hm k
  refine⟨b1,b2,b3,λq1=>?_⟩
  obtain⟨c1,c2,c3,c4⟩:=b4 q1
  refine⟨c1,c2,c3,λx hx iE pY=>?_⟩
  obtain⟨-,z⟩:=al x iE
  rw[z]at iE pY ⊢;exact c4 x hx iE pY
 ·intro e C kn Y hc x hx
  exact(h.c.c1 e C kn Y (cf hc).1 x (iX hx)).imp id (λq=>Int.lt_of_lt_of_le q (xw x))
 ·intro e C kn Y hc n hn ha
  have h2:=h.c.c2 e C kn Y (cf hc).1 n hn (λc q1 q2 q3=>ha c q1 q2 (Int.lt_of_lt_of_le q3 (xw c)))
  refine⟨h2.1,λx hx q=>?_⟩
  rw[fl]
  by_cases DJ:x=b
  ·subst DJ
   rw[fC]at q
   exact mine hc n hn ha hx (by omega)
  ·rw[epb x DJ]at q;exact h2.2 x (iX hx) q
 ·intro e C kn Y hc hx
  obtain⟨Bq,jm⟩:=cf hc
  by_cases xE:(∃e1,e<e1∧g.st e1)∨∃ x,wJ s g e x∧e<(s.rep x).epoch
  ·obtain⟨c,q1,q2,q3⟩:=h.c.c3 e C kn Y Bq xE
   exact⟨c,q1,q2,Int.lt_of_lt_of_le q3 (xw c)⟩
  ·rcases hx with hx|⟨x,z1,z2⟩
   ·exact absurd (.inl hx) xE
   ·by_cases DJ:x=b
    ·subst DJ
     have hm:¬ e<(s.rep x).epoch:=λq=>xE (.inr ⟨x,iX z1,q⟩)
     have hbC:=(h.c.c1 e C kn Y Bq x (iX z1)).resolve_right hm
     refine⟨x,hbC,λq=>?_,z2⟩
     have:=jm q.symm
     rw[fC]at z2
     omega
    ·rw[epb x DJ]at z2
     exact absurd (.inr ⟨x,iX z1,z2⟩) xE
 ·intro x hx
  obtain⟨q1,q2⟩:=h.k.k1 x (iX hx)
  exact⟨Int.le_trans q1 (xw x),by rw[fl];exact q2⟩
 ·obtain⟨x,q1,q2,q3,q4⟩:=h.k.k4
  refine⟨x,q1,Int.le_trans q2 (xw x),by rw[lw];exact q3,?_⟩
  rcases bg s b r' x with⟨rfl,q⟩|⟨_,q⟩<;>rw[q]
  ·rw[y3,y4];exact q4
  ·exact q4
 ·intro x hx;rw[lw];exact h.k.k5 x hx
 ·intro x hx iE pY
  obtain⟨-,z⟩:=al x iE
  rw[z]at iE pY ⊢;exact h.k.k8 x hx iE pY
end
section
variable {s : PS} {g : Gh} {b : Int} {r' : aI}
def Gh.adI (g:Gh) (e:Int) (l:List cZ):Gh:={g with W:=λe'=>if e'=e then l else g.W e',S:=λe'=>if e'=e then l.length else g.S e',st:=λe'=>g.st e'∨e'=e}
theorem aaQ (h:oO s g) (hb:s.jU b) {e2:Int} (hmv:adH (s.rep b) r' e2) (hr:r'.role=3) {m:eu} (hm:s.iq m) (hk:m.kind=1) (hme:m.view.epoch=e2) (hml:m.view.leader=b) (JI:b∈m.view.isr)
  (WJ:r'.version=m.view.version) (aip:r'.isr=m.view.isr) (acV:r'.counts=m.view.isr) (apQ:r'.qM=((s.rep b).log.length:Int)) (BO:r'.known=λ_=> -1):oO (s.aP b r') (g.adI e2 (s.rep b).log):=by
 obtain⟨y1,y2,y3,y4,y5,y6,y7⟩:=hmv
 obtain⟨t1,t2,t3,t4⟩:=h.v.tell m hm hk
 rw[hme]at t1 t2 t4
 have hld:g.ld e2=b:=by rw[←t2];exact hml
 have hns:¬ g.st e2:=λq=>by have:=(h.b.st e2 q).2.2.2.1;rw[hld]at this;omega
 have jf:=(h.b.fine b hb).bU
 have h1e:1≤e2:=by have:=jf.epoch;omega
 have D6:iI 1 (s.rep b).log=true:=by
  have:=jf.BN
  unfold vZ at this
  simp only[Bool.and_eq_true]at this
  exact this.1
 generalize ML:g.adI e2 (s.rep b).log=g' at *
 have Bd:g'.W e2=(s.rep b).log:=by rw[←ML];exact if_pos rfl
 have sat:g'.S e2=(s.rep b).log.length:=by rw[←ML];exact if_pos rfl
 have NJ:∀ e,g.st e→g'.W e=g.W e:=λe q=>by rw[←ML];exact if_neg (λ(z:e=e2)=>hns (z▸q))
 have avw:∀ e,e≠e2→g'.W e=g.W e:=λe q=>by rw[←ML];exact if_neg q
 have sne:∀ e,g.st e→g'.S e=g.S e:=λe q=>by rw[←ML];exact if_neg (λ(z:e=e2)=>hns (z▸q))
 have vU:∀ e,g'.st e↔(g.st e∨e=e2):=λe=>by rw[←ML];exact Iff.rfl
 have eL:g'.ld=g.ld:=by rw[←ML];rfl
 have eK:g'.K=g.K:=by rw[←ML];rfl
 have ek:g'.zC=g.zC:=by rw[←ML];rfl
 have aly:∀ e,g.st e→g'.qM e=g.qM e:=λe q=>by unfold Gh.qM;rw[NJ e q,sne e q]
 have alz:g'.qM e2=(s.rep b).log:=by unfold Gh.qM;rw[Bd,sat,List.take_length]
 have up:∀ {l},Df g l→Df g' l:=by
  intro l q k x hx
  obtain⟨z1,z2,z3⟩:=q k x hx
  exact⟨(vU _).2 (.inl z1),by rw[sne _ z1];exact z2,by rw[NJ _ z1];exact z3⟩
 have kne:g.zC≠e2:=λq=>by
  rcases h.k.ZX with z|z
  ·omega
  ·rw[q]at z;exact hns z
 have epb:∀ x,x≠b→((s.aP b r').rep x).epoch=(s.rep x).epoch:=λx hx=>by rw[DF s r' hx]
 have xw:∀ x,(s.rep x).epoch≤((s.aP b r').rep x).epoch:=λx=>by
  rcases bg s b r' x with⟨rfl,q⟩|⟨_,q⟩<;>rw[q]<;>omega
 have fl:∀ x,zD ((s.aP b r').rep x)=zD (s.rep x):=λx=>by
  rcases bg s b r' x with⟨rfl,q⟩|⟨_,q⟩<;>rw[q]
  unfold zD;rw[y2,y3]
 have lw:∀ x,BK ((s.aP b r').rep x)=BK (s.rep x):=λx=>by
  rcases bg s b r' x with⟨rfl,q⟩|⟨_,q⟩<;>rw[q]
  unfold BK;rw[y2,y4]
 have iX:∀ {e x},wJ (s.aP b r') g' e x→wJ s g e x:=by
  rintro e x (q|⟨e1,q1,q2,q3,q4,q5,q6⟩)
  ·exact .inl q
  ·rw[eL]at q4
   exact .inr ⟨e1,q1,q2,λz=>q3 ((vU _).2 (.inl z)),q4,q5,Int.lt_of_le_of_lt (xw x) q6⟩
 have bX:∀ {e},e<e2→wJ s g e b:=λq=>.inr ⟨e2,q,t1,hns,hld,hb,y6⟩
 have cf:∀ {e C kn Y},lG (s.aP b r') g' e C kn Y→lG s g e C kn Y∧(g.ld e=b→e2≤e):=by
  intro e C kn Y hc
  have key:∀ {l:List Int} {v:Int},e=e2→s.nJ e v l→lG s g e l (λ_=> -1) (s.rep b).log:=by
   intro l v q z
   subst q
   exact .first (by rw[hld];exact hb) hns h1e (by rw[hld];exact y6) z
  cases hc with
  | now q1 q2 q3=>
   rw[eL]at q1 q2 q3 ⊢
   rcases bg s b r' (g.ld e) with⟨z1,z2⟩|⟨z1,z2⟩
   ·rw[z2]at q2 q3 ⊢
    have he:e=e2:=by rw[←q3,y5]
    rw[he,Bd,acV,BO,←he]
    exact⟨key he (.inl ⟨m,hm,hk,by rw[hme,he],(by omega:m.view.version-1<m.view.version),rfl⟩),λ_=>by omega⟩
   ·rw[z2]at q2 q3 ⊢
    have qR:=(h.b.alive _ q1 q2).1
    rw[q3]at qR
    rw[NJ e qR]
    exact⟨.now q1 q2 q3,λq=>absurd q z1⟩
  | next q1 q2 q3 q4=>
   rw[eL]at q1 q2 q3 q4 ⊢
   rcases bg s b r' (g.ld e) with⟨z1,z2⟩|⟨z1,z2⟩
   ·rw[z2]at q2 q3 q4 ⊢
    have he:e=e2:=by rw[←q3,y5]
    rw[he,Bd,BO,←he]
    exact⟨key he q4,λ_=>by omega⟩
   ·rw[z2]at q2 q3 q4 ⊢
    have qR:=(h.b.alive _ q1 q2).1
    rw[q3]at qR
    rw[NJ e qR]
    exact⟨.next q1 q2 q3 q4,λq=>absurd q z1⟩
  | first q1 q2 q3 q4 q5=>
   rw[eL]at q1 q4
   refine⟨.first q1 (λz=>q2 ((vU _).2 (.inl z))) q3 (Int.lt_of_le_of_lt (xw _) q4) q5,λq=>?_⟩
   rw[q,fC]at q4
   omega
 have WH:∀ {f X},UE g' f X→∀ m',s.iq m'→m'.kind=2→f=m'.fetch→UE g f X:=by
  rintro f X ⟨z1,z2,z3⟩ m' uD sF rfl
  obtain⟨-,-,-,-,X0,⟨u1,u2,u3⟩,-⟩:=h.f.fetch m' uD sF
  have:X=X0:=Df.jc z1 (up u1) (by omega) (by rw[z3,u3])
  rw[this];exact⟨u1,u2,u3⟩
 have acW:∀ {e kn Y c n},rX (s.aP b r') g' e kn Y c n→rX s g e kn Y c n:=by
  rintro e kn Y c n (z|⟨m',X,z1,z2,z3,z4,z5,z6,z7⟩)
  ·exact .inl z
  ·exact .inr ⟨m',X,z1,z2,z3,z4,WH z5 m' z1 z2 rfl,z6,z7⟩
 have mine:∀ {e C kn Y},lG (s.aP b r') g' e C kn Y→∀ n:Nat,n≤Y.length→(∀c∈C,c≠g'.ld e→e<((s.aP b r').rep c).epoch→rX (s.aP b r') g' e kn Y c n)→e<e2→Y.take n<+:zD (s.rep b):=by
  intro e C kn Y hc n hn ha hlt
  obtain⟨Bq,jm⟩:=cf hc
  have h2:=h.c.c2 e C kn Y Bq n hn (λc q1 q2 q3=>acW (ha c q1 (by rw[eL];exact q2) (Int.lt_of_lt_of_le q3 (xw c))))
  by_cases Xn:e<(s.rep b).epoch
  ·exact h2.2 b (bX hlt) Xn
  ·have hbC:=(h.c.c1 e C kn Y Bq b (bX hlt)).resolve_right Xn
   have Js:b≠g.ld e:=λq=>by have:=jm q.symm;omega
   exact O0 h hb Bq Js (by omega) hn (acW (ha b hbC (by rw[eL];exact Js) (by rw[fC];omega)))
 refine⟨⟨h.b.nb,?_,?_,?_,h.b.view,h.b.isr,by rw[eL];exact h.b.ZW,h.b.uZ,?_,?_,?_⟩,⟨?_,?_,?_,?_⟩,⟨?_,?_,?_⟩,⟨?_,?_,?_⟩,⟨?_,?_,?_⟩,⟨by rw[ek];exact h.k.zC,?_,?_,?_,?_,?_,?_⟩⟩
 ·intro x hx
  rcases bg s b r' x with⟨rfl,q⟩|⟨_,q⟩<;>rw[q]
  ·rw[y1];exact h.b.self x hx
  ·exact h.b.self x hx
 ·intro x hx
  rw[epb x (λq=>hx (q▸hb))];exact h.b.out x hx
 ·intro x hx
  rcases bg s b r' x with⟨rfl,q⟩|⟨_,q⟩<;>rw[q]
  ·exact y7
  ·exact h.b.fine x hx
 ·intro x hx
  rcases bg s b r' x with⟨rfl,q⟩|⟨_,q⟩<;>rw[q]
  ·rw[y5];exact t1
  ·exact h.b.ep x hx
 ·intro e he
  rw[eL]
  rcases(vU e).1 he with he|rfl
  ·obtain⟨b1,b2,b3,b4,b5,b6⟩:=h.b.st e he
   rw[NJ e he,sne e he]
   exact⟨b1,b2,b3,Int.le_trans b4 (xw _),b5,b6⟩
  ·rw[hld,fC,Bd,sat]
   exact⟨h1e,t1,hb,by omega,Nat.le_refl _,D6⟩
 ·intro x hx iE
  rw[eL]
  rcases bg s b r' x with⟨rfl,q⟩|⟨_,q⟩
  ·rw[q,y5,acV,apQ,y2,sat,Bd]
   exact⟨(vU _).2 (.inr rfl),hld,rfl,JI,t3,rfl⟩
  ·rw[q]at iE ⊢
   obtain⟨z1,z2,z3,z4,z5,z6⟩:=h.b.alive x hx iE
   rw[NJ _ z1,sne _ z1]
   exact⟨(vU _).2 (.inl z1),z2,z3,z4,z5,z6⟩
 ·intro x hx
  rcases bg s b r' x with⟨rfl,q⟩|⟨_,q⟩<;>rw[q]
  ·rw[y2];exact up (h.m.rep x hx)
  ·exact up (h.m.rep x hx)
 ·intro e he
  rcases(vU e).1 he with he|rfl
  ·rw[NJ e he];exact up (h.m.w e he)
  ·rw[Bd];exact up (h.m.rep b hb)
 ·intro x hx z hz
  rcases bg s b r' x with⟨rfl,q⟩|⟨_,q⟩
  ·rw[q]at hz ⊢
   rw[y2]at hz
   have:=h.m.MC x hx z hz
   omega
  ·rw[q]at hz ⊢;exact h.m.MC x hx z hz
 ·intro e he k x hx
  rcases(vU e).1 he with he|rfl
  ·rw[NJ e he]at hx;rw[sne e he];exact h.m.X7 e he k x hx
  ·rw[Bd]at hx
   rw[sat]
   have z1:=h.m.MC b hb x (List.mem_of_getElem? hx)
   have z2:=(Ge hx).1
   exact⟨by omega,λq=>by omega,λq=>by omega⟩
 ·intro m' uD k
  obtain⟨b1,b2,b3,b4,X,⟨u1,u2,u3⟩,b6,b7⟩:=h.f.fetch m' uD k
  refine⟨b1,Int.le_trans b2 (xw _),b3,b4,X,⟨up u1,u2,u3⟩,b6,λq1 q2=>?_⟩
  rw[fl]
  by_cases hsb:m'.fetch.mD=b
  ·rw[hsb,fC]at q1
   rw[hsb]at b2
   omega
  ·rw[epb _ hsb]at q1
   exact b7 q1 (λz=>by have:=q2 ((vU _).2 (.inl z));rwa [NJ _ z]at this)
 ·intro x hx iE c hc JM afU
  rcases bg s b r' x with⟨rfl,q⟩|⟨_,q⟩
  ·rw[q,BO]at afU
   have:(0:Int)≤ -1:=afU
   omega
  ·rw[q]at iE afU ⊢
   obtain⟨b1,b2,b3⟩:=h.f.known x hx iE c hc JM afU
   have qR:=(h.b.alive x hx iE).1
   rw[NJ _ qR]
   refine⟨Int.le_trans b1 (xw _),b2,λz=>?_⟩
   rw[fl]
   by_cases hcb:c=b
   ·subst hcb
    rw[fC]at z
    omega
   ·rw[epb c hcb]at z;exact b3 z
 ·intro m' uD k
  obtain⟨q1,q2,q3,q4⟩:=h.f.reply m' uD k
  rw[NJ _ q1,eK]
  exact⟨(vU _).2 (.inl q1),q2,q3,q4⟩
 ·intro m' uD k
  rw[eL];exact h.v.tell m' uD k
 ·intro x hx iE pY
  rcases bg s b r' x with⟨rfl,q⟩|⟨_,q⟩
  ·rw[q]at pY ⊢
   rw[WJ,aip]
   exact t4 (by rw[←y5];exact pY)
  ·rw[q]at iE pY ⊢;exact h.v.GH x hx iE pY
 ·intro m' uD k
  obtain⟨b1,b2,b3,b4⟩:=h.v.alter m' uD k
  rw[eL]
  refine⟨b1,b2,(vU _).2 (.inl b3),λq1=>?_⟩
  obtain⟨c1,c2,c3,c4⟩:=b4 q1
  refine⟨c1,c2,c3,λx hx iE pY=>?_⟩
  rcases bg s b r' x with⟨rfl,q⟩|⟨_,q⟩
  ·rw[q,y5]at pY
   have q1':m'.alter.epoch=s.view.epoch:=q1
   have adF:e2=s.view.epoch:=pY
   rw[q1',←adF]at b3
   exact absurd b3 hns
  ·rw[q]at iE pY ⊢;exact c4 x hx iE pY
 ·intro e C kn Y hc x hx
  exact(h.c.c1 e C kn Y (cf hc).1 x (iX hx)).imp id (λq=>Int.lt_of_lt_of_le q (xw x))
 ·intro e C kn Y hc n hn ha
  have h2:=h.c.c2 e C kn Y (cf hc).1 n hn (λc q1 q2 q3=>acW (ha c q1 (by rw[eL];exact q2) (Int.lt_of_lt_of_le q3 (xw c))))
  refine⟨λe1 q1 q2=>?_,λx hx q=>?_⟩
  ·rcases(vU e1).1 q2 with z|rfl
   ·rw[aly e1 z];exact h2.1 e1 q1 z
   ·rw[alz];exact(mine hc n hn ha q1).trans (iQ _ _)
  ·rw[fl]
   by_cases DJ:x=b
   ·subst DJ
    rw[fC]at q
    exact mine hc n hn ha (by omega)
   ·rw[epb x DJ]at q;exact h2.2 x (iX hx) q
 ·intro e C kn Y hc hx
  obtain⟨Bq,jm⟩:=cf hc
  rw[eL]
  by_cases xE:(∃e1,e<e1∧g.st e1)∨∃ x,wJ s g e x∧e<(s.rep x).epoch
  ·obtain⟨c,q1,q2,q3⟩:=h.c.c3 e C kn Y Bq xE
   exact⟨c,q1,q2,Int.lt_of_lt_of_le q3 (xw c)⟩
  ·have key:e<e2→∃ c∈C,c≠g.ld e∧e<((s.aP b r').rep c).epoch:=by
    intro hlt
    have Xn:¬ e<(s.rep b).epoch:=λq=>xE (.inr ⟨b,bX hlt,q⟩)
    have hbC:=(h.c.c1 e C kn Y Bq b (bX hlt)).resolve_right Xn
    exact⟨b,hbC,λq=>by have:=jm q.symm;omega,by rw[fC];omega⟩
   rcases hx with⟨e1,z1,z2⟩|⟨x,z1,z2⟩
   ·rcases(vU e1).1 z2 with z|rfl
    ·exact absurd (.inl ⟨e1,z1,z⟩) xE
    ·exact key z1
   ·by_cases DJ:x=b
    ·subst DJ
     rw[fC]at z2
     exact key (by omega)
    ·rw[epb x DJ]at z2
     exact absurd (.inr ⟨x,iX z1,z2⟩) xE
 ·rw[ek];exact h.k.ZX.imp id (λz=>(vU _).2 (.inl z))
 ·intro x hx
  rw[ek]at hx
  obtain⟨q1,q2⟩:=h.k.k1 x (iX hx)
  rw[ek,eK]
  exact⟨Int.le_trans q1 (xw x),by rw[fl];exact q2⟩
 ·rw[ek,eK]
  refine⟨λz=>?_,λe z1 z2=>?_⟩
  ·rcases(vU _).1 z with z|z
   ·rw[NJ _ z];exact h.k.k2.1 z
   ·exact absurd z kne
  ·rcases(vU e).1 z2 with z|rfl
   ·rw[aly e z];exact h.k.k2.2 e z1 z
   ·rw[alz];exact(h.k.k1 b (bX z1)).2.trans (iQ _ _)
 ·obtain⟨x,q1,q2,q3,q4⟩:=h.k.k4
  rw[ek,eK]
  refine⟨x,q1,Int.le_trans q2 (xw x),by rw[lw];exact q3,?_⟩
  rcases bg s b r' x with⟨rfl,q⟩|⟨_,q⟩<;>rw[q]
  ·rw[y3,y4];exact q4
  ·exact q4
 ·intro x hx;rw[eK,lw];exact h.k.k5 x hx
 ·intro x hx iE pY
  rw[ek]at pY
  rw[eK]
  rcases bg s b r' x with⟨rfl,q⟩|⟨_,q⟩
  ·rw[q,y5]at pY;exact absurd pY.symm kne
  ·rw[lw];rw[q]at iE pY;exact h.k.k8 x hx iE pY
end
end Go.Ws
