/- Lemmas for the statements of this layer (joined texts); no condition. -/
import Derived.Laws.OwnMore
import Derived.Test.YtdabdbmehmccnaaGreatCa01
import Derived.Test.YtdabdbmehmccnaaGreatCa14
import Derived.Test.YtdabdbmehmccnaaGreatKClusterKeeps00
namespace Go.Ws
open Go Go.RowKit Go.Proofs
set_option maxHeartbeats 4000000
set_option maxRecDepth 100000
set_option linter.unusedVariables false
set_option linter.unusedSimpArgs false
section
variable {s : PS} {g : Gh} {b : Int} {r' : aI}
structure apR (r r':aI):Prop where
 self:r'.self=r.self
 log:r'.log=r.log
 flushed:r'.flushed=r.flushed
 high:r'.high=r.high
 epoch:r'.epoch=r.epoch
 role:r'.role=r.role
 version:r'.version=r.version
 isr:r'.isr=r.isr
 qM:r'.qM=r.qM
 fine:r'.oU
theorem Ud (h:oO s g) (hb:s.jU b) (hn:apR (s.rep b) r')
  (acV:(s.rep b).role=3→b∈r'.counts∧∀ x∈r'.counts,s.jU x) (Xo:∀ x∈(s.rep b).counts,x∈r'.counts)
  (BO:(s.rep b).role=3→∀ c,s.jU c→c≠b→0≤r'.known c.toNat→(s.rep b).epoch≤(s.rep c).epoch∧r'.known c.toNat≤(g.W (s.rep b).epoch).length∧((s.rep c).epoch=(s.rep b).epoch→(g.W (s.rep b).epoch).take (r'.known c.toNat).toNat<+:zD (s.rep c)))
  (aq5:(s.rep b).role=3→∀ c,s.jU c→∀ n:Nat,(n:Int)≤r'.known c.toNat→rX s g (s.rep b).epoch (λc=>(s.rep b).known c.toNat) (g.W (s.rep b).epoch) c n):oO (s.aP b r') g:=by
 obtain⟨y1,y2,y3,y4,y5,y6,y7,y8,y9,y10⟩:=hn
 have ep:=pO (s:=s) (b:=b) y5
 have iX:∀ {e x},wJ (s.aP b r') g e x↔wJ s g e x:=GI y5
 have fl:∀ x,zD ((s.aP b r').rep x)=zD (s.rep x):=λx=>by
  rcases bg s b r' x with⟨rfl,q⟩|⟨_,q⟩<;>rw[q]
  unfold zD;rw[y2,y3]
 have lw:∀ x,BK ((s.aP b r').rep x)=BK (s.rep x):=λx=>by
  rcases bg s b r' x with⟨rfl,q⟩|⟨_,q⟩<;>rw[q]
  unfold BK;rw[y2,y4]
 have uY:∀ x,((s.aP b r').rep x).role=(s.rep x).role∧((s.aP b r').rep x).log=(s.rep x).log∧((s.aP b r').rep x).high=(s.rep x).high∧((s.aP b r').rep x).flushed=(s.rep x).flushed∧((s.aP b r').rep x).qM=(s.rep x).qM∧((s.aP b r').rep x).self=(s.rep x).self∧((s.aP b r').rep x).version=(s.rep x).version∧((s.aP b r').rep x).isr=(s.rep x).isr:=λx=>by
  rcases bg s b r' x with⟨rfl,q⟩|⟨_,q⟩<;>rw[q]
  ·exact⟨y6,y2,y4,y3,y9,y1,y7,y8⟩
  ·exact⟨rfl,rfl,rfl,rfl,rfl,rfl,rfl,rfl⟩
 -- a configuration is one that was: its counts among these, what it afg was
 have cf:∀ {e C kn Y},lG (s.aP b r') g e C kn Y→∃ C0 kn0,lG s g e C0 kn0 Y∧(∀c∈C0,c∈C)∧∀ c,s.jU c→∀ n,rX (s.aP b r') g e kn Y c n→rX s g e kn0 Y c n:=by
  intro e C kn Y hc
  have kk:g.ld e=b→(s.rep b).role=3→(s.rep b).epoch=e→∀ c,s.jU c→∀ n,rX (s.aP b r') g e (λc=>r'.known c.toNat) (g.W e) c n→rX s g e (λc=>(s.rep b).known c.toNat) (g.W e) c n:=by
   rintro q1 q2 q3 c hcB n (z|z)
   ·have:=aq5 q2 c hcB n z
    rw[q3]at this;exact this
   ·exact .inr z
  cases hc with
  | now q1 q2 q3=>
   rw[(uY _).1]at q2
   rw[ep]at q3
   refine⟨_,_,.now q1 q2 q3,?_,?_⟩
   ·intro c QS
    rcases bg s b r' (g.ld e) with⟨z1,z2⟩|⟨z1,z2⟩
    ·rw[z2];rw[z1]at QS;exact Xo c QS
    ·rw[z2];exact QS
   ·rcases bg s b r' (g.ld e) with⟨z1,z2⟩|⟨z1,z2⟩
    ·rw[z2,z1];rw[z1]at q2 q3;exact kk z1 q2 q3
    ·rw[z2];exact λc _ n z=>z
  | next q1 q2 q3 q4=>
   rw[(uY _).1]at q2
   rw[ep]at q3
   rw[(uY _).2.2.2.2.2.2.1]at q4
   refine⟨_,_,.next q1 q2 q3 q4,λc z=>z,?_⟩
   rcases bg s b r' (g.ld e) with⟨z1,z2⟩|⟨z1,z2⟩
   ·rw[z2,z1];rw[z1]at q2 q3;exact kk z1 q2 q3
   ·rw[z2];exact λc _ n z=>z
  | first q1 q2 q3 q4 q5=>
   rw[ep]at q4
   exact⟨_,_,.first q1 q2 q3 q4 q5,λc z=>z,λc _ n z=>z⟩
 have moB:∀ {e C kn Y},lG s g e C kn Y→∀ c,e<(s.rep c).epoch→s.jU c:=by
  intro e C kn Y hc c hlt
  have h1:1≤e:=by
   cases hc with
   | now q1 q2 q3=>have:=(h.b.st _ (h.b.alive _ q1 q2).1).1;omega
   | next q1 q2 q3 q4=>have:=(h.b.st _ (h.b.alive _ q1 q2).1).1;omega
   | first q1 q2 q3 q4 q5=>exact q3
  by_cases z:s.jU c
  ·exact z
  ·have:=h.b.out c z;omega
 refine⟨⟨h.b.nb,?_,?_,?_,h.b.view,h.b.isr,h.b.ZW,h.b.uZ,?_,?_,?_⟩,⟨?_,h.m.w,?_,h.m.X7⟩,⟨?_,?_,h.f.reply⟩,⟨h.v.tell,?_,?_⟩,⟨?_,?_,?_⟩,⟨h.k.zC,h.k.ZX,?_,h.k.k2,?_,?_,?_⟩⟩
 ·intro x hx;rw[(uY x).2.2.2.2.2.1];exact h.b.self x hx
 ·intro x hx;rw[ep];exact h.b.out x hx
 ·intro x hx
  rcases bg s b r' x with⟨rfl,q⟩|⟨_,q⟩<;>rw[q]
  ·exact y10
  ·exact h.b.fine x hx
 ·intro x hx;rw[ep];exact h.b.ep x hx
 ·intro e he'
  obtain⟨b1,b2,b3,b4,b5⟩:=h.b.st e he'
  exact⟨b1,b2,b3,by rw[ep];exact b4,b5⟩
 ·intro x hx iE
  rw[(uY x).1]at iE
  obtain⟨b1,b2,b3,b4,b5,b6⟩:=h.b.alive x hx iE
  rw[ep,(uY x).2.1,(uY x).2.2.2.2.1]
  rcases bg s b r' x with⟨rfl,q⟩|⟨_,q⟩
  ·rw[q];exact⟨b1,b2,b3,(acV iE).1,(acV iE).2,b6⟩
  ·rw[q];exact⟨b1,b2,b3,b4,b5,b6⟩
 ·intro x hx;rw[(uY x).2.1];exact h.m.rep x hx
 ·intro x hx;rw[(uY x).2.1,ep];exact h.m.MC x hx
 ·intro m' uD k
  obtain⟨b1,b2,b3,b4,X,b5,b6,b7⟩:=h.f.fetch m' uD k
  exact⟨b1,by rw[ep];exact b2,b3,b4,X,b5,b6,λq1 q2=>by rw[ep]at q1;rw[fl];exact b7 q1 q2⟩
 ·intro x hx iE c hc JM hk
  rw[(uY x).1]at iE
  rw[ep,ep,fl]
  rcases bg s b r' x with⟨rfl,q⟩|⟨_,q⟩
  ·rw[q]at hk ⊢;exact BO iE c hc JM hk
  ·rw[q]at hk ⊢;exact h.f.known x hx iE c hc JM hk
 ·intro x hx iE pY
  rw[(uY x).1]at iE
  rw[ep]at pY
  rw[(uY x).2.2.2.2.2.2.1,(uY x).2.2.2.2.2.2.2];exact h.v.GH x hx iE pY
 ·intro m' uD k
  obtain⟨b1,b2,b3,b4⟩:=h.v.alter m' uD k
  refine⟨b1,b2,b3,λq1=>?_⟩
  obtain⟨c1,c2,c3,c4⟩:=b4 q1
  refine⟨c1,c2,c3,λx hx iE pY=>?_⟩
  rw[(uY x).1]at iE
  rw[ep]at pY
  rw[(uY x).2.2.2.2.2.2.1];exact c4 x hx iE pY
 ·intro e C kn Y hc x hx
  obtain⟨C0,kn0,Bq,z1,z2⟩:=cf hc
  rw[ep];exact(h.c.c1 e C0 kn0 Y Bq x (iX.1 hx)).imp (z1 x) id
 ·intro e C kn Y hc n hn' ha
  obtain⟨C0,kn0,Bq,z1,z2⟩:=cf hc
  have h2:=h.c.c2 e C0 kn0 Y Bq n hn' (λc q1 q2 q3=>z2 c (moB Bq c q3) n (ha c (z1 c q1) q2 (by rw[ep];exact q3)))
  exact⟨h2.1,λx hx q=>by rw[ep]at q;rw[fl];exact h2.2 x (iX.1 hx) q⟩
 ·intro e C kn Y hc hx
  obtain⟨C0,kn0,Bq,z1,z2⟩:=cf hc
  obtain⟨c,q1,q2,q3⟩:=h.c.c3 e C0 kn0 Y Bq (hx.imp id (λ⟨x,z1,z2⟩=>⟨x,iX.1 z1,by rwa [ep]at z2⟩))
  exact⟨c,z1 c q1,q2,by rw[ep];exact q3⟩
 ·intro x hx
  rw[ep,fl];exact h.k.k1 x (iX.1 hx)
 ·obtain⟨x,q1,q2,q3,q4⟩:=h.k.k4
  exact⟨x,q1,by rw[ep];exact q2,by rw[lw];exact q3,by rw[(uY x).2.2.1,(uY x).2.2.2.1];exact q4⟩
 ·intro x hx;rw[lw];exact h.k.k5 x hx
 ·intro x hx iE pY
  rw[(uY x).1]at iE
  rw[ep]at pY
  rw[lw];exact h.k.k8 x hx iE pY
end
section
variable {s : PS} {g : Gh} {b : Int}
theorem Ji {r:aI} {l:List Int} (h:r.jS l=0):fP l=true∧r.self∈l∧r.role=3∧∀ x∈l,x∈r.isr∨ku r.high r.qM≤r.known x.toNat:=by
 unfold aI.jS at h
 split at h
 ·cases h
 rename_i h1
 split at h
 ·cases h
 rename_i h2
 split at h
 ·cases h
 rename_i h3
 have MZ:r.zW l=true:=by simpa using h1
 have Ye:r.LK l=true:=by simpa using h3
 unfold aI.zW at MZ
 unfold aI.LK at Ye
 simp only[Bool.and_eq_true,decide_eq_true_eq]at MZ
 simp only[List.all_eq_true,Bool.or_eq_true,decide_eq_true_eq]at Ye
 exact⟨MZ.1,MZ.2,by simpa using h2,Ye⟩
theorem Ue (h:oO s g) (hb:s.jU b) {l:List Int} (hl:∀ x∈l,s.jU x):oO (s.aP b ((s.rep b).qV l)) g:=by
 have hf:=Ij (h.b.fine b hb) l
 by_cases bT:(s.rep b).jS l=0
 ·obtain⟨p1,p2,p3,p4⟩:=Ji bT
  have hcB:=(h.b.fine b hb).bU.bks
  have hlB:=nN p1
  have e:(s.rep b).qV l={s.rep b with counts:=zh (s.rep b).counts l}:=by unfold aI.qV;rw[if_pos bT]
  rw[e]at hf ⊢
  refine Ud h hb ⟨rfl,rfl,rfl,rfl,rfl,rfl,rfl,rfl,rfl,hf⟩ (λhr=>?_) (λx hx=>?_) (λhr c hc JM hk=>h.f.known b hb hr c hc JM hk) (λhr c hc n hn=>.inl hn)
  ·obtain⟨a1,a2,a3,a4,a5,a6⟩:=h.b.alive b hb hr
   refine⟨(zi hcB hlB b).2 (List.mem_append.2 (.inl a4)),λx hx=>?_⟩
   rcases List.mem_append.1 ((zi hcB hlB x).1 hx) with z|z
   ·exact a5 x z
   ·exact hl x z
  ·exact(zi hcB hlB x).2 (List.mem_append.2 (.inl hx))
 ·have e:(s.rep b).qV l=s.rep b:=by unfold aI.qV;rw[if_neg bT]
  rw[e,rY];exact h
theorem Qw (h:oO s g) (hb:s.jU b) (hr:(s.rep b).role=3) {m:eu} (hk:m.kind=4) (hl:∀ x∈m.alter.isr,s.jU x) (JI:b∈m.alter.isr) (Xo:∀ x∈m.alter.isr,x∈(s.rep b).counts)
  (amE:∀ x∈m.alter.isr,x∈(s.rep b).isr∨ku (s.rep b).high (s.rep b).qM≤(s.rep b).known x.toNat) (MQ:m.alter.leader=b) (UH:m.alter.epoch=(s.rep b).epoch) (WJ:m.alter.version=(s.rep b).version):oO (s.add m) g:=by
 obtain⟨a1,a2,a3,a4,a5,a6⟩:=h.b.alive b hb hr
 obtain⟨st1,st2,st3,st4,st5,st6⟩:=h.b.st _ a1
 have hg:=(h.b.fine b hb).bU
 have hgm:=nO (s.rep b).high (s.rep b).qM
 -- who is new in the sW: in the view's, or afh as far as is asked
 have sW:∀ {l},(s.add m).sW l→s.sW l∨(l=m.alter.isr∧(s.rep b).epoch=s.view.epoch∧(s.rep b).version=s.view.version):=by
  rintro l (z|⟨m',z|z,k,h1,h2,h3⟩)
  ·exact .inl (.inl z)
  ·exact .inl (.inr ⟨m',z,k,h1,h2,h3⟩)
  ·subst z
   have MZ:m'.alter.epoch=s.view.epoch:=h1
   have Yd:m'.alter.version=s.view.version:=h2
   exact .inr ⟨h3,by omega,by omega⟩
 have afi:∀ {e x},wJ (s.add m) g e x→wJ s g e x∨((s.rep b).epoch=s.view.epoch∧(s.rep b).version=s.view.version∧x∈m.alter.isr∧x≠b∧(s.rep x).epoch=(s.rep b).epoch∧g.qM (s.rep b).epoch<+:zD (s.rep x)∧BK (s.rep b)<+:zD (s.rep x)):=by
  rintro e x (⟨l,h1,h2⟩|h1)
  ·rcases sW h1 with z|⟨rfl,z1,z2⟩
   ·exact .inl (.inl ⟨l,z,h2⟩)
   ·have aip:=(h.v.GH b hb hr z1).2 z2
    rcases amE x h2 with z|z
    ·rw[aip]at z;exact .inl (.inl ⟨_,.inl rfl,z⟩)
    ·by_cases DJ:x=b
     ·have hle:s.view.leader=b:=by rw[h.b.ZW,←z1];exact a2
      have:=h.b.uZ (by rw[hle];have:=hb.1;omega)
      rw[hle]at this
      rw[DJ];exact .inl (.inl ⟨_,.inl rfl,this⟩)
     ·obtain⟨k1,k2,k3⟩:=h.f.known b hb hr x (hl x h2) DJ (by have:=hg.hi;omega)
      have hxe:(s.rep x).epoch=(s.rep b).epoch:=by have:=h.b.ep x (hl x h2);omega
      refine .inr ⟨z1,z2,h2,DJ,hxe,?_,?_⟩
      ·refine List.IsPrefix.trans ?_ (k3 hxe)
       unfold Gh.qM
       refine pJ (iQ _ _) ?_
       rw[List.length_take];omega
      ·refine List.IsPrefix.trans ?_ (k3 hxe)
       unfold BK
       rw[a3]
       refine pJ (iQ _ _) ?_
       rw[List.length_take];have:=hg.hi;omega
  ·exact .inl (.inr h1)
 have cf:∀ {e C kn Y},lG (s.add m) g e C kn Y→lG s g e C kn Y:=λhc=>J8 (λht=>Dh (by omega) ht) hc
 have ack:∀ {e kn Y c n},rX (s.add m) g e kn Y c n→rX s g e kn Y c n:=by
  rintro e kn Y c n (z|⟨m',X,z|z,k,z2⟩)
  ·exact .inl z
  ·exact .inr ⟨m',X,z,k,z2⟩
  ·subst z;omega
 have ce:∀ {e C kn Y},lG s g e C kn Y→e≤s.view.epoch:=by
  intro e C kn Y hc
  cases hc with
  | now q1 q2 q3=>rw[←q3];exact h.b.ep _ q1
  | next q1 q2 q3 q4=>rw[←q3];exact h.b.ep _ q1
  | first q1 q2 q3 q4 q5=>
   rcases q5 with⟨m',z1,z2,z3,-⟩|⟨z,-⟩
   ·have:=(h.v.tell m' z1 z2).1;omega
   ·omega
 -- at the view's epoch and version this TW configuration is the only one
 have top:∀ {C kn Y},(s.rep b).epoch=s.view.epoch→(s.rep b).version=s.view.version→lG s g (s.rep b).epoch C kn Y→C=(s.rep b).counts:=by
  intro C kn Y z1 z2 hc
  have noT:∀ {l},¬s.nJ (s.rep b).epoch (s.rep b).version l:=by
   rintro l (⟨m',q1,q2,q3,q4,-⟩|⟨q1,q2,-⟩)
   ·have:=((h.v.tell m' q1 q2).2.2.2 (by omega)).1;omega
   ·omega
  cases hc with
  | now q1 q2 q3=>rw[a2]
  | next q1 q2 q3 q4=>rw[a2]at q4;exact absurd q4 noT
  | first q1 q2 q3 q4 q5=>exact absurd a1 q2
 refine⟨⟨h.b.nb,h.b.self,h.b.out,h.b.fine,h.b.view,h.b.isr,h.b.ZW,h.b.uZ,h.b.ep,h.b.st,h.b.alive⟩,⟨h.m.rep,h.m.w,h.m.MC,h.m.X7⟩,⟨?_,h.f.known,?_⟩,⟨?_,h.v.GH,?_⟩,⟨?_,?_,?_⟩,⟨h.k.zC,h.k.ZX,?_,h.k.k2,h.k.k4,h.k.k5,h.k.k8⟩⟩
 ·rintro m' (z|z) k
  ·exact h.f.fetch m' z k
  ·subst z;omega
 ·rintro m' (z|z) k
  ·exact h.f.reply m' z k
  ·subst z;omega
 ·rintro m' (z|z) k
  ·exact h.v.tell m' z k
  ·subst z;omega
 ·rintro m' (z|z) k
  ·exact h.v.alter m' z k
  ·subst z
   rw[UH,MQ]
   refine⟨h.b.ep b hb,a2.symm,a1,λz1=>?_⟩
   have z1':(s.rep b).epoch=s.view.epoch:=z1
   refine⟨by rw[WJ];exact(h.v.GH b hb hr z1').1,hl,JI,λx hx iE pY=>?_⟩
   have adF:(s.rep x).epoch=s.view.epoch:=pY
   have:=(h.b.alive x hx iE).2.1
   rw[adF,←z1',a2]at this
   rw[←this,WJ];exact Int.le_refl _
 ·intro e C kn Y hc x hx
  rcases afi hx with z|⟨z1,z2,z3,z4,z5,z6,z7⟩
  ·exact h.c.c1 e C kn Y (cf hc) x z
  ·have h1:=ce (cf hc)
   by_cases he:e=(s.rep b).epoch
   ·subst he
    rw[top z1 z2 (cf hc)]
    exact .inl (Xo x z3)
   ·exact .inr (by show e<(s.rep x).epoch;omega)
 ·intro e C kn Y hc n hn ha
  have h2:=h.c.c2 e C kn Y (cf hc) n hn (λc q1 q2 q3=>ack (ha c q1 q2 q3))
  refine⟨h2.1,λx hx hlt=>?_⟩
  rcases afi hx with z|⟨z1,z2,z3,z4,z5,z6,z7⟩
  ·exact h2.2 x z hlt
  ·have afv:e<(s.rep x).epoch:=hlt
   exact(h2.1 (s.rep b).epoch (by omega) a1).trans z6
 ·intro e C kn Y hc hx
  refine h.c.c3 e C kn Y (cf hc) ?_
  rcases hx with hx|⟨x,z,hlt⟩
  ·exact .inl hx
  ·rcases afi z with z|⟨z1,z2,z3,z4,z5,z6,z7⟩
   ·exact .inr ⟨x,z,hlt⟩
   ·have afv:e<(s.rep x).epoch:=hlt
    exact .inl ⟨(s.rep b).epoch,by omega,a1⟩
 ·intro x hx
  rcases afi hx with z|⟨z1,z2,z3,z4,z5,z6,z7⟩
  ·exact h.k.k1 x z
  ·have hkE:=h.k.zC.2
   refine⟨by show g.zC≤(s.rep x).epoch;omega,?_⟩
   show g.K<+:zD (s.rep x)
   rcases Int.lt_or_eq_of_le hkE with h3|h3
   ·exact(h.k.k2.2 (s.rep b).epoch (by omega) a1).trans z6
   ·rw[←h.k.k8 b hb hr (by omega)];exact z7
end
section
variable {s : PS} {g : Gh} {b : Int}
theorem NK (s:PS) (b:Int) (r r':aI):(s.aP b r).aP b r'=s.aP b r':=by
 have:(λx=>if x=b then r' else if x=b then r else s.rep x)=λx=>if x=b then r' else s.rep x:=by
  funext x
  by_cases h:x=b
  ·simp[h]
  ·simp[h]
 unfold PS.aP
 simp only[PS.mk.injEq,true_and,and_true]
 exact this
theorem GL {s1 s2:PS} {r:aI} (h:∃ g',oO (s.aP b r) g'∧g.K<+:g'.K) (hb:s.jU b):∃ g',oO (s.aP b r.iT) g'∧g.K<+:g'.K:=by
 obtain⟨g1,h1,k1⟩:=h
 obtain⟨g2,h2,k2⟩:=Z4 h1 (b:=b) hb
 rw[fC,NK]at h2
 exact⟨g2,h2,k1.trans k2⟩
theorem afj (h:oO s g) (hb:s.jU b):Jh g (s.rep b) {s.rep b with flushed:=((s.rep b).log.length:Int)}:=by
 have hf:=h.b.fine b hb
 have hg:=hf.bU
 obtain⟨f0,f1⟩:=hg.fl
 refine⟨⟨rfl,rfl,⟨⟨hg.ok,hg.self,hg.least,hg.role,hg.epoch,⟨by simp,by simp⟩,hg.hi,hg.isr,hg.Y6⟩,hf.ver⟩,λh=>⟨h,rfl,rfl,rfl,rfl,rfl,rfl⟩,λZ hZ _=>?_,h.m.rep b hb,h.m.MC b hb⟩,λ_=>rfl,h.k.k5 b hb,λa1 a2 _=>⟨a1,hg.hi.2⟩⟩
 show Z<+:(s.rep b).log.take ((s.rep b).log.length:Int).toNat
 rw[List.take_of_length_le (by omega)]
 exact hZ.trans (iQ _ _)
theorem Z7 (h:oO s g) (hb:s.jU b):∃ g',oO (s.aP b (s.rep b).flush) g'∧g.K<+:g'.K:=
 GL (s1:=s) (s2:=s) ⟨g,GK h hb (afj h hb),List.prefix_refl _⟩ hb
theorem O1 {r:aI} {f:pW} {n:Int} (h:r.ji f n=0):r.yT f n=true∧r.role=3∧f.epoch=r.epoch:=by
 unfold aI.ji at h
 split at h
 ·cases h
 rename_i h1
 split at h
 ·cases h
 rename_i h2
 split at h
 ·cases h
 rename_i h3
 exact⟨by simpa using h1,by simpa using h2,by simpa using h3⟩
theorem GN {l:List cZ} {n e:Int}:vP l n e=true↔n≤l.length∧gZ (l.take n.toNat)=e:=by
 unfold vP
 rw[Bool.and_eq_true,decide_eq_true_eq,beq_iff_eq]
theorem Z8 (h:oO s g) {e:Int} (he:g.st e) {f:pW} {X:List cZ} (hX:UE g f X) (hf:vP (g.W e) f.offset f.last=true):X<+:g.W e∧f.offset≤(g.W e).length:=by
 obtain⟨h1,h2⟩:=GN.1 hf
 obtain⟨x1,x2,x3⟩:=hX
 have h3:f.offset.toNat=X.length:=by omega
 rw[h3]at h2
 have:X=(g.W e).take X.length:=Df.jc x1 ((h.m.w e he).take _) (by rw[List.length_take];omega) (by rw[h2,x3])
 exact⟨by rw[this];exact iQ _ _,h1⟩
theorem Z9 (h:oO s g) (hb:s.jU b) {m:eu} (hm:s.iq m) (hk:m.kind=2) (bT:(s.rep b).ji m.fetch 4=0) (tH:vP (s.rep b).log m.fetch.offset m.fetch.last=true):
  oO (s.aP b {s.rep b with known:=EM (s.rep b).known m.fetch.mD.toNat (ku ((s.rep b).known m.fetch.mD.toNat) m.fetch.flushed)}) g:=by
 obtain⟨p1,p2,p3⟩:=O1 bT
 obtain⟨a1,a2,a3,a4,a5,a6⟩:=h.b.alive b hb p2
 obtain⟨b1,b2,b3,b4,X,b5,b6,b7⟩:=h.f.fetch m hm hk
 rw[a3]at tH
 obtain⟨hX,hle⟩:=Z8 h a1 b5 tH
 rw[p3]at b2 b7
 have G7:m.fetch.mD≠b:=by
  have hs:=h.b.self b hb
  unfold aI.yT at p1
  simp only[Bool.and_eq_true]at p1
  have:=p1.1.1.1.1.1.1.2
  rw[hs]at this
  simpa using this
 have hgm:=nO ((s.rep b).known m.fetch.mD.toNat) m.fetch.flushed
 have hf:=h.b.fine b hb
 have hg:=hf.bU
 have Bj:∀ c,s.jU c→c.toNat=m.fetch.mD.toNat→c=m.fetch.mD:=λc hc q=>by
  have:=hc.1;have:=b1.1;omega
 have hXl:m.fetch.flushed.toNat≤X.length:=by have:=b5.2.1;omega
 have hWX:(g.W (s.rep b).epoch).take m.fetch.flushed.toNat=X.take m.fetch.flushed.toNat:=by
  rw[List.prefix_iff_eq_take.1 hX,List.take_take,Nat.min_eq_left hXl]
 refine Ud h hb ⟨rfl,rfl,rfl,rfl,rfl,rfl,rfl,rfl,rfl,⟨⟨hg.ok,hg.self,hg.least,hg.role,hg.epoch,hg.fl,hg.hi,hg.isr,hg.Y6⟩,hf.ver⟩⟩ (λ_=>⟨a4,a5⟩) (λx hx=>hx) (λhr c hc JM hkc=>?_) (λhr c hc n hn=>?_)
 ·have acX:0≤EM (s.rep b).known m.fetch.mD.toNat (ku ((s.rep b).known m.fetch.mD.toNat) m.fetch.flushed) c.toNat:=hkc
  show _∧EM (s.rep b).known m.fetch.mD.toNat (ku ((s.rep b).known m.fetch.mD.toNat) m.fetch.flushed) c.toNat≤_∧(_→(g.W (s.rep b).epoch).take (EM (s.rep b).known m.fetch.mD.toNat (ku ((s.rep b).known m.fetch.mD.toNat) m.fetch.flushed) c.toNat).toNat<+:_)
  by_cases vV:c.toNat=m.fetch.mD.toNat
  ·have QS:=Bj c hc vV
   have e1:EM (s.rep b).known m.fetch.mD.toNat (ku ((s.rep b).known m.fetch.mD.toNat) m.fetch.flushed) c.toNat=ku ((s.rep b).known m.fetch.mD.toNat) m.fetch.flushed:=if_pos vV
   rw[e1]at acX ⊢
   by_cases jf:m.fetch.flushed≤(s.rep b).known m.fetch.mD.toNat
   ·have e2:ku ((s.rep b).known m.fetch.mD.toNat) m.fetch.flushed=(s.rep b).known c.toNat:=by rw[vV];omega
    rw[e2]at acX ⊢
    exact h.f.known b hb p2 c hc JM acX
   ·have e2:ku ((s.rep b).known m.fetch.mD.toNat) m.fetch.flushed=m.fetch.flushed:=by omega
    rw[e2,QS]
    refine⟨b2,by omega,λq=>?_⟩
    rw[hWX]
    exact b7 q (λ_=>hX)
  ·have e1:EM (s.rep b).known m.fetch.mD.toNat (ku ((s.rep b).known m.fetch.mD.toNat) m.fetch.flushed) c.toNat=(s.rep b).known c.toNat:=if_neg vV
   rw[e1]at acX ⊢
   exact h.f.known b hb p2 c hc JM acX
 ·have hn':(n:Int)≤EM (s.rep b).known m.fetch.mD.toNat (ku ((s.rep b).known m.fetch.mD.toNat) m.fetch.flushed) c.toNat:=hn
  by_cases vV:c.toNat=m.fetch.mD.toNat
  ·have QS:=Bj c hc vV
   have e1:EM (s.rep b).known m.fetch.mD.toNat (ku ((s.rep b).known m.fetch.mD.toNat) m.fetch.flushed) c.toNat=ku ((s.rep b).known m.fetch.mD.toNat) m.fetch.flushed:=if_pos vV
   rw[e1]at hn'
   by_cases jf:m.fetch.flushed≤(s.rep b).known m.fetch.mD.toNat
   ·left
    show (n:Int)≤(s.rep b).known c.toNat
    rw[vV];omega
   ·right
    exact⟨m,X,hm,hk,QS.symm,p3,b5,hX,by omega⟩
  ·have e1:EM (s.rep b).known m.fetch.mD.toNat (ku ((s.rep b).known m.fetch.mD.toNat) m.fetch.flushed) c.toNat=(s.rep b).known c.toNat:=if_neg vV
   rw[e1]at hn'
   exact .inl hn'
theorem O3 (h:oO s g) (hb:s.jU b) {m:eu} (hm:s.iq m) (hk:m.kind=2):∃ g',oO (s.aP b ((s.rep b).serve m.fetch 4)) g'∧g.K<+:g'.K:=by
 have jc:∃ g',oO (s.aP b (s.rep b)) g'∧g.K<+:g'.K:=⟨g,by rw[rY];exact h,List.prefix_refl _⟩
 unfold aI.serve
 split
 ·exact jc
 ·rename_i bT
  split
  ·rename_i tH
   exact GL (s1:=s) (s2:=s) ⟨g,Z9 h hb hm hk (by simpa using bT) tH,List.prefix_refl _⟩ hb
  ·exact jc
theorem WL (r:aI) (f:pW) (n:Int):(r.serve f n).log=r.log∧(r.serve f n).epoch=r.epoch∧(r.serve f n).role=r.role:=by
 unfold aI.serve
 split
 ·exact⟨rfl,rfl,rfl⟩
 ·split
  ·obtain⟨h1,h2,h3,h4,h5,h6⟩:=Hy ({r with known:=EM r.known f.mD.toNat (ku (r.known f.mD.toNat) f.flushed)}:aI)
   exact⟨h1,h2,h6⟩
  ·exact⟨rfl,rfl,rfl⟩
theorem acY {l:List cZ} {e:Int} (h:∀ x∈l,x.ep≤e) (he:1≤e):gZ l≤e:=by
 unfold gZ
 cases hl:l.getLast? with
 | none=>show (0:Int)≤e;omega
 | some x=>exact h x (List.mem_of_getLast? hl)
theorem aac (h:oO s g) (hb:s.jU b) {m m':eu} (hm:s.iq m) (hk:m.kind=2) (bT:(s.rep b).ji m.fetch 4=0) (sF:m'.kind=3) (tC:m'.reply=(s.rep b).reply m.fetch 4):
  ∃g',oO ((s.aP b ((s.rep b).serve m.fetch 4)).add m') g'∧g.K<+:g'.K:=by
 obtain⟨g1,h1,k1⟩:=O3 h hb hm hk
 refine⟨g1,?_,k1⟩
 obtain⟨p1,p2,p3⟩:=O1 bT
 obtain⟨q1,q2,q3⟩:=WL (s.rep b) m.fetch 4
 have hb1:(s.aP b ((s.rep b).serve m.fetch 4)).jU b:=hb
 have hx:=h1.b.alive b hb1
 have hlo:=h1.k.k5 b hb1
 have hfi:=(h1.b.fine b hb1).bU
 rw[fC]at hx hlo hfi
 rw[q1,q2,q3]at hx
 obtain⟨a1,a2,a3,a4,a5,a6⟩:=hx p2
 obtain⟨b1,b2,b3,b4,X,b5,b6,b7⟩:=h1.f.fetch m hm hk
 obtain⟨t1,t2,t3,t4,t5,t6⟩:=h1.b.st _ a1
 refine Qv h1 (by omega) (λht=>Dh (by omega) ht) (λq=>by omega) (λ_=>?_) (λq=>by omega)
 have Ul:0≤m.fetch.offset:=by omega
 rw[tC]
 unfold aI.reply
 rw[if_neg (by simp[bT])]
 by_cases tH:vP (s.rep b).log m.fetch.offset m.fetch.last=true
 ·rw[if_pos tH]
  obtain⟨f1,f2⟩:=GN.1 tH
  refine⟨a1,Ul,λ_=>?_,(λq=>by cases q)⟩
  show ((g1.W (s.rep b).epoch).take m.fetch.offset.toNat).length=m.fetch.offset.toNat∧gZ ((g1.W (s.rep b).epoch).take m.fetch.offset.toNat)=m.fetch.last∧(g1.W (s.rep b).epoch).take m.fetch.offset.toNat++((s.rep b).log.drop m.fetch.offset.toNat).take (iD 4 4096).toNat<+:g1.W (s.rep b).epoch∧
   0≤((s.rep b).serve m.fetch 4).high∧((s.rep b).serve m.fetch 4).high≤(g1.W (s.rep b).epoch).length∧(g1.W (s.rep b).epoch).take ((s.rep b).serve m.fetch 4).high.toNat<+:g1.K
  rw[←a3]
  refine⟨by rw[List.length_take];omega,f2,?_,hfi.hi.1,by rw[←q1];exact hfi.hi.2,?_⟩
  ·have e:(s.rep b).log=(s.rep b).log.take m.fetch.offset.toNat++(s.rep b).log.drop m.fetch.offset.toNat:=(List.take_append_drop _ _).symm
   conv=>rhs;rw[e]
   exact(List.prefix_append_right_inj _).2 (iQ _ _)
  ·rw[←q1];exact hlo
 ·rw[if_neg tH]
  refine⟨a1,Ul,(λq=>by cases q),λ_=>?_⟩
  show m.fetch.last<(s.rep b).epoch∧¬ (m.fetch.offset≤(g1.W (s.rep b).epoch).length∧gZ ((g1.W (s.rep b).epoch).take m.fetch.offset.toNat)=m.fetch.last)∧(dO (s.rep b).log m.fetch.last:Int)=dO (g1.W (s.rep b).epoch) m.fetch.last∧
   gZ ((s.rep b).log.take (dO (s.rep b).log m.fetch.last))=gZ ((g1.W (s.rep b).epoch).take (dO (g1.W (s.rep b).epoch) m.fetch.last))
  rw[←a3]
  refine⟨?_,λq=>tH (GN.2 q),rfl,rfl⟩
  rw[p3]at b6
  have hle:=acY b6 t1
  rw[b5.2.2]at hle
  rcases Int.lt_or_eq_of_le hle with z|z
  ·exact z
  ·exfalso
   apply tH
   cases hn:X.length with
   | zero=>
    have h0:X=[]:=List.length_eq_zero_iff.1 hn
    have h2:=b5.2.2
    rw[h0]at h2
    have:gZ []=(0:Int):=rfl
    omega
   | succ n=>
    obtain⟨x,hx⟩:∃ x,X[n]? =some x:=⟨_,List.getElem?_eq_getElem (by omega)⟩
    have e1:=Ih hx
    have t1':X.take (n+1)=X:=List.take_of_length_le (by omega)
    have h2:=(b5.1 _ _ hx).2.2
    rw[t1']at e1 h2
    have e2:x.ep=(s.rep b).epoch:=by rw[←e1,b5.2.2,z]
    rw[e2,←a3]at h2
    have h3:=h2.length_le
    have h4:=List.prefix_iff_eq_take.1 h2
    have h5:m.fetch.offset.toNat=X.length:=by have:=b5.2.1;omega
    refine GN.2 ⟨by have:=b5.2.1;omega,?_⟩
    rw[h5,←h4];exact b5.2.2
theorem afk (h:oO s g) (hb:s.jU b) (e:cZ):∃ g',oO (s.aP b ((s.rep b).app e)) g'∧g.K<+:g'.K:=by
 have hf:=CV (h.b.fine b hb) e
 by_cases bT:(s.rep b).oI e=0
 ·have e1:(s.rep b).app e={s.rep b with log:=(s.rep b).log++[(s.rep b).xG e]}:=by unfold aI.app;rw[if_pos bT]
  rw[e1]at hf ⊢
  have hr:(s.rep b).role=3:=by
   unfold aI.oI at bT
   split at bT
   ·cases bT
   split at bT
   ·cases bT
   ·rename_i q;simpa using q
  have h1:=(h.b.st _ (h.b.alive b hb hr).1).1
  refine⟨_,acS h hb hr ?_ hf,List.prefix_refl _⟩
  show ku (s.rep b).epoch 1=(s.rep b).epoch
  rw[nO];omega
 ·have e1:(s.rep b).app e=s.rep b:=by unfold aI.app;rw[if_neg bT]
  rw[e1,rY]
  exact⟨g,h,List.prefix_refl _⟩
theorem aad (h:oO s g) (hb:s.jU b) {m:eu} (hm:s.iq m) (hk:m.kind=1):∃ g',oO (s.aP b ((s.rep b).learn m.view).1) g'∧g.K<+:g'.K:=by
 have jc:∃ g',oO (s.aP b (s.rep b)) g'∧g.K<+:g'.K:=⟨g,by rw[rY];exact h,List.prefix_refl _⟩
 have hf:=h.b.fine b hb
 have hg:=hf.bU
 obtain⟨v1,v2,v3,v4⟩:=h.v.tell m hm hk
 unfold aI.learn
 split
 ·rename_i D6
  have agt:=D6
  simp only[dL.BN,Bool.and_eq_true,Bool.or_eq_true,beq_iff_eq,decide_eq_true_eq]at agt
  obtain⟨⟨⟨⟨⟨m1,m2⟩,m3⟩,m4⟩,m5⟩,m6⟩:=agt
  simp only[rZ,Bool.and_eq_true,decide_eq_true_eq]at m2 m3
  have Js:m.view.leader=b→b∈m.view.isr:=λq=>by
   rcases m6 with z|z
   ·have:=hb.1;omega
   ·rw[q]at z;exact z
  have adx:∀ role,role=1∨role=2∨role=3→({(s.rep b).Fq m.view with role:=role}:aI).oU:=λrole hrl=>⟨⟨hg.ok,hg.self,hg.least,hrl,m2,hg.fl,hg.hi,rfl,rfl⟩,by show (0:Int)≤0∧(0:Int)≤_;decide⟩
  split
  ·exact jc
  ·rename_i q1
   split
   ·rename_i q2
    unfold aI.pU
    split
    ·rename_i hr
     split
     ·rename_i hv
      obtain⟨a1,a2,a3,a4,a5,a6⟩:=h.b.alive b hb hr
      have hl:m.view.leader=b:=by rw[v2,q2];exact a2
      exact GL (s1:=s) (s2:=s) ⟨g,WI h hb hr hm hk q2 hv (Js hl) ⟨⟨hg.ok,hg.self,hg.least,hg.role,hg.epoch,hg.fl,hg.hi,m4,m4⟩,m3⟩,List.prefix_refl _⟩ hb
     ·exact jc
    ·split
     ·split
      ·refine⟨g,GK h hb ⟨⟨rfl,rfl,⟨⟨hg.ok,hg.self,hg.least,.inr (.inl rfl),hg.epoch,hg.fl,hg.hi,hg.isr,hg.Y6⟩,hf.ver⟩,(λq=>by cases q),λZ hZ _=>hZ,h.m.rep b hb,h.m.MC b hb⟩,(λq=>by cases q),h.k.k5 b hb,λa1 a2 _=>⟨a1,a2⟩⟩,List.prefix_refl _⟩
      ·exact jc
     ·exact jc
   ·rename_i q2
    have hlt:(s.rep b).epoch<m.view.epoch:=by omega
    have hmv:∀ role,role=1∨role=2∨role=3→adH (s.rep b) ({(s.rep b).Fq m.view with role:=role}:aI) m.view.epoch:=λrole hrl=>⟨rfl,rfl,rfl,rfl,rfl,hlt,adx role hrl⟩
    simp only
    split
    ·exact⟨g,Uc h hb (hmv 1 (.inl rfl)) (by show (1:Int)≠3;decide) v1,List.prefix_refl _⟩
    ·split
     ·rename_i adG
      have hl:m.view.leader=b:=by rw[adG];exact h.b.self b hb
      unfold aI.uZ
      refine GL (s1:=s) (s2:=s) ⟨g.adI m.view.epoch (s.rep b).log,aaQ h hb (e2:=m.view.epoch) ⟨rfl,rfl,rfl,rfl,rfl,hlt,⟨⟨hg.ok,hg.self,hg.least,.inr (.inr rfl),m2,hg.fl,hg.hi,m4,m4⟩,m3⟩⟩ rfl hm hk rfl hl (Js hl) rfl rfl rfl rfl rfl,List.prefix_refl _⟩ hb
     ·exact⟨g,Uc h hb (hmv 2 (.inr (.inl rfl))) (by show (2:Int)≠3;decide) v1,List.prefix_refl _⟩
 ·exact jc
theorem aae (h:oO s g) (hb:s.jU b) {l:List Int} (hl:∀ x∈l,s.jU x) (bT:(s.rep b).jS l=0) {m:eu} (hk:m.kind=4) (hm:m.alter=(s.rep b).alter l):oO ((s.aP b ((s.rep b).qV l)).add m) g:=by
 have h1:=Ue h hb hl
 obtain⟨p1,p2,p3,p4⟩:=Ji bT
 have hs:=h.b.self b hb
 have ha:m.alter=⟨(s.rep b).self,(s.rep b).epoch,(s.rep b).version,l⟩:=by rw[hm];unfold aI.alter;rw[if_pos bT]
 have hcB:=(h.b.fine b hb).bU.bks
 have hlB:=nN p1
 have e:(s.rep b).qV l={s.rep b with counts:=zh (s.rep b).counts l}:=by unfold aI.qV;rw[if_pos bT]
 have e2:(s.aP b ((s.rep b).qV l)).rep b={s.rep b with counts:=zh (s.rep b).counts l}:=by rw[fC,e]
 have hi:m.alter.isr=l:=by rw[ha]
 refine Qw h1 hb (by rw[e2];exact p3) hk (by rw[hi];exact hl) (by rw[hi,←hs];exact p2) (λx hx=>?_) (λx hx=>?_) (by rw[ha];exact hs) (by rw[ha,e2]) (by rw[ha,e2])
 ·rw[hi]at hx
  rw[e2]
  exact(zi hcB hlB x).2 (List.mem_append.2 (.inr hx))
 ·rw[hi]at hx
  rw[e2]
  exact p4 x hx
end
section
variable {s s' : PS} {g : Gh}
theorem aaf (h:oO s g) {b:Int} {v:dL} (hf:aH.fenced b s.view=some v) (h0:v.isr≠[]):∃ g',oO {s with view:=v} g'∧g.K<+:g'.K:=by
 unfold aH.fenced at hf
 simp only at hf
 split at hf
 ·cases hf
  exact⟨g,h,List.prefix_refl _⟩
 ·rename_i jm
  split at hf
  ·cases hf
  ·have hf:=Option.some.inj hf
   have hi:∀ x∈v.isr,x∈s.view.isr:=by
    intro x hx
    rw[←hf]at hx
    have DK:x∈(if(decide (b∈s.view.isr)&&decide (1<s.view.isr.length))=true then s.view.isr.filter (· ≠b) else s.view.isr):=hx
    split at DK
    ·exact(List.mem_filter.1 DK).1
    ·exact DK
   have WJ:v.version=s.view.version+1:=by rw[←hf]
   by_cases hl:(s.view.leader==b)=true
   ·have he:v.epoch=s.view.epoch+1:=by rw[←hf];show (if _ then _ else _:Int)=_;rw[if_pos hl]
    have hle:v.leader= -1:=by rw[←hf];show (if _ then _ else _:Int)=_;rw[if_pos hl]
    exact⟨_,Ua h he WJ h0 hi (.inl hle),List.prefix_refl _⟩
   ·have he:v.epoch=s.view.epoch:=by rw[←hf];show (if _ then _ else _:Int)=_;rw[if_neg hl]
    have hle:v.leader=s.view.leader:=by rw[←hf];show (if _ then _ else _:Int)=_;rw[if_neg hl]
    refine⟨g,TY h hle he WJ h0 (λx hx=>h.b.isr.2 x (hi x hx)) (λq=>?_) (λx hx=>⟨_,.inl rfl,hi x hx⟩),List.prefix_refl _⟩
    rw[hle]at q ⊢
    have ou:=h.b.uZ q
    have Iu:s.view.leader≠b:=by simpa using hl
    rw[←hf]
    show s.view.leader∈(if(decide (b∈s.view.isr)&&decide (1<s.view.isr.length))=true then s.view.isr.filter (· ≠b) else s.view.isr)
    split
    ·exact List.mem_filter.2 ⟨ou,by simpa using Iu⟩
    ·exact ou
theorem acZ (h:oO s g) (hs:pK s s'):∃ g',oO s' g'∧g.K<+:g'.K:=by
 cases hs with
 | oK b hb hm=>exact⟨_,Ua h (v:=⟨b,s.view.epoch+1,s.view.version+1,s.view.isr⟩) rfl rfl h.b.isr.1 (λx hx=>hx) (.inr hb),List.prefix_refl _⟩
 | fence b v hf h0=>exact aaf h hf h0
 | alter m hm hk h1 h2 h3 h0=>
  obtain⟨a1,a2,a3,a4⟩:=h.v.alter m hm hk
  obtain⟨b1,b2,b3,b4⟩:=a4 h2
  exact⟨g,TY h (v:={s.view with isr:=m.alter.isr,version:=s.view.version+1}) rfl rfl rfl h0 b2 (λ_=>by show s.view.leader∈m.alter.isr;rw[←h1];exact b3) (λx hx=>⟨_,.inr ⟨m,hm,hk,h2,h3,rfl⟩,hx⟩),List.prefix_refl _⟩
 | tell m hk hm=>exact⟨g,acR h hk hm,List.prefix_refl _⟩
 | learn m b hm hk hb=>exact aad h hb hm hk
 | app b e hb=>exact afk h hb e
 | flush b hb=>exact Z7 h hb
 | ask b m hb hr hk hm=>exact⟨g,aff h hb hk hm,List.prefix_refl _⟩
 | serve b m hb hm hk=>exact O3 h hb hm hk
 | reply b m m' hb hm hk bT sF hr=>exact aac h hb hm hk bT sF hr
 | take b m hb hm hk=>exact⟨g,GK h hb (ZY h hb hm hk),List.prefix_refl _⟩
 | propose b l hb hl=>exact⟨g,Ue h hb hl,List.prefix_refl _⟩
 | asked b l m hb hl bT hk hm=>exact⟨g,aae h hb hl bT hk hm,List.prefix_refl _⟩
 | crash b dY hb=>exact⟨g,GK h hb (WG h hb dY),List.prefix_refl _⟩
 | iq p hp=>exact⟨g,afc h hp,List.prefix_refl _⟩
inductive sQ:PS→PS→Prop
 | refl (s:PS):sQ s s
 | tail {s s1 s2:PS}:sQ s s1→pK s1 s2→sQ s s2
theorem aag (h:oO s g) (hs:sQ s s'):∃ g',oO s' g'∧g.K<+:g'.K:=by
 induction hs with
 | refl=>exact⟨g,h,List.prefix_refl _⟩
 | tail _ h2 ih=>
  obtain⟨g1,i1,k1⟩:=ih
  obtain⟨g2,i2,k2⟩:=acZ i1 h2
  exact⟨g2,i2,k1.trans k2⟩
theorem sQ.one (h:pK s s'):sQ s s':=.tail (.refl s) h
theorem sQ.trans {a b c:PS} (h1:sQ a b) (h2:sQ b c):sQ a c:=by
 induction h2 with
 | refl=>exact h1
 | tail _ h3 ih=>exact .tail ih h3
def Gh.zero:Gh:=⟨λ_=>[],λ_=>0,λ_=>False,λ_=> -1,[],0⟩
theorem adJ {least:Int} (Iu:1≤s.nb∧s.nb≤4) (hl:1≤least∧least≤4) (hv:s.view.leader= -1∧s.view.epoch=0∧s.view.version=0) (h0:s.view.isr≠[]) (hi:∀ x∈s.view.isr,s.jU x)
  (hr:∀ b,s.jU b→s.rep b=aI.lI b least) (ho:∀ b,¬s.jU b→(s.rep b).epoch=0) (hb:∀ m,¬s.iq m):oO s Gh.zero:=by
 obtain⟨v1,v2,v3⟩:=hv
 have role:∀ b,s.jU b→(s.rep b).role≠3:=λb hb=>by rw[hr b hb];show (1:Int)≠3;decide
 have ep:∀ b,(s.rep b).epoch=0:=λb=>by
  by_cases hb:s.jU b
  ·rw[hr b hb];rfl
  ·exact ho b hb
 have noc:∀ {e C kn Y},¬lG s Gh.zero e C kn Y:=by
  intro e C kn Y hc
  have nb:¬ s.jU (-1):=λq=>absurd q.1 (by decide)
  cases hc with
  | now h1 h2 h3=>exact nb h1
  | next h1 h2 h3 h4=>exact nb h1
  | first h1 h2 h3 h4 h5=>exact nb h1
 refine⟨⟨Iu,λb hb=>by rw[hr b hb];rfl,ho,λb hb=>by rw[hr b hb];exact OJ (by have:=hb.1;have:=hb.2;omega) hl,by omega,⟨h0,hi⟩,v1,λq=>absurd v1 q,λb hb=>by rw[ep,v2];exact Int.le_refl _,λe he=>he.elim,λb hb iE=>absurd iE (role b hb)⟩,
  ⟨λb hb=>by rw[hr b hb];exact Df.nil _,λe he=>he.elim,(λb hb x hx=>by rw[hr b hb]at hx;cases hx),λe he=>he.elim⟩,
  ⟨λm hm=>absurd hm (hb m),λb hb iE=>absurd iE (role b hb),λm hm=>absurd hm (hb m)⟩,
  ⟨λm hm=>absurd hm (hb m),λb hb iE=>absurd iE (role b hb),λm hm=>absurd hm (hb m)⟩,
  ⟨λe C kn Y hc=>absurd hc noc,λe C kn Y hc=>absurd hc noc,λe C kn Y hc=>absurd hc noc⟩,
  ⟨⟨Int.le_refl _,by show (0:Int)≤s.view.epoch;omega⟩,.inl rfl,λb hb=>⟨by rw[ep];exact Int.le_refl _,List.nil_prefix⟩,⟨λq=>q.elim,λe _ q=>q.elim⟩,⟨0,⟨Int.le_refl _,by omega⟩,by rw[ep];exact Int.le_refl _,?_,?_⟩,λb hb=>?_,λb hb iE=>absurd iE (role b hb)⟩⟩
 ·rw[hr 0 ⟨Int.le_refl _,by omega⟩];rfl
 ·rw[hr 0 ⟨Int.le_refl _,by omega⟩];exact Int.le_refl _
 ·rw[hr b hb];exact List.nil_prefix
end
def Yu (m:eu):Prop:=m.kind≠1∧m.kind≠2∧m.kind≠3∧m.kind≠4
structure kE (s:PS) (c:aO) (p:Int):Prop where
 nb:s.nb=c.ctl.form.aK
 view:s.view=c.ctl.view p
 rep:∀ b,0≤b∧b<c.ctl.form.aK→s.rep b=c.rep p b
 out:∀ b,¬(0≤b∧b<c.ctl.form.aK)→s.rep b=aI.lI 0 1
 iq:∀ m∈c.iq,m.part=p→s.iq m∨Yu m
def BL (c:aO) (p:Int):PS:=⟨c.ctl.form.aK,c.ctl.view p,λb=>if 0≤b∧b<c.ctl.form.aK then c.rep p b else aI.lI 0 1,λm=>m∈c.iq∧m.part=p⟩
def vO (s:PS) (c:aO) (p:Int):Prop:=∃ s1,sQ s s1∧kE s1 c p
theorem aah (c:aO) (p:Int):kE (BL c p) c p:=
 ⟨rfl,rfl,λb hb=>if_pos hb,λb hb=>if_neg hb,λm hm hp=>.inl ⟨hm,hp⟩⟩
theorem kE.wG {s:PS} {c:aO} {p:Int} (h:kE s c p):vO s c p:=⟨s,.refl s,h⟩
theorem kE.fin {s:PS} {c:aO} {p:Int} (h:kE s c p):sQ s (BL c p):=by
 have h1:pK s {s with iq:=λm=>m∈c.iq∧m.part=p}:=.iq _ λm hm=>h.iq m hm.1 hm.2
 have e:({s with iq:=λm=>m∈c.iq∧m.part=p}:PS)=BL c p:=by
  have hr:s.rep=λb=>if 0≤b∧b<c.ctl.form.aK then c.rep p b else aI.lI 0 1:=by
   funext b
   by_cases hb:0≤b∧b<c.ctl.form.aK
   ·rw[if_pos hb];exact h.rep b hb
   ·rw[if_neg hb];exact h.out b hb
  unfold BL
  rw[←h.nb,←h.view,h.nb,←hr,←h.nb]
 rw[e]at h1
 exact .one h1
theorem vO.fin {c c':aO} {p:Int} (h:vO (BL c p) c' p):sQ (BL c p) (BL c' p):=by
 obtain⟨s1,h1,h2⟩:=h
 exact h1.trans h2.fin
theorem vO.then {s:PS} {c c':aO} {p:Int} (h:vO s c p) (h2:∀ s1,kE s1 c p→sQ s s1→vO s1 c' p):vO s c' p:=by
 obtain⟨s1,h1,h3⟩:=h
 obtain⟨s2,h4,h5⟩:=h2 s1 h3 h1
 exact⟨s2,h1.trans h4,h5⟩
section
variable {s : PS} {c : aO} {p q b : Int}
theorem MF (h:c.dH) (hq:0≤q∧q<c.ctl.form.parts) (hb:0≤b∧b<c.ctl.form.aK) (hp:0≤p∧p<c.ctl.form.parts) (r:aI) {x:Int} (hx:0≤x∧x<c.ctl.form.aK):
  (c.aP q b r).rep p x=if q=p∧x=b then r else c.rep p x:=by
 have h1:=h.rlen
 show ((c.gG.set q.toNat ((c.gG.getD q.toNat []).set b.toNat r)).getD p.toNat []).getD x.toNat (aI.lI 0 1)=_
 by_cases GR:q=p
 ·subst GR
  have e1:(c.gG.set q.toNat ((c.gG.getD q.toNat []).set b.toNat r)).getD q.toNat []=(c.gG.getD q.toNat []).set b.toNat r:=by
   rw[List.getD_eq_getElem?_getD,List.getElem?_set_self (by omega)];rfl
  rw[e1]
  have h2:(c.gG.getD q.toNat []).length=c.ctl.form.aK.toNat:=h.row _ (mY (by omega))
  by_cases DJ:x=b
  ·subst DJ
   rw[if_pos ⟨rfl,rfl⟩,List.getD_eq_getElem?_getD,List.getElem?_set_self (by omega)];rfl
  ·rw[if_neg (λz=>DJ z.2),List.getD_eq_getElem?_getD,List.getElem?_set_ne (by omega),←List.getD_eq_getElem?_getD];rfl
 ·have e1:(c.gG.set q.toNat ((c.gG.getD q.toNat []).set b.toNat r)).getD p.toNat []=c.gG.getD p.toNat []:=by
   rw[List.getD_eq_getElem?_getD,List.getElem?_set_ne (by omega),←List.getD_eq_getElem?_getD]
  rw[e1,if_neg (λz=>GR z.1)];rfl
theorem kE.aP (hs:kE s c p) (h:c.dH) (hq:0≤q∧q<c.ctl.form.parts) (hb:0≤b∧b<c.ctl.form.aK) (hp:0≤p∧p<c.ctl.form.parts) (r:aI) (GR:q=p):kE (s.aP b r) (c.aP q b r) p:=by
 subst GR
 refine⟨hs.nb,hs.view,λx hx=>?_,λx hx=>?_,hs.iq⟩
 ·rw[MF h hq hb hp r hx]
  rcases bg s b r x with⟨h1,h2⟩|⟨h1,h2⟩
  ·rw[h2,if_pos ⟨rfl,h1⟩]
  ·rw[h2,if_neg (λz=>h1 z.2)];exact hs.rep x hx
 ·rw[DF s r (λz=>by rw[z]at hx;exact hx hb)];exact hs.out x hx
theorem kE.agP (hs:kE s c p) (h:c.dH) (hq:0≤q∧q<c.ctl.form.parts) (hb:0≤b∧b<c.ctl.form.aK) (hp:0≤p∧p<c.ctl.form.parts) (r:aI) (GR:q≠p):kE s (c.aP q b r) p:=
 ⟨hs.nb,hs.view,λx hx=>by rw[MF h hq hb hp r hx,if_neg (λz=>GR z.1)];exact hs.rep x hx,hs.out,hs.iq⟩
theorem kE.Jj (hs:kE s c p) (h:c.dH) (hq:0≤q∧q<c.ctl.form.parts) (hb:0≤b∧b<c.ctl.form.aK) (hp:0≤p∧p<c.ctl.form.parts) {r:aI} (qR:q=p→pK s (s.aP b r)):vO s (c.aP q b r) p:=by
 by_cases GR:q=p
 ·exact⟨_,.one (qR GR),hs.aP h hq hb hp r GR⟩
 ·exact(hs.agP h hq hb hp r GR).wG
theorem afl {m x:eu} (hx:x∈(c.put m).iq):x∈c.iq∨x=m:=by
 unfold aO.put at hx
 split at hx
 ·rcases List.mem_append.1 hx with hx|hx
  ·exact .inl hx
  ·exact .inr (by simpa using hx)
 ·exact .inl hx
theorem kE.put (hs:kE s c p) {m:eu} (hm:m.part=p→s.iq m∨Yu m):kE s (c.put m) p:=by
 obtain⟨e1,e2⟩:=JY (c:=c) m
 refine⟨by rw[e1];exact hs.nb,by rw[e1];exact hs.view,λb hb=>?_,λb hb=>hs.out b (by rw[e1]at hb;exact hb),λx hx hxp=>?_⟩
 ·rw[e1]at hb
  unfold aO.rep;rw[e2];exact hs.rep b hb
 ·rcases afl hx with hx|rfl
  ·exact hs.iq x hx hxp
  ·exact hm hxp
theorem kE.add (hs:kE s c p) (m:eu):kE (s.add m) (c.put m) p:=
 kE.put (s:=s.add m) ⟨hs.nb,hs.view,hs.rep,hs.out,λx hx hxp=>(hs.iq x hx hxp).imp .inl id⟩ λ_=>.inl (.inr rfl)
theorem kE.agu (hs:kE s c p) {m:eu} (qR:m.part=p→pK s (s.add m)∨Yu m):vO s (c.put m) p:=by
 by_cases Yr:m.part=p
 ·rcases qR Yr with h1|h1
  ·exact⟨_,.one h1,hs.add m⟩
  ·exact(hs.put λ_=>.inr h1).wG
 ·exact(hs.put λz=>absurd z Yr).wG
theorem kE.ac0 (hs:kE s c p) (h:c.dH) (hq:0≤q∧q<c.ctl.form.parts) (hb:0≤b∧b<c.ctl.form.aK) (hp:0≤p∧p<c.ctl.form.parts) {r:aI} {m:eu} (hm:m.part=q) (qR:q=p→pK s ((s.aP b r).add m)):vO s ((c.aP q b r).put m) p:=by
 by_cases GR:q=p
 ·exact⟨_,.one (qR GR),(hs.aP h hq hb hp r GR).add m⟩
 ·exact((hs.agP h hq hb hp r GR).put λz=>absurd (hm.symm.trans z) GR).wG
theorem kE.ctl (hs:kE s c p) {M:aH} (hf:M.form=c.ctl.form):kE {s with view:=M.view p} {c with ctl:=M} p:=
 ⟨by show s.nb=M.form.aK;rw[hf];exact hs.nb,rfl,λb hb=>hs.rep b (by have Dk:0≤b∧b<M.form.aK:=hb;rwa [hf]at Dk),λb hb=>hs.out b (by have Dk:¬ (0≤b∧b<M.form.aK):=hb;rwa [hf]at Dk),hs.iq⟩
theorem kE.J9 (hs:kE s c p) {M:aH} (hf:M.form=c.ctl.form) (hv:M.view p=c.ctl.view p):kE s {c with ctl:=M} p:=by
 have h1:=hs.ctl hf
 rw[hv,←hs.view]at h1
 exact h1
theorem kE.ac1 (hs:kE s c p) {M:aH} (hf:M.form=c.ctl.form) (hv:M.view p=c.ctl.view p∨pK s {s with view:=M.view p}):vO s {c with ctl:=M} p:=by
 rcases hv with hv|hv
 ·exact(hs.J9 hf hv).wG
 ·exact⟨_,.one hv,hs.ctl hf⟩
theorem kE.jU (hs:kE s c p) {x:Int}:s.jU x↔0≤x∧x<c.ctl.form.aK:=by unfold PS.jU;rw[hs.nb]
theorem GU {m:aH} (h:m.dH) {q p:Int} (hq:0≤q∧q<m.form.parts) (hp:0≤p∧p<m.form.parts) (v:dL):(m.nP q v).view p=if q=p then v else m.view p:=by
 have h1:=h.xQ
 show (m.views.set q.toNat v).getD p.toNat dL.zero=_
 by_cases GR:q=p
 ·subst GR
  rw[if_pos rfl,List.getD_eq_getElem?_getD,List.getElem?_set_self (by omega)];rfl
 ·rw[if_neg GR,List.getD_eq_getElem?_getD,List.getElem?_set_ne (by omega),←List.getD_eq_getElem?_getD];rfl
end
section
variable {s : PS} {c : aO} {p : Int}
theorem Qx {n:Int} {l:List Int} {x:Int} (h:(aH.jZ n l&&decide (x∈l))=true):l≠[]:=by
 intro e
 rw[e]at h
 simp at h
theorem Qy {m:aH} {p l e v:Int} {isr:List Int} (h:m.nS p l e v isr=0):m.part p=true∧isr≠[]∧(m.view p).leader=l∧(m.view p).epoch=e∧(m.view p).version=v:=by
 unfold aH.nS at h
 split at h
 ·cases h
 rename_i h1
 split at h
 ·cases h
 rename_i h2
 split at h
 ·cases h
 rename_i h3
 have MZ:m.part p=true∧m.aV l=true:=by simpa using h1
 refine⟨MZ.1,Qx (n:=m.form.aK) (x:=l) (by simpa using h2),?_,?_,?_⟩
 ·exact Classical.byContradiction λz=>h3 (.inl z)
 ·exact Classical.byContradiction λz=>h3 (.inr (.inl z))
 ·exact Classical.byContradiction λz=>h3 (.inr (.inr z))
theorem WM (hs:kE s c p) (h:c.dH) (hp:0≤p∧p<c.ctl.form.parts) {m:eu} (hk:m.kind=4) (hm:m.part=p→s.iq m):
  vO s {c with ctl:=c.ctl.alter m.part m.alter.leader m.alter.epoch m.alter.version m.alter.isr} p:=by
 refine hs.ac1 (Ad _ _ _ _ _) ?_
 by_cases bT:c.ctl.nS m.part m.alter.leader m.alter.epoch m.alter.version m.alter.isr=0
 ·obtain⟨a1,a2,a3,a4,a5⟩:=Qy bT
  have e:c.ctl.alter m.part m.alter.leader m.alter.epoch m.alter.version m.alter.isr=c.ctl.nP m.part {c.ctl.view m.part with isr:=m.alter.isr,version:=(c.ctl.view m.part).version+1}:=by
   unfold aH.alter;rw[if_pos bT]
  rw[e,GU h.ctl (fV a1) hp]
  by_cases GR:m.part=p
  ·right
   rw[if_pos GR,GR,←hs.view]
   rw[GR,←hs.view]at a3 a4 a5
   exact .alter m (hm GR) hk a3.symm a4.symm a5.symm a2
  ·left;rw[if_neg GR]
 ·left
  have e:c.ctl.alter m.part m.alter.leader m.alter.epoch m.alter.version m.alter.isr=c.ctl:=by unfold aH.alter;rw[if_neg bT]
  rw[e]
theorem Uf (m:aH) (i n q p:Int):(m.fO i n q).view p=m.view p:=by unfold aH.fO;split<;>rfl
theorem aai (m:aH) (i p:Int):(m.lI i).view p=m.view p:=by unfold aH.lI;split<;>rfl
theorem NM (m:aH) (b p:Int):(m.lV b).view p=m.view p:=by unfold aH.lV;split<;>rfl
theorem MG (hs:kE s c p) (h:c.dH) (hp:0≤p∧p<c.ctl.form.parts) {m:eu} (lU:Gt c.ctl.form m) (hm:m.part=p→s.iq m∨Yu m):vO s (c.lC m).1 p:=by
 have uD:(m.kind=1∨m.kind=2∨m.kind=3∨m.kind=4)→m.part=p→s.iq m:=λk q=>by
  rcases hm q with z|⟨z1,z2,z3,z4⟩
  ·exact z
  ·omega
 unfold aO.lC
 split
 ·rename_i k;exact WM hs h hp k (uD (by omega))
 rename_i k4
 split
 ·exact(hs.J9 (yh _ _ _) (Uf _ _ _ _ _)).wG
 rename_i k6
 have bP:=lU.to (by simp[aO.AX,k4,k6])
 have hB:s.jU m.to:=hs.jU.2 bP
 have jy:m.part=p→c.rep m.part m.to=s.rep m.to:=λq=>by rw[hs.rep _ bP,q]
 split
 ·rename_i k
  refine hs.Jj h lU.part bP hp λq=>?_
  rw[jy q]
  exact .learn m m.to (uD (by omega) q) k hB
 split
 ·rename_i k
  show vO s (if _ then _ else _:aO) p
  split
  ·rename_i bT
   refine hs.ac0 h lU.part bP hp rfl λq=>?_
   rw[jy q]at bT ⊢
   exact .reply m.to m _ hB (uD (by omega) q) k bT.1 rfl rfl
  ·refine hs.Jj h lU.part bP hp λq=>?_
   rw[jy q]
   exact .serve m.to m hB (uD (by omega) q) k
 split
 ·rename_i k
  refine hs.Jj h lU.part bP hp λq=>?_
  rw[jy q]
  exact .take m.to m hB (uD (by omega) q) k
 ·refine hs.Jj h lU.part bP hp λq=>?_
  rw[jy q]
  exact .app m.to m.ent hB
theorem kE.lq (hs:kE s c p) (i:Nat):kE s (c.lq i) p:=
 ⟨hs.nb,hs.view,hs.rep,hs.out,λm hm hp=>hs.iq m (by
  rcases List.mem_append.1 hm with hm|hm
  ·exact List.mem_of_mem_take hm
  ·exact List.mem_of_mem_drop hm) hp⟩
theorem Qz (hs:kE s c p) (h:c.dH) (hp:0≤p∧p<c.ctl.form.parts) (x:bV):vO s (c.rC x).1 p:=by
 unfold aO.rC
 split
 ·exact hs.wG
 ·rename_i h0
  have JI:=mY (d:=eu.zero) (CW h0 x.a)
  have lU:=h.msgs _ JI
  split
  ·exact(hs.lq _).wG
  ·split
   ·exact MG hs h hp lU (hs.iq _ JI)
   ·exact MG (hs.lq _) (wE h _) hp lU (hs.iq _ JI)
theorem Ug (hs:kE s c p) (i:Int):vO s (c.qL i).1 p:=by
 unfold aO.qL
 split
 ·exact hs.wG
 ·split
  ·exact hs.wG
  ·exact(hs.J9 (DC i) (aai _ _ _)).wG
theorem AO (i:Int) (w:bW):∀ (ps:List Int) (c:aO),kE s c p→vO s (aO.iY i w ps c) p
 | [],c,h=>h.wG
 | q::ps,c,h=>by
  unfold aO.iY
  split
  ·exact AO i w ps _ (h.put λ_=>.inr (by show (5:Int)≠1∧(5:Int)≠2∧(5:Int)≠3∧(5:Int)≠4;decide))
  ·exact AO i w ps c h
theorem aaj (hs:kE s c p) (i:Int):vO s (c.mark i).1 p:=by
 unfold aO.mark
 split
 ·exact hs.wG
 ·split
  ·exact hs.wG
  ·exact AO i _ _ c hs
theorem xA (q:Int) (l:List cZ):∀ (is:List Int) (c:aO),kE s c p→vO s (aO.gU q l is c) p
 | [],c,h=>h.wG
 | i::is,c,h=>by
  unfold aO.gU
  split
  ·exact xA q l is _ (h.put λ_=>.inr (by show (6:Int)≠1∧(6:Int)≠2∧(6:Int)≠3∧(6:Int)≠4;decide))
  ·exact xA q l is c h
theorem Ew (b dY:Int):∀ (ps:List Int) (c:aO) (s:PS),kE s c p→c.dH→(0≤b∧b<c.ctl.form.aK)→(0≤p∧p<c.ctl.form.parts)→(∀q∈ps,0≤q∧q<c.ctl.form.parts)→vO s (aO.jw b dY ps c) p
 | [],c,s,hs,_,_,_,_=>hs.wG
 | q::ps,c,s,hs,h,hb,hp,hq=>by
  unfold aO.jw
  have FM:=hq q (by simp)
  refine(hs.Jj (q:=q) h FM hb hp (r:=((c.rep q b).crash dY).1) λz=>?_).then λs1 h1 _=>?_
  ·have:c.rep q b=s.rep b:=by rw[hs.rep _ hb,z]
   rw[this];exact .crash b dY (hs.jU.2 hb)
  ·exact Ew b dY ps _ s1 h1 (kQ h q b (Ag (h.rep FM hb) dY)) hb hp (λx hx=>hq x (by simp[hx]))
theorem aak {n x y:Int} (h:y∈aO.lK n x):0≤y∧y<n:=uU.1 (List.mem_filter.1 h).1
theorem ac2 (hs:kE s c p) (h:c.dH) (hp:0≤p∧p<c.ctl.form.parts) (x:bV) (hpa:c.ctl.part x.a=true) (hbb:c.ctl.aV x.b=true):vO s (c.one x).1 p:=by
 have BP:=fV hpa
 have JL:=dV hbb
 have hB:s.jU x.b:=hs.jU.2 JL
 have jy:x.a=p→c.rep x.a x.b=s.rep x.b:=λq=>by rw[hs.rep _ JL,q]
 unfold aO.one
 split
 ·refine hs.agu λq=>.inl (.tell _ rfl ?_)
  have q':x.a=p:=q
  show c.ctl.view x.a=s.view
  rw[q',hs.view]
 split
 ·split
  ·exact hs.wG
  ·split
   ·rename_i hr
    refine hs.agu λq=>.inl ?_
    have q':x.a=p:=q
    rw[jy q']at hr ⊢
    exact .ask x.b _ hB hr rfl rfl
   ·exact hs.wG
 split
 ·refine hs.Jj h BP JL hp λq=>?_
  rw[jy q];exact .flush x.b hB
 split
 ·split
  ·exact hs.wG
  ·show vO s (if _ then _ else _:aO) p
   have hl:∀ y∈aO.lK c.ctl.form.aK x.c,s.jU y:=λy hy=>hs.jU.2 (aak hy)
   split
   ·rename_i bT
    refine hs.ac0 h BP JL hp rfl λq=>?_
    rw[jy q]at bT ⊢
    exact .asked x.b _ _ hB hl bT rfl rfl
   ·refine hs.Jj h BP JL hp λq=>?_
    rw[jy q];exact .propose x.b _ hB hl
 split
 ·split
  ·exact hs.wG
  ·exact xA _ _ _ c hs
 ·refine hs.Jj h BP JL hp λq=>?_
  rw[jy q];exact .app x.b _ hB
theorem WO (hs:kE s c p) (h:c.dH) (hp:0≤p∧p<c.ctl.form.parts) (q b:Int):vO s {c with ctl:=c.ctl.oK q b false} p:=by
 refine hs.ac1 (zY _ _ _) ?_
 by_cases bT:c.ctl.oJ q b false=0
 ·have e:c.ctl.oK q b false=c.ctl.nP q (c.ctl.qp q b):=by unfold aH.oK;rw[if_pos bT]
  unfold aH.oJ at bT
  split at bT
  ·cases bT
  rename_i h1
  split at bT
  ·cases bT
  rename_i h2
  split at bT
  ·cases bT
  rename_i h3
  split at bT
  ·cases bT
  rename_i h4
  have MZ:c.ctl.part q=true∧c.ctl.aV b=true:=by simpa using h1
  have Ye:b∈(c.ctl.view q).isr:=by simpa using h3
  rw[e,GU h.ctl (fV MZ.1) hp]
  by_cases GR:q=p
  ·right
   rw[if_pos GR]
   unfold aH.qp
   rw[if_pos Ye,GR,←hs.view]
   rw[GR,←hs.view]at Ye h4
   exact .oK b Ye (by omega)
  ·left;rw[if_neg GR]
 ·left
  have e:c.ctl.oK q b false=c.ctl:=by unfold aH.oK;rw[if_neg bT]
  rw[e]
theorem WQ (hs:kE s c p) (h:c.dH) (hp:0≤p∧p<c.ctl.form.parts) (b:Int):vO s {c with ctl:=c.ctl.fence b} p:=by
 refine hs.ac1 (zZ _) ?_
 by_cases bT:c.ctl.iV b=0
 ·right
  have e:c.ctl.fence b={c.ctl.qo b false with views:=c.ctl.views.map λv=>(aH.fenced b v).getD v}:=by unfold aH.fence;rw[if_pos bT]
  have iR:=h.ctl.xQ
  have hv:(c.ctl.fence b).view p=(aH.fenced b (c.ctl.view p)).getD (c.ctl.view p):=by
   rw[e]
   show (c.ctl.views.map λv=>(aH.fenced b v).getD v).getD p.toNat dL.zero=(aH.fenced b (c.ctl.views.getD p.toNat dL.zero)).getD (c.ctl.views.getD p.toNat dL.zero)
   rw[List.getD_eq_getElem?_getD,List.getD_eq_getElem?_getD,List.getElem?_map,List.getElem?_eq_getElem (by omega:p.toNat<c.ctl.views.length)]
   rfl
  have jB:(aH.fenced b (c.ctl.view p)).isSome=true:=by
   unfold aH.iV at bT
   split at bT
   ·cases bT
   split at bT
   ·cases bT
   rename_i h2
   have Yd:c.ctl.views.all (λv=>(aH.fenced b v).isSome)=true:=by
    cases hh:c.ctl.views.all (λv=>(aH.fenced b v).isSome) with
    | true=>rfl
    | false=>exact absurd hh h2
   exact List.all_eq_true.1 Yd _ (mY (by omega))
  obtain⟨v,FI⟩:=Option.isSome_iff_exists.1 jB
  rw[hv,FI]
  have lU:=OB (gB.dX h.ctl.right).1.1 (h.ctl.view (p:=p) (by simp[aH.part];omega)) FI
  rw[←hs.view]at FI
  exact .fence b v FI lU.some
 ·left
  have e:c.ctl.fence b=c.ctl:=by unfold aH.fence;rw[if_neg bT]
  rw[e]
theorem aal (hs:kE s c p) (h:c.dH) (hp:0≤p∧p<c.ctl.form.parts) (x:bV) (hx:x.kind=1→x.c=0):vO s (c.step x).1 p:=by
 unfold aO.step
 split
 ·rename_i k
  have:(x.c != 0)=false:=by rw[hx k];rfl
  rw[this]
  exact WO hs h hp _ _
 split
 ·exact WQ hs h hp _
 split
 ·exact(hs.J9 (uN _) (NM _ _ _)).wG
 split
 ·split
  ·exact hs.wG
  ·rename_i hn
   have hb:c.ctl.aV x.a=true:=by
    cases hb:c.ctl.aV x.a with
    | true=>rfl
    | false=>exact absurd (.inl hb) hn
   exact Ew _ _ _ c s hs h (dV hb) hp (λp hp=>uU.1 hp)
 split
 ·exact aaj hs _
 split
 ·exact Qz hs h hp x
 split
 ·exact Ug hs _
 split
 ·split
  ·exact hs.wG
  ·rename_i hpb
   have:c.ctl.part x.a=true∧c.ctl.aV x.b=true:=by simpa using hpb
   exact ac2 hs h hp x this.1 this.2
 ·exact hs.wG
theorem WR {K:List cZ}:∀ (l:List aI) (out:List cZ),out<+:K→(∀r∈l,BK r<+:K∧0≤r.high∧r.high≤r.log.length)→
  (l.foldl (λout r=>if(out.length:Int)<r.high then r.log.take r.high.toNat else out) out)<+:K∧out.length≤(l.foldl (λout r=>if(out.length:Int)<r.high then r.log.take r.high.toNat else out) out).length∧
   ∀r∈l,r.high≤(l.foldl (λout r=>if(out.length:Int)<r.high then r.log.take r.high.toNat else out) out).length
 | [],out,h,_=>⟨h,Nat.le_refl _,λr hr=>by cases hr⟩
 | r::l,out,h,hl=>by
  rw[List.foldl_cons]
  obtain⟨h1,h2,h3⟩:=hl r (by simp)
  have iR:(r.log.take r.high.toNat).length=r.high.toNat:=by rw[List.length_take];omega
  by_cases hlt:(out.length:Int)<r.high
  ·rw[if_pos hlt]
   obtain⟨a1,a2,a3⟩:=WR l (r.log.take r.high.toNat) h1 (λx hx=>hl x (by simp[hx]))
   refine⟨a1,by omega,λx hx=>?_⟩
   rcases List.mem_cons.1 hx with rfl|hx
   ·omega
   ·exact a3 x hx
  ·rw[if_neg hlt]
   obtain⟨a1,a2,a3⟩:=WR l out h (λx hx=>hl x (by simp[hx]))
   refine⟨a1,a2,λx hx=>?_⟩
   rcases List.mem_cons.1 hx with rfl|hx
   ·omega
   ·exact a3 x hx
theorem afm (h:c.dH) (hp:0≤p∧p<c.ctl.form.parts) {r:aI} (hr:r∈c.gG.getD p.toNat []):∃ b,(0≤b∧b<c.ctl.form.aK)∧r=c.rep p b:=by
 have h1:=h.rlen
 have h2:(c.gG.getD p.toNat []).length=c.ctl.form.aK.toNat:=h.row _ (mY (by omega))
 obtain⟨k,hk⟩:=List.getElem?_of_mem hr
 have hlt:=(Ge hk).1
 refine⟨(k:Int),⟨by omega,by omega⟩,?_⟩
 show r=(c.gG.getD p.toNat []).getD ((k:Int)).toNat (aI.lI 0 1)
 rw[Int.toNat_natCast,List.getD_eq_getElem?_getD (l:=c.gG.getD p.toNat []),hk];rfl
theorem afn (h:c.dH) (hp:0≤p∧p<c.ctl.form.parts) {b:Int} (hb:0≤b∧b<c.ctl.form.aK):c.rep p b∈c.gG.getD p.toNat []:=by
 have h1:=h.rlen
 have h2:(c.gG.getD p.toNat []).length=c.ctl.form.aK.toNat:=h.row _ (mY (by omega))
 exact mY (by omega)
theorem Jk (h:c.dH) (hp:0≤p∧p<c.ctl.form.parts) {g:Gh} (hI:oO (BL c p) g):c.dR p=g.K:=by
 have jy:∀ b,0≤b∧b<c.ctl.form.aK→(BL c p).rep b=c.rep p b:=λb hb=>if_pos hb
 obtain⟨h1,h2,h3⟩:=WR (K:=g.K) (c.gG.getD p.toNat []) [] List.nil_prefix (λr hr=>by
  obtain⟨b,hb,rfl⟩:=afm h hp hr
  have h4:=hI.k.k5 b hb
  rw[jy b hb]at h4
  exact⟨h4,(h.rep hp hb).bU.hi⟩)
 obtain⟨x,q1,q2,q3,q4⟩:=hI.k.k4
 rw[jy x q1]at q3
 have h5:=h3 _ (afn h hp q1)
 have UK:=(h.rep hp q1).bU.hi
 have h6:g.K.length=(c.rep p x).high.toNat:=by rw[←q3];unfold BK;rw[List.length_take];omega
 have h7:(c.dR p).length=g.K.length:=by
  have:=h1.length_le
  have e:c.dR p=(c.gG.getD p.toNat []).foldl (λout r=>if(out.length:Int)<r.high then r.log.take r.high.toNat else out) []:=rfl
  rw[e];omega
 exact List.IsPrefix.eq_of_length h1 h7
structure ai4 (c:aO) (p:Int) (was:List cZ):Prop where
 was:was<+:c.dR p
 BK:∀ b,0≤b∧b<c.ctl.form.aK→(c.rep p b).log.take (c.rep p b).high.toNat<+:c.dR p
 isr:∀ b,b∈(c.ctl.view p).isr→c.dR p<+:(c.rep p b).log.take (c.rep p b).flushed.toNat
theorem afo (h:c.dH) (hp:0≤p∧p<c.ctl.form.parts) {g:Gh} (hI:oO (BL c p) g) {was:List cZ} (hw:was<+:g.K):ai4 c p was:=by
 have e:=Jk h hp hI
 have jy:∀ b,0≤b∧b<c.ctl.form.aK→(BL c p).rep b=c.rep p b:=λb hb=>if_pos hb
 refine⟨by rw[e];exact hw,λb hb=>?_,λb hb=>?_⟩
 ·have:=hI.k.k5 b hb
  rw[jy b hb]at this
  rw[e];exact this
 ·have hB:=hI.b.isr.2 b hb
  have:=(hI.k.k1 b (.inl ⟨_,.inl rfl,hb⟩)).2
  rw[jy b hB]at this
  rw[e];exact this
theorem WS {f:gB} {least:Int} (hf:f.right=true) (hl:1≤least∧least≤4) (hp:0≤p∧p<f.parts):∃ g,oO (BL (aO.new f least) p) g:=by
 have hr:=gB.dX hf
 have hG:=OL hf hl
 have hv:(aO.new f least).ctl.view p=⟨-1,0,0,qU f.aK⟩:=by
  show (List.replicate f.parts.toNat (⟨-1,0,0,qU f.aK⟩:dL)).getD p.toNat dL.zero=_
  rw[List.getD_eq_getElem?_getD,List.getElem?_replicate_of_lt (by omega)];rfl
 refine⟨Gh.zero,adJ (least:=least) ⟨hr.1.1,hr.1.2⟩ hl ?_ ?_ ?_ ?_ ?_ ?_⟩
 ·show ((aO.new f least).ctl.view p).leader= -1∧((aO.new f least).ctl.view p).epoch=0∧((aO.new f least).ctl.view p).version=0
  rw[hv];exact⟨rfl,rfl,rfl⟩
 ·show ((aO.new f least).ctl.view p).isr≠[]
  rw[hv]
  intro e
  have:(0:Int)∈qU f.aK:=uU.2 (by omega)
  have e':qU f.aK=[]:=e
  rw[e']at this;cases this
 ·intro x hx
  have DK:x∈((aO.new f least).ctl.view p).isr:=hx
  rw[hv]at DK
  exact uU.1 DK
 ·intro b hb
  have e:(BL (aO.new f least) p).rep b=(aO.new f least).rep p b:=if_pos hb
  rw[e]
  have Dk:0≤b∧b<f.aK:=hb
  show ((List.replicate f.parts.toNat ((qU f.aK).map λb=>aI.lI b least)).getD p.toNat []).getD b.toNat (aI.lI 0 1)=_
  rw[List.getD_eq_getElem?_getD (l:=List.replicate _ _),List.getElem?_replicate_of_lt (by omega)]
  show ((qU f.aK).map λb=>aI.lI b least).getD b.toNat (aI.lI 0 1)=_
  unfold qU
  rw[List.getD_eq_getElem?_getD,List.getElem?_map,List.getElem?_map,List.getElem?_range (by omega)]
  show aI.lI ((b.toNat:Nat):Int) least=_
  rw[Int.toNat_of_nonneg Dk.1]
 ·intro b hb
  have e:(BL (aO.new f least) p).rep b=aI.lI 0 1:=if_neg hb
  rw[e];rfl
 ·intro m hm
  cases hm.1
theorem aam (h:c.dH) (hp:0≤p∧p<c.ctl.form.parts) (x:bV) (hx:x.kind=1→x.c=0) (Bv:(c.step x).1.ctl.form=c.ctl.form) (hI:∃ g,oO (BL c p) g):
  (∃g,oO (BL (c.step x).1 p) g)∧ai4 (c.step x).1 p (c.dR p):=by
 obtain⟨g,hI⟩:=hI
 obtain⟨g',hI',hK⟩:=aag hI (aal (aah c p) h hp x hx).fin
 refine⟨⟨g',hI'⟩,afo (VU h x) (by rw[Bv];exact hp) hI' ?_⟩
 rw[Jk h hp hI];exact hK
end
end Go.Ws
namespace Go.Ws
open Go Go.RowKit
set_option maxHeartbeats 4000000
set_option maxRecDepth 100000
set_option linter.unusedVariables false
set_option linter.unusedSimpArgs false
section
variable {P : Program} {Q : jo} {w : World} {A : Act} {fl : List (Nat × Value)} {o : Oper} {ops : Array Oper} {α : Type} {enc : α → List Value}
theorem aiq {rest:List (Oper×Nat)} {t e:TypeId} {bytes:Nat} {z:Value} {d n:Nat} {x y:Operand} (z0:α) (UD:enc z0=[z]) (ht:P.underlying t=some (.slice e)) (hzc:z.cells= #[z]) (hb0:bytes *n≤281474976710656) (h63:n≤maxLen)
  (h:∀ (y':bM w) (b:Nat),w.heap.size≤b→dQ enc 1 e (w.ah y') (.slice (some ⟨b,0,none⟩) n n) (List.replicate n z0)→jh P ops Q rest (fr ((d,.slice (some ⟨b,0,none⟩) n n)::fl) A) (w.ah y'))
  (amF:(P.info? e).map (λi=>(i.zero,i.size,i.bytes))=some (some z,1,bytes):=by kernel_rfl) (ho:o.op=.makeSlice t x y:=by rfl) (hd:o.dst=some d:=by rfl) (hg:o.guard=none:=by rfl)
  (hx:Is ((fr fl A).eval x) (.int .i64 (n:Int)):=by go_simp;exact Is.mk _) (hy:Is ((fr fl A).eval y) (.int .i64 (n:Int)):=by go_simp;exact Is.mk _):
  jh P ops Q ((o,1)::rest) (fr fl A) w:=by
 obtain⟨i,hi,hz,hs,hbb⟩:=info_parts amF
 have hb:i.bytes *n≤281474976710656:=by rw[hbb];exact hb0
 refine dI (λX K hK=>?_) hd hg
 have amG:(n:Int)≤9223372036854775807:=by
  have h:=h63
  simp[maxLen]at h
  omega
 have Dk:(i.bytes:Int) *(n:Int)≤281474976710656:=by
  have h:((i.bytes *n:Nat):Int)≤281474976710656:=by omega
  rwa [Int.natCast_mul]at h
 have hr:=run_make (P:=P) (w.ah X) t e i z ht hi hz .i64 .i64 n n (by omega) (Int.le_refl _) Dk amG
 simp only[Int.toNat_natCast]at hr
 have Uk:(execOp (fr fl A).eval o).run P (w.ah X)=.ok (.value (.slice (some ⟨(w.ah X).heap.size,0,none⟩) n n)) ((w.ah X).alloc (.cells (madeCells z.cells (n *i.size)) e)):=by
  unfold execOp
  simp only[ho,hx.eq,hy.eq,Sem.run_bind,hr,Result.andThen_ok,Sem.run_pure]
 unfold uQ
 rw[Uk]
 have hE:aB (w.ah X) ((w.ah X).alloc (.cells (madeCells z.cells (n *i.size)) e)):=aB.alloc _ _
 refine hK _ _ hE (h ⟨_,Et X.2 hE⟩ _ X.2.size ?_)
 have hl:((w.ah X).alloc (.cells (madeCells z.cells (n *i.size)) e)).ownsRow 0 e 1 (.slice (some ⟨(w.ah X).heap.size,0,none⟩) n n) n (madeCells z.cells (n *i.size)).toList:=World.ownsRow_lit (w.ah X) (madeCells z.cells (n *i.size)) n (Nat.zero_le _) h63 (by rw[size_madeCells,hs])
 have e2:(madeCells z.cells (n *i.size)).toList=List.replicate n z:=by rw[hzc,hs,Nat.mul_one];exact toList_madeCells_one z n
 have e1:(List.replicate n z0).flatMap enc=List.replicate n z:=by
  clear e2 hl hr Uk hE h hb hb0 h63 amG Dk hx hy
  induction n with
  | zero=>rfl
  | succ n ih=>rw[List.replicate_succ,List.flatMap_cons,ih,UD];rfl
 have Yj:((w.ah X).alloc (.cells (madeCells z.cells (n *i.size)) e)).ownsRow 0 e 1 (.slice (some ⟨(w.ah X).heap.size,0,none⟩) n n) (List.replicate n z0).length ((List.replicate n z0).flatMap enc):=by
  rw[e1,List.length_replicate,←e2];exact hl
 exact Yj
end
end Go.Ws
namespace Go.Ws
open Go Go.RowKit Go.Proofs
set_option maxHeartbeats 4000000
set_option maxRecDepth 100000
set_option linter.unusedVariables false
set_option linter.unusedSimpArgs false
structure sS (W0 w:World) (bc:Nat) (A:og) (c:aO) (f:gB) (g:Nat) (us:List Value):Prop where
 Jc:iJ w bc A c
 form:c.ctl.form=f
 inv:∀ p:Int,0≤p∧p<f.parts→∃ gh,oO (BL c p) gh
 yK:dQ Yq 1 40 w (.slice (some ⟨g,0,none⟩) us.length us.length) us
 len:us.length=f.parts.toNat
 was:∀ (p:Nat) u,us[p]? =some u→∃ l,yQ w u l∧l<+:c.dR p∧∀ k,u.ownBlock=some k→A.T k=0∧k≠g∧W0.heap.size≤k∧k<w.heap.size
 tg:A.T g=0
 gw:W0.heap.size≤g
 new:∀ k,A.T k≠0→W0.heap.size≤k
 ext:aB W0 w
section
variable {W0 w w' : World} {bc g : Nat} {A : og} {c : aO} {f : gB} {us : List Value}
theorem afp {p:Int} (h:0≤p∧p<c.ctl.form.parts):c.ctl.part p=true:=by simp[aH.part,h.1,h.2]
theorem aan {p:Int} (h:0≤p∧p<c.ctl.form.aK):c.ctl.aV p=true:=by simp[aH.aV,h.1,h.2]
theorem sS.lt (h:sS W0 w bc A c f g us):g<w.heap.size:=h.yK.lt g rfl
theorem sS.ah (h:sS W0 w bc A c f g us) (hE:aB w w'):sS W0 w' bc A c f g us:=
 ⟨h.Jc.ah hE,h.form,h.inv,h.yK.ah hE,h.len,λp u hu=>by
  obtain⟨l,h1,h2,h3⟩:=h.was p u hu
  exact⟨l,h1.ah hE,h2,λk hk=>⟨(h3 k hk).1,(h3 k hk).2.1,(h3 k hk).2.2.1,Nat.lt_of_lt_of_le (h3 k hk).2.2.2 hE.size⟩⟩,h.tg,h.gw,h.new,Et h.ext hE⟩
theorem sS.store (h:sS W0 w bc A c f g us) {p:Nat} {v:Value} {l:List cZ} (hp:p<us.length) (hv:yQ w v l) (hl:l<+:c.dR p) (hf:∀ k,v.ownBlock=some k→A.T k=0∧k≠g∧W0.heap.size≤k∧k<w.heap.size)
  (hM:bF (· =g) w w') (hO:dQ Yq 1 40 w' (.slice (some ⟨g,0,none⟩) us.length us.length) (us.set p v)):sS W0 w' bc A c f g (us.set p v):=by
 refine⟨h.Jc.aW hM (λk hk e=>by subst e;exact hk h.tg),h.form,h.inv,by rw[List.length_set];exact hO,by rw[List.length_set];exact h.len,λq u hu=>?_,h.tg,h.gw,h.new,aB.bK h.ext hM (λk hk=>by subst hk;exact h.gw)⟩
 by_cases e:q=p
 ·subst e
  rw[List.getElem?_set_self hp]at hu
  cases hu
  exact⟨l,hv.aW hM (λk hk e=>(hf k hk).2.1 e),hl,λk hk=>⟨(hf k hk).1,(hf k hk).2.1,(hf k hk).2.2.1,Nat.lt_of_lt_of_le (hf k hk).2.2.2 hM.size⟩⟩
 ·rw[List.getElem?_set_ne (λe'=>e e'.symm)]at hu
  obtain⟨l,h1,h2,h3⟩:=h.was q u hu
  exact⟨l,h1.aW hM (λk hk e=>(h3 k hk).2.1 e),h2,λk hk=>⟨(h3 k hk).1,(h3 k hk).2.1,(h3 k hk).2.2.1,Nat.lt_of_lt_of_le (h3 k hk).2.2.2 hM.size⟩⟩
def alA (c:aO) (f:gB):Prop:=∀ p:Int,0≤p∧p<f.parts→(∀b,0≤b∧b<f.aK→(c.rep p b).log.take (c.rep p b).high.toNat<+:c.dR p)∧∀ b,b∈(c.ctl.view p).isr→c.dR p<+:(c.rep p b).log.take (c.rep p b).flushed.toNat
theorem sS.step (h:sS W0 w bc A c f g us) (x:bV) (hx:x.kind=1→x.c=0) (bP:eP w bc (λk=>A.T k≠0) (c.step x).1 w'):∃ A2,sS W0 w' bc A2 (c.step x).1 f g us∧alA (c.step x).1 f:=by
 obtain⟨hM,A2,h2,QI⟩:=bP
 have hg:=h.lt
 have hz:∀ k,A.T k=0→k<w.heap.size→A2.T k=0:=λk hk hlt=>Classical.byContradiction λhh=>by
  rcases QI k hh with h1|h1
  ·exact h1 hk
  ·omega
 have hf:=afb c x
 have hk:∀ p:Int,0≤p∧p<f.parts→(∃gh,oO (BL (c.step x).1 p) gh)∧ai4 (c.step x).1 p (c.dR p):=λp hp=>
  aam h.Jc.bU (by rw[h.form];exact hp) x hx hf (h.inv p hp)
 have Bv:(c.step x).1.ctl.form=f:=hf.trans h.form
 have hnp:us.length=f.parts.toNat:=h.len
 refine⟨A2,⟨h2,Bv,λp hp=>(hk p hp).1,h.yK.aW hM (λk hk e=>by cases hk;exact e h.tg),h.len,λp u hu=>?_,hz g h.tg hg,h.gw,λk hk=>?_,?_⟩,λp hp=>⟨λb hb=>(hk p hp).2.BK b (by rw[Bv];exact hb),λb hb=>(hk p hp).2.isr b hb⟩⟩
 ·obtain⟨l,h1,Yd,h3⟩:=h.was p u hu
  have Nc:=(Ge hu).1
  exact⟨l,h1.aW hM (λk hk e=>e (h3 k hk).1),Yd.trans (hk p ⟨by omega,by omega⟩).2.was,λk hk=>⟨hz k (h3 k hk).1 (h3 k hk).2.2.2,(h3 k hk).2.1,(h3 k hk).2.2.1,Nat.lt_of_lt_of_le (h3 k hk).2.2.2 hM.size⟩⟩
 ·rcases QI k hk with h1|h1
  ·exact h.new k h1
  ·exact Nat.le_trans h.ext.size h1
 ·exact aB.bK h.ext hM (λk hk=>h.new k hk)
end
theorem Uh (s:L9) (l:List bV) (v:Value) (w:World) (hl:afa w v l):Pure Tryz.prog 3 #[.agg s.cs.toArray,v] w (.bool true):=by
 obtain⟨f,least⟩:=s
 have HL0:=hl
 obtain⟨Al,cl,rfl,Fg,avC,-⟩:=hl.choice
 have HL:=Zh HL0
 clear hl HL0
 by_cases lU:f.right=true∧1≤least∧least≤4
 ·by_cases apT:120<l.length
  ·have alC:120<(l.length:Int):=by omega
   refine Fi (n:=142) Tryz.func3 ?_;intro A hd hA;simp only[ix,Nat.reduceAdd]
   (repeat'(first|refine ak (λK hK=>?_)|refine aj ?_|fail));(refine dI (λx K hK=>?_);go_simp;refine hK _ _ (aB.alloc _ _) ?_;clear hK K;refine aZ x ?_;generalize (World.ah _ x).heap.size=b1;intro yn aU bD bC bG aS;clear x);have iy:=Zh (cO.new aS.out);have lS:=Zh yn.ext;have yG:(World.heap w).size≤b1:=aU;generalize World.ah w yn=W0 at *;clear aU bD bC bG aS yn
   have HE:=lS
   have jO:=iy
   have z0:=iy.out.cell (k:=0) (by simp)
   have z1:=iy.out.cell (k:=1) (by simp)
   have z2:=iy.out.cell (k:=2) (by simp)
   have z3:=iy.out.cell (k:=3) (by simp)
   simp at z0 z1 z2 z3
   have wF:=iy.out.lt
   clear iy lS
   repeat'(first|refine aF ?_|refine au ?_|refine ak (λK hK=>?_)|refine aj ?_|go_step)
   refine aX Tryz.func11 (J6 lU.1 lU.2) (λr w1 hR=>?_)
   obtain⟨bc,rfl,kY,-⟩:=hR
   have qO:=Zh (Et HE.out kY)
   clear kY
   repeat'(first|refine aF ?_|refine mg ?_|refine au ?_|refine ak (λK hK=>?_)|refine aj ?_|refine bH ?_|go_step)
   refine aX Tryz.func12 (kR w1) (λr w2 hR=>?_)
   obtain⟨rfl,iU⟩:=hR
   repeat'(first|refine aF ?_|refine au ?_|refine aC ?_|go_step)
   exact aA hd ⟨rfl,Et qO.out iU⟩
  ·have alC:¬ 120<(l.length:Int):=by omega
   have QM:=Zh lU
   obtain⟨fb,fp,fi⟩:=f
   have hr:=gB.dX lU.1
   dsimp only at hr
   obtain⟨NB,rfl⟩:∃ n:Nat,fb=n:=⟨fb.toNat,by omega⟩
   obtain⟨NP,rfl⟩:∃ n:Nat,fp=n:=⟨fp.toNat,by omega⟩
   have apE:NB≤4:=by omega
   have apF:NP≤4:=by omega
   clear hr lU
   refine Fi (n:=142) Tryz.func3 ?_;intro A hd hA;simp only[ix,Nat.reduceAdd]
   (repeat'(first|refine ak (λK hK=>?_)|refine aj ?_|fail));(refine dI (λx K hK=>?_);go_simp;refine hK _ _ (aB.alloc _ _) ?_;clear hK K;refine aZ x ?_;generalize (World.ah _ x).heap.size=b1;intro yn aU bD bC bG aS;clear x);have iy:=Zh (cO.new aS.out);have lS:=Zh yn.ext;have yG:(World.heap w).size≤b1:=aU;generalize World.ah w yn=W0 at *;clear aU bD bC bG aS yn
   have HE:=lS
   have jO:=iy
   have z0:=iy.out.cell (k:=0) (by simp)
   have z1:=iy.out.cell (k:=1) (by simp)
   have z2:=iy.out.cell (k:=2) (by simp)
   have z3:=iy.out.cell (k:=3) (by simp)
   simp at z0 z1 z2 z3
   have wF:=iy.out.lt
   have HL0:=Zh (HL.out.ah HE.out)
   have zM:Hid (∀b,(Value.slice Al l.length cl).ownBlock=some b→l=[]∨b<W0.heap.size):=Zh (λb hb=>by
    by_cases e:l=[]
    ·exact .inl e
    ·exact .inr (HL0.out.lt e b hb))
   clear iy lS HL
   repeat'(first|refine aF ?_|refine au ?_|refine ak (λK hK=>?_)|refine aj ?_|go_step)
   refine aX Tryz.func11 (J6 QM.out.1 QM.out.2) (λr w1 hR=>?_)
   obtain⟨bc,rfl,kY,Fg⟩:=hR
   have gY:=Zh Fg.Fp
   have qO:=Zh kY
   have su:=jO.out.ah kY
   clear kY Fg z0 z1 z2 z3 wF
   have z1:=su.cell (k:=1) (by simp)
   simp at z1
   have wF:=su.lt
   clear su
   repeat'(first|refine dw ?_|refine aF ?_|refine au ?_|refine ak (λK hK=>?_)|refine aj ?_|refine aG ?_|refine bJ ?_|go_step)
   refine aiq (enc:=Yq) (.slice none 0 0) rfl Tryz.underlying32 rfl (n:=NP) (bytes:=24) (by omega) (by unfold maxLen;omega) (λyn g hg hO=>?_)
   have Pq:Hid (∃A c us,us.length=NP∧sS W0 (w1.ah yn) bc A c ⟨NB,NP,fi⟩ g us):=by
    obtain⟨A1,h1,Pv⟩:=gY.out.ah yn.ext
    refine Zh ⟨A1,_,List.replicate NP (.slice none 0 0),by simp,h1,rfl,λp hp=>WS QM.out.1 QM.out.2 hp,by rw[List.length_replicate];exact hO,by simp,λp u hu=>?_,Classical.byContradiction λhh=>by have:=(Pv g hh).2;omega,Nat.le_trans qO.out.size hg,λk hk=>(Pv k hk).1,Et qO.out yn.ext⟩
    have hu2:u=.slice none 0 0:=by
     rw[List.getElem?_replicate]at hu
     split at hu
     ·cases hu;rfl
     ·cases hu
    subst hu2
    exact⟨[],Rd.nil _,List.nil_prefix,λk hk=>by cases hk⟩
   clear hO hg z1 wF gY
   repeat'(first|refine aF ?_|refine au ?_|refine ak (λK hK=>?_)|refine aj ?_|refine aJ ?_|go_step)
   refine dJ [1,2,5,7,8] (λn vs w'=>∃ (i:Nat) (A:og) (c:aO) (us:List Value),i+n=l.length∧vs=[.slice Al l.length cl,.pointer (some ⟨b1,0,none⟩),.pointer (some ⟨bc,0,none⟩),.slice (some ⟨g,0,none⟩) NP NP,.int .i64 i]∧us.length=NP∧sS W0 w' bc A c ⟨NB,NP,fi⟩ g us) l.length hd hA (by decide)
    (by obtain⟨A1,c1,us1,h1,h2⟩:=Pq.out;exact⟨0,A1,c1,us1,by omega,by simp[jW],h1,h2⟩) ?_
   clear hd hA A Pq qO yn;intro n vs A w' hd hA _ ⟨i,A1,c,us,hi,jk,hul,qR⟩;subst jk
   have Pq:=Zh qR
   obtain⟨y,rfl⟩:=qR.ext.get
   have DL:=HL0.out.ajR y.ext (λb hb=>.inr (λh=>h))
   clear qR
   simp only[List.zip_cons_cons,List.zip_nil_right,List.zip_nil_left]
   by_cases ou:i<l.length
   ·have hii:(i:Int)<(l.length:Int):=by omega
    obtain⟨A2,c2,hAc,-,-,MP⟩:=DL.choice
    cases hAc
    obtain⟨x,bx,ox,HX,rfl,Xg,q0,q1,q2,q3⟩:=MP.out i ou
    clear DL MP
    by_cases JM:x.kind=1→x.c=0
    ·have HCX:=Zh JM
     have HQ:Hid (∀w',gK Tryz.prog 13 #[x.v] w' λr w2=>r=.bool true∧aB w' w2):=Zh (λw'=>by have:=Jf x w';rwa [decide_eq_true JM]at this)
     clear JM
     repeat'(first|refine aF ?_|refine au ?_|refine ak (λK hK=>?_)|refine aj ?_|refine aG ?_|refine aJ ?_|refine bH ?_|go_step)
     refine aX Tryz.func13 (HQ.out _) (λr w2 hR=>?_)
     obtain⟨rfl,iU⟩:=hR
     have q0':=(bI iU Xg (λh=>h)).trans q0
     have q1':=(bI iU Xg (λh=>h)).trans q1
     have q2':=(bI iU Xg (λh=>h)).trans q2
     have q3':=(bI iU Xg (λh=>h)).trans q3
     have apU:bx<w2.heap.size:=Nat.lt_of_lt_of_le Xg iU.size
     have ac3:=Zh (Pq.out.ah iU)
     clear q0 q1 q2 q3 Xg iU
     repeat'(first|refine aF ?_|refine au ?_|refine ak (λK hK=>?_)|refine aj ?_|refine aG ?_|refine bJ ?_|go_step)
     refine aX Tryz.func14 (TQ (b:=bc) (F:=λk=>A1.T k≠0) x ⟨A1,ac3.out.Jc,λ_ h=>h⟩) (λr w3 hR=>?_)
     obtain⟨rfl,bP⟩:=hR
     obtain⟨A3,amH,hks⟩:=ac3.out.step x HCX.out bP
     generalize (c.step x).1=c3 at *
     have afq:=Zh amH
     have HKS:=Zh hks
     clear bP amH hks q0' q1' q2' q3' apU ac3 Pq
     repeat'(first|refine aF ?_|refine au ?_|refine ak (λK hK=>?_)|refine aj ?_|go_step)
     refine aX Tryz.func15 (acM (F:=λk=>A3.T k≠0) ⟨A3,afq.out.Jc,λ_ h=>h⟩) (λr w4 hR=>?_)
     obtain⟨bm,rfl,fD,Yh,Yr⟩:=hR
     have alD:=Zh (afq.out.ah fD)
     have HMP:=Zh Yr.Fp
     have hg3:=afq.out.lt
     clear fD Yr
     repeat'(first|refine aF ?_|refine au ?_|refine ak (λK hK=>?_)|refine aj ?_|refine aJ ?_|go_step)
     refine dJ [1,2,5,7,8,9,10] (λm vs w'=>∃ (p:Nat) (us:List Value),p+m=NP∧vs=[.slice (some ⟨bx,ox,none⟩) l.length cl,.pointer (some ⟨b1,0,none⟩),.pointer (some ⟨bc,0,none⟩),.slice (some ⟨g,0,none⟩) NP NP,.int .i64 i,.pointer (some ⟨bm,0,none⟩),.int .i64 p]∧us.length=NP∧sS W0 w' bc A3 c3 ⟨NB,NP,fi⟩ g us∧gX w' bm (λk=>w3.heap.size≤k∧k<w4.heap.size) c3.ctl) NP hd hA (by decide)
      ⟨0,us,by omega,by simp[jW],hul,alD.out,HMP.out⟩ ?_
     clear hd hA A alD HMP hul afq us;intro m vs A w' hd hA _ ⟨p,us,hp,jk,hul,qR,Yr⟩;subst jk
     have Pq:=Zh qR
     have HMP:=Zh Yr
     obtain⟨y,rfl⟩:=qR.ext.get
     have L8:=jO.out.ah y.ext
     have z1:=L8.cell (k:=1) (by simp)
     simp at z1
     have wF:=L8.lt
     clear qR Yr L8
     simp only[List.zip_cons_cons,List.zip_nil_right,List.zip_nil_left]
     by_cases Jp:p<NP
     ·have BP:(p:Int)<(NP:Int):=by omega
      have Bv:=Pq.out.form
      have agQ:c3.ctl.part (p:Int)=true:=afp (by rw[Bv];exact⟨by omega,BP⟩)
      have ac4:=Zh agQ
      obtain⟨up,BM⟩:∃ u,us[p]? =some u:=⟨_,List.getElem?_eq_getElem (by omega)⟩
      obtain⟨lp,air,alE,apV⟩:=Pq.out.was p up BM
      obtain⟨gg,cg,iZ,Dq,jT,Ib,iK⟩:=dQ.at (enc:=Yq) (k:=1) (λ_=>rfl) Pq.out.yK BM
      have d0:=iK 0 _ rfl
      rw[Nat.mul_one,Nat.add_zero]at d0
      injection iZ with e1 e2 e3
      injection e1 with e1
      injection e1 with e1
      subst e1
      obtain⟨Ap,cp,rfl,-⟩:=air.ent
      have HLP:=Zh air
      have apW:=Zh alE
      have HUP:=Zh BM
      clear Bv agQ BM air alE apV iK e2 e3 Dq jT
      repeat'(first|refine aF ?_|refine au ?_|refine ak (λK hK=>?_)|refine aj ?_|refine aG ?_|refine aJ ?_|refine bH ?_|go_step)
      clear z1 wF
      refine aX Tryz.func16 (Es (F:=λk=>A3.T k≠0) ⟨A3,Pq.out.Jc,λ_ h=>h⟩ ac4.out) (λr w5 hR=>?_)
      obtain⟨jY,vN,rfl,hrN,hfN⟩:=hR
      obtain⟨AN,cN,rfl,-⟩:=hrN.ent
      have HRN:=Zh hrN
      have HFN:=Zh hfN
      have KY:=Zh jY
      have d0':=(bI jY Ib (λh=>h)).trans d0
      have ais:=Nat.lt_of_lt_of_le Ib jY.size
      clear hrN hfN jY d0 Ib
      repeat'(first|refine aF ?_|refine au ?_|refine ak (λK hK=>?_)|refine aj ?_|go_step)
      refine aX Tryz.func17 (Gl (HMP.out.ah KY.out) ac4.out) (λr w6 hR=>?_)
      obtain⟨hE6,uv,hr,hOv,-⟩:=hR
      replace hr:r=.tuple #[.agg #[.int .i64 (c3.ctl.view (p:Int)).leader,.int .i64 (c3.ctl.view (p:Int)).epoch,.int .i64 (c3.ctl.view (p:Int)).version,uv],.int .i64 0]:=hr
      subst hr
      obtain⟨Av,nv,cv,rfl⟩:=aT hOv
      have d0:=(bI hE6 ais (λh=>h)).trans d0'
      have Ib:=Nat.lt_of_lt_of_le ais hE6.size
      have HE6:=Zh (Et KY.out hE6)
      have ait:=Zh (HRN.out.ah hE6)
      have He:=Zh hOv
      have apZ:=hE6.size
      clear hE6 d0' ais hOv
      have HBG:Hid (∀W,aB w6 W→Pure Tryz.prog 18 #[.slice AN (c3.dR (p:Int)).length cN,.slice Ap lp.length cp] W (.bool true)):=Zh (λW hE=>by
       have h:=Aw (c3.dR (p:Int)) lp _ _ W (ait.out.ah hE) (HLP.out.ah (Et HE6.out hE))
       rwa [decide_eq_true apW.out]at h)
      repeat'(first|refine fU Tryz.func18 (λ_=>HBG.out _ (by simp)) ?_|refine dw ?_|refine aF ?_|refine au ?_|(refine jr (λyn bn aU bD bC bG aS=>?_))|refine ak (λK hK=>?_)|refine aj ?_|refine aG ?_|refine aJ ?_|refine bJ ?_|go_step)
      have Gm:aB w6 (w6.ah yn):=yn.ext
      have uw:=Zh (cO.new aS.out)
      have HE7:=Zh (Et HE6.out Gm)
      have ap0:=Zh (ait.out.ah Gm)
      have ap1:=Zh (He.out.ah Gm)
      have ap2:=Zh (Pq.out.ah HE7.out)
      have ap3:=Zh (HMP.out.ah HE7.out)
      obtain⟨bv,hbv⟩:∃ q:Nat,q=bn:=⟨_,rfl⟩
      subst hbv
      have ap4:Hid (∀k,(Value.slice AN (c3.dR (p:Int)).length cN).ownBlock=some k→(W0.ah y).heap.size≤k∧k<(w6.ah yn).heap.size):=Zh (λk hk=>⟨(HFN.out k hk).1,Nat.lt_of_lt_of_le (HFN.out k hk).2 (Nat.le_trans apZ Gm.size)⟩)
      generalize World.ah w6 yn=w7 at *
      clear aU bD bC bG aS Gm ait He HE6 HBG d0 Ib HFN KY HRN
      refine dJ [1,2,5,7,8,9,10,11,13,15] (λj vs w'=>∃ k:Nat,k+j=NB∧vs=[.slice (some ⟨bx,ox,none⟩) l.length cl,.pointer (some ⟨b1,0,none⟩),.pointer (some ⟨bc,0,none⟩),.slice (some ⟨g,0,none⟩) NP NP,.int .i64 i,.pointer (some ⟨bm,0,none⟩),.int .i64 p,.slice AN (c3.dR (p:Int)).length cN,.pointer (some ⟨bv,0,none⟩),.int .i64 k]∧aB w7 w') NB hd hA (by decide) ⟨0,by omega,by simp[jW],aB.refl _⟩ ?_
      clear hd hA A;intro j vs A w' hd hA _ ⟨k,hk,jk,xP⟩;subst jk
      obtain⟨y7,rfl⟩:=xP.get
      have aao:=Zh (ap2.out.ah xP)
      have L8:=jO.out.ah aao.out.ext
      have z0:=L8.cell (k:=0) (by simp)
      simp at z0
      have wF:=L8.lt
      have aiu:=Zh (uw.out.ah xP)
      have aiv:=Zh (ap0.out.ah xP)
      have ap5:=Zh (ap1.out.ah xP)
      clear xP L8
      simp only[List.zip_cons_cons,List.zip_nil_right,List.zip_nil_left]
      by_cases BO:k<NB
      ·have sZ:(k:Int)<(NB:Int):=by omega
       have Bv:=aao.out.form
       have D5:c3.ctl.aV (k:Int)=true:=aan (by rw[Bv];exact⟨by omega,sZ⟩)
       have HBR:=Zh D5
       have gu:=aao.out.Jc.bU.rep (p:=(p:Int)) (b:=(k:Int)) (by rw[Bv];exact⟨by omega,BP⟩) (by rw[Bv];exact⟨by omega,sZ⟩)
       have oW:=Zh gu
       have hkp:=HKS.out (p:Int) ⟨by omega,BP⟩
       have HK1:=Zh (hkp.1 (k:Int) ⟨by omega,sZ⟩)
       have HK2:=Zh (hkp.2 (k:Int))
       clear Bv D5 gu hkp
       repeat'(first|refine aF ?_|refine au ?_|refine ak (λK hK=>?_)|refine aj ?_|refine aG ?_|refine aJ ?_|refine bH ?_|go_step)
       refine aX Tryz.func19 (TR (F:=λk=>A3.T k≠0) ⟨A3,aao.out.Jc,λ_ h=>h⟩ ac4.out HBR.out) (λr w9 hR=>?_)
       obtain⟨q,rfl,OC,-,jy⟩:=hR
       have qy:=Zh jy
       have HE9:=Zh OC
       clear jy OC
       generalize hrr:c3.rep (p:Int) (k:Int)=rr at *
       repeat'(first|refine aF ?_|refine au ?_|refine ak (λK hK=>?_)|refine aj ?_|go_step)
       refine aX Tryz.func20 (wu qy.out oW.out.bU.ne (by have:=oW.out.bU.NY;omega) (by have:=oW.out.bU.NY;omega)) (λr w10 hR=>?_)
       obtain⟨EU,u1,u2,u3,rfl,QV,NV,iE,-⟩:=hR
       obtain⟨A1',c1',rfl,-⟩:=QV.int
       obtain⟨A2',c2',rfl,-⟩:=NV.int
       obtain⟨A3',c3',rfl,-⟩:=iE.int
       have Jo:rr.qH.high=rr.high:=by unfold aI.qH;split<;>rfl
       have JK:rr.qH.flushed=rr.flushed:=by unfold aI.qH;split<;>rfl
       have UK:=oW.out.bU.hi
       have hfl:=oW.out.bU.fl
       have iR:=oW.out.bU.len
       obtain⟨hg,hhg⟩:∃ hg:Nat,rr.high=hg:=⟨rr.high.toNat,by omega⟩
       obtain⟨fg,hfg⟩:∃ fg:Nat,rr.flushed=fg:=⟨rr.flushed.toNat,by omega⟩
       rw[hhg]at Jo UK HK1
       rw[hfg]at JK hfl HK2
       have ac5:=Zh (qy.out.ah EU)
       have alF:=Zh (Et HE9.out EU)
       clear QV NV iE EU qy HE9
       repeat'(first|refine au ?_|(refine jr (λyn bn aU bD bC bG aS=>?_))|refine ak (λK hK=>?_)|go_step)
       have ac6:=Zh (ac5.out.ah yn.ext)
       have WT:=Zh (Et alF.out yn.ext)
       have amI:hg≤rr.log.length:=by omega
       have amJ:fg≤rr.log.length:=by omega
       obtain⟨bs,hbs⟩:∃ q:Nat,q=bn:=⟨_,rfl⟩
       subst hbs
       have HBS:=Zh (cO.new aS.out)
       generalize World.ah w10 yn=w11 at *
       have x3:=HBS.out.cell (k:=3) (by simp)
       have x4:=HBS.out.cell (k:=4) (by simp)
       simp at x3 x4
       have hls:=HBS.out.lt
       clear aU bD bC bG aS ac5 alF UK hfl
       have v3:=aiu.out.cell (k:=3) (by simp)
       simp at v3
       have v3':=(bI WT.out aiu.out.lt (λh=>h)).trans v3
       have hlv:=Nat.lt_of_lt_of_le aiu.out.lt WT.out.size
       clear v3
       refine dn [(0,0),(1,0),(2,0),(3,0),(4,0),(6,0),(7,0),(5,1),(8,0),(9,1),(10,0),(11,0),(12,0),(13,0),(14,0),(15,0),(16,1),(17,0),(18,0),(20,0),(21,0),(23,0),(19,1),(22,0),(24,1),(25,0),(26,0),(27,0)] (by kernel_rfl) (by kernel_rfl) ?_
       repeat'(first|refine dw ?_|refine aF ?_|fail)
       refine fF (R:=λw0 v' w'=>aB w0 w'∧BX w' v' rr.log∧∀ b,v'.ownBlock=some b→w0.heap.size≤b) Tryz.func21 (λz=>Dz (ac6.out.ah z.ext) oW.out.bU.ne (by omega)) (λz r w12 hR=>⟨hR.1,?_⟩)
       obtain⟨alG,aiw,-⟩:=hR
       obtain⟨A5,c5,rfl,hc5,ah5,-⟩:=(dQ.rd (enc:=cZ.cs) (k:=6) cZ.len aiw).ent
       obtain⟨y12,rfl⟩:=alG.get
       have hgc:hg≤c5:=Nat.le_trans amI hc5
       have hgi:(hg:Int)≤(c5:Int):=by omega
       have ap7:Hid (∀W,aB ((w11.ah z).ah y12) W→Pure Tryz.prog 18 #[.slice AN (c3.dR (p:Int)).length cN,.slice A5 hg c5] W (.bool true)):=Zh (λW hE=>by
        have DL:=(dQ.rd (enc:=cZ.cs) (k:=6) cZ.len aiw).take hg amI
        have h:=Aw (c3.dR (p:Int)) (rr.log.take hg) _ _ W (aiv.out.ah (Et WT.out (Et z.ext (Et y12.ext hE)))) (DL.ah hE)
        rwa [decide_eq_true (show rr.log.take hg<+:c3.dR (p:Int) from HK1.out)]at h)
       clear alG aiw
       repeat'(first|refine dw ?_|refine aF ?_|fail)
       refine dN Tryz.func18 (λx=>ap7.out _ x.ext) ?_
       have ac7:=Zh (ap5.out.ah (Et WT.out (Et z.ext y12.ext)))
       obtain rfl:nv=(c3.ctl.view (p:Int)).isr.length:=by have:=(dQ.rd (enc:=xK) (k:=1) (λ_=>rfl) ac7.out).length;exact this.symm
       by_cases adK:(k:Int)∈(c3.ctl.view (p:Int)).isr
       ·have hdb:decide ((k:Int)∈(c3.ctl.view (p:Int)).isr)=true:=decide_eq_true adK
        have Lp:Hid (∀W,aB ((w11.ah z).ah y12) W→Pure Tryz.prog 22 #[.slice Av (c3.ctl.view (p:Int)).isr.length cv,.int .i64 (k:Int)] W (.bool true)):=Zh (λW hE=>by
         have h:=Me (c3.ctl.view (p:Int)).isr (k:Int) _ W ((dQ.rd (enc:=xK) (k:=1) (λ_=>rfl) ac7.out).ah hE)
         rwa [hdb]at h)
        have hk2:=HK2.out adK
        clear hdb adK
        repeat'(first|refine dw ?_|refine aF ?_|fail)
        refine dN Tryz.func22 (λx=>Lp.out _ x.ext) ?_
        repeat'(first|refine dw ?_|refine aF ?_|fail)
        refine fF (R:=λw0 v' w'=>aB w0 w'∧BX w' v' rr.log∧∀ b,v'.ownBlock=some b→w0.heap.size≤b) Tryz.func21 (λz2=>Dz (ac6.out.ah (Et z.ext (Et y12.ext z2.ext))) oW.out.bU.ne (by omega)) (λz2 r w13 hR=>⟨hR.1,?_⟩)
        obtain⟨Vr,aix,-⟩:=hR
        obtain⟨A6,c6,rfl,hc6,avG,-⟩:=(dQ.rd (enc:=cZ.cs) (k:=6) cZ.len aix).ent
        obtain⟨y13,rfl⟩:=Vr.get
        have hfc:fg≤c6:=Nat.le_trans amJ hc6
        have hfi:(fg:Int)≤(c6:Int):=by omega
        have ap8:Hid (∀W,aB ((((w11.ah z).ah y12).ah z2).ah y13) W→Pure Tryz.prog 18 #[.slice A6 fg c6,.slice AN (c3.dR (p:Int)).length cN] W (.bool true)):=Zh (λW hE=>by
         have DL:=(dQ.rd (enc:=cZ.cs) (k:=6) cZ.len aix).take fg amJ
         have h:=Aw (rr.log.take fg) (c3.dR (p:Int)) _ _ W (DL.ah hE) (aiv.out.ah (Et WT.out (Et z.ext (Et y12.ext (Et z2.ext (Et y13.ext hE))))))
         rwa [decide_eq_true (show c3.dR (p:Int)<+:rr.log.take fg from hk2)]at h)
        clear Vr aix
        repeat'(first|refine dw ?_|refine aF ?_|fail)
        refine dN Tryz.func18 (λx=>ap8.out _ x.ext) ?_
        repeat'(first|refine dw ?_|refine aF ?_|refine aQ ?_|refine au ?_|refine aj ?_|refine aG ?_|refine bJ ?_|go_step)
        have hEf:aB w7 ((((w11.ah z).ah y12).ah z2).ah y13):=Et y7.ext (Et WT.out (by simp))
        exact⟨_,_,rfl,hd,hA,j-1,by omega,k+1,by omega,by simp[jW],hEf⟩
       ·have hdb:decide ((k:Int)∈(c3.ctl.view (p:Int)).isr)=false:=decide_eq_false adK
        have Lp:Hid (∀W,aB ((w11.ah z).ah y12) W→Pure Tryz.prog 22 #[.slice Av (c3.ctl.view (p:Int)).isr.length cv,.int .i64 (k:Int)] W (.bool false)):=Zh (λW hE=>by
         have h:=Me (c3.ctl.view (p:Int)).isr (k:Int) _ W ((dQ.rd (enc:=xK) (k:=1) (λ_=>rfl) ac7.out).ah hE)
         rwa [hdb]at h)
        clear hdb adK
        repeat'(first|refine dw ?_|refine aF ?_|fail)
        refine dN Tryz.func22 (λx=>Lp.out _ x.ext) ?_
        repeat'(first|(refine pq ?_)|refine dw ?_|refine aF ?_|refine mg ?_|refine jF ?_|refine aQ ?_|refine au ?_|refine aj ?_|refine aG ?_|refine bJ ?_|go_step)
        have hEf:aB w7 ((w11.ah z).ah y12):=Et y7.ext (Et WT.out (by simp))
        exact⟨_,_,rfl,hd,hA,j-1,by omega,k+1,by omega,by simp[jW],hEf⟩
      ·obtain rfl:k=NB:=by omega
       repeat'(first|refine aF ?_|refine au ?_|refine ak (λK hK=>?_)|refine aj ?_|refine dS ?_|refine bJ ?_|go_step)
       have Nc:p<us.length:=by omega
       obtain⟨up2,ap9⟩:∃ u,us[p]? =some u:=⟨_,List.getElem?_eq_getElem Nc⟩
       have ac8:=aao.out.yK
       have hfn:∀ q,(Value.slice AN (c3.dR (p:Int)).length cN).ownBlock=some q→A3.T q=0∧q≠g∧W0.heap.size≤q∧q<(w7.ah y7).heap.size:=λq hq=>by
        have h1:=ap4.out q hq
        have h2:=Pq.out.lt
        refine⟨Classical.byContradiction λh=>?_,by omega,Nat.le_trans y.ext.size h1.1,Nat.lt_of_lt_of_le h1.2 y7.ext.size⟩
        have:=Pq.out.Jc.lt q h;omega
       rw[hul]at ac8
       refine kN (enc:=Yq) (k:=1) (v:=.slice AN (c3.dR (p:Int)).length cN) p 0 up2 (.slice AN (c3.dR (p:Int)).length cN) ac8 ap9 (λ_=>rfl) (by simp[Value.cells]) (λj' u hu=>by
        obtain rfl:j'=0:=by have:=(Ge hu).1;simp at this;omega
        rw[if_pos ⟨by omega,by simp[Value.cells]⟩];simpa [Value.cells] using hu) (λW9 Y2 OT=>?_)
       have alH:=aao.out.store Nc aiv.out List.prefix_rfl hfn Y2 (by rw[hul];exact OT)
       have alI:=(ap3.out.ah y7.ext).aW Y2 (λq hq e=>by subst e;omega)
       have alJ:=Zh alH
       have aqa:=Zh alI
       clear alH alI Y2 OT hfn ac8
       repeat'(first|refine aF ?_|refine au ?_|refine aj ?_|go_step)
       exact⟨_,_,rfl,hd,hA,m-1,by omega,p+1,_,by omega,by simp[jW],by rw[List.length_set];exact hul,alJ.out,aqa.out⟩
     ·obtain rfl:p=NP:=by omega
      have alJ:=Pq
      repeat'(first|refine aF ?_|refine au ?_|refine ak (λK hK=>?_)|refine aj ?_|refine dS ?_|refine bJ ?_|go_step)
      exact⟨_,_,rfl,hd,hA,n-1,by omega,i+1,A3,c3,us,by omega,by simp[jW],hul,Pq.out⟩
    ·have HCX:=Zh JM
     have HQ:Hid (∀w',gK Tryz.prog 13 #[x.v] w' λr w2=>r=.bool false∧aB w' w2):=Zh (λw'=>by have:=Jf x w';rwa [decide_eq_false JM]at this)
     clear JM
     repeat'(first|refine aF ?_|refine au ?_|refine ak (λK hK=>?_)|refine aj ?_|refine aG ?_|refine aJ ?_|refine bH ?_|go_step)
     refine aX Tryz.func13 (HQ.out _) (λr w2 hR=>?_)
     obtain⟨rfl,iU⟩:=hR
     have ac3:=Zh (Pq.out.ah iU)
     repeat'(first|refine aF ?_|refine au ?_|refine aj ?_|refine dS ?_|refine bH ?_|go_step)
     exact⟨_,_,rfl,hd,hA,n-1,by omega,i+1,A1,c,us,by omega,by simp[jW],hul,ac3.out⟩
   ·obtain rfl:i=l.length:=by omega
    repeat'(first|refine aF ?_|refine au ?_|refine ak (λK hK=>?_)|refine aj ?_|refine dS ?_|refine bJ ?_|go_step)
    refine aX Tryz.func12 (kR _) (λr w2 hR=>?_)
    obtain⟨rfl,iU⟩:=hR
    repeat'(first|refine aF ?_|refine au ?_|refine aC ?_|go_step)
    exact aA hd ⟨rfl,Et HE.out (Et y.ext iU)⟩
 ·have rH:Hid (∀w,gK Tryz.prog 11 #[f.val,.int .i64 least] w λr w'=>r=.tuple #[.pointer none,.int .i64 2]∧aB w w'):=Zh (λw=>by
   by_cases hf:f.right=true
   ·exact acK least hf (λh=>lU ⟨hf,h⟩)
   ·exact acJ least (by simpa using hf))
  clear lU
  by_cases apT:120<(l.length:Int)
  ·refine Fi (n:=142) Tryz.func3 ?_;intro A hd hA;simp only[ix,Nat.reduceAdd]
   (repeat'(first|refine ak (λK hK=>?_)|refine aj ?_|fail));(refine dI (λx K hK=>?_);go_simp;refine hK _ _ (aB.alloc _ _) ?_;clear hK K;refine aZ x ?_;generalize (World.ah _ x).heap.size=b1;intro yn aU bD bC bG aS;clear x);have iy:=Zh (cO.new aS.out);have lS:=Zh yn.ext;have yG:(World.heap w).size≤b1:=aU;generalize World.ah w yn=W0 at *;clear aU bD bC bG aS yn
   have HE:=lS
   have z0:=iy.out.cell (k:=0) (by simp)
   have z1:=iy.out.cell (k:=1) (by simp)
   have z2:=iy.out.cell (k:=2) (by simp)
   have z3:=iy.out.cell (k:=3) (by simp)
   simp at z0 z1 z2 z3
   have wF:=iy.out.lt
   clear iy lS
   repeat'(first|refine aF ?_|refine au ?_|refine ak (λK hK=>?_)|refine aj ?_|go_step)
   refine aX Tryz.func11 (rH.out _) (λr w1 hR=>?_)
   obtain⟨rfl,kY⟩:=hR
   have qO:=Zh (Et HE.out kY)
   clear kY
   repeat'(first|refine aF ?_|refine mg ?_|refine au ?_|refine ak (λK hK=>?_)|refine aj ?_|refine bH ?_|go_step)
   refine aX Tryz.func12 (kR w1) (λr w2 hR=>?_)
   obtain⟨rfl,iU⟩:=hR
   repeat'(first|refine aF ?_|refine au ?_|refine aC ?_|go_step)
   exact aA hd ⟨rfl,Et qO.out iU⟩
  ·refine Fi (n:=142) Tryz.func3 ?_;intro A hd hA;simp only[ix,Nat.reduceAdd]
   (repeat'(first|refine ak (λK hK=>?_)|refine aj ?_|fail));(refine dI (λx K hK=>?_);go_simp;refine hK _ _ (aB.alloc _ _) ?_;clear hK K;refine aZ x ?_;generalize (World.ah _ x).heap.size=b1;intro yn aU bD bC bG aS;clear x);have iy:=Zh (cO.new aS.out);have lS:=Zh yn.ext;have yG:(World.heap w).size≤b1:=aU;generalize World.ah w yn=W0 at *;clear aU bD bC bG aS yn
   have HE:=lS
   have z0:=iy.out.cell (k:=0) (by simp)
   have z1:=iy.out.cell (k:=1) (by simp)
   have z2:=iy.out.cell (k:=2) (by simp)
   have z3:=iy.out.cell (k:=3) (by simp)
   simp at z0 z1 z2 z3
   have wF:=iy.out.lt
   clear iy lS
   repeat'(first|refine aF ?_|refine au ?_|refine ak (λK hK=>?_)|refine aj ?_|go_step)
   refine aX Tryz.func11 (rH.out _) (λr w1 hR=>?_)
   obtain⟨rfl,kY⟩:=hR
   have qO:=Zh (Et HE.out kY)
   clear kY
   repeat'(first|refine dw ?_|refine aF ?_|refine au ?_|refine ak (λK hK=>?_)|refine aj ?_|refine bH ?_|go_step)
   refine aX Tryz.func12 (kR w1) (λr w2 hR=>?_)
   obtain⟨rfl,iU⟩:=hR
   repeat'(first|refine aF ?_|refine au ?_|refine aC ?_|go_step)
   exact aA hd ⟨rfl,Et qO.out iU⟩
end Go.Ws
