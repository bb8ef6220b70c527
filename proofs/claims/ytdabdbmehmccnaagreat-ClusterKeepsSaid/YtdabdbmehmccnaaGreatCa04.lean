/- Lemmas for the statements of this layer (joined texts); no condition. -/
import Derived.Test.YtdabdbmehmccnaaGreatCa01
import Derived.Test.YtdabdbmehmccnaaGreatCa02
import Derived.Test.YtdabdbmehmccnaaGreatCa03
namespace Go.Ws
open Go Go.RowKit
set_option maxHeartbeats 4000000
set_option maxRecDepth 100000
set_option linter.unusedVariables false
set_option linter.unusedSimpArgs false
def EN (G:Nat→Prop) (w:World):Type:={w':World // bF G w w'}
def _root_.Go.World.zQ (w:World) {G:Nat→Prop} (x:EN G w):World:=x.1
theorem bF.mO {G:Nat→Prop} {a b c:World} (h:bF G a b) (k:bF G b c):bF G a c:=bF.trans h k (λ_ _ h=>h) (λ_ _ h=>h)
theorem bF.ext {G:Nat→Prop} {a b c:World} (h:bF G a b) (k:aB b c):bF G a c:=bF.trans h k (λ_ _ h=>h) (λ_ _ h=>h.elim)
@[simp,go_sem] theorem af7 {G:Nat→Prop} (w:World) (x:EN G w) (k:Nat) (h:k<w.heap.size) (hG:¬ G k):(w.zQ x).heap[k]? =w.heap[k]? :=x.2.block k h hG
@[simp,go_sem] theorem aeD {G:Nat→Prop} (w:World) (x:EN G w) (b o:Nat) (h:b<w.heap.size) (hG:¬ G b):(w.zQ x).cell? ⟨b,o,none⟩=w.cell? ⟨b,o,none⟩:=
 World.cell?_of_block (w:=w) (x.2.block b h hG)
@[simp,go_sem] theorem abG {G:Nat→Prop} (w:World) (x:EN G w) (b o:Nat) (h:b<w.heap.size) (hG:¬ G b):(w.zQ x).frozen? ⟨b,o,none⟩=w.frozen? ⟨b,o,none⟩:=
 World.frozen?_of_block (w:=w) (x.2.block b h hG)
@[simp,go_sem] theorem ai7 {G:Nat→Prop} (w:World) (x:EN G w) (b:Nat) (h:b<w.heap.size):b<(w.zQ x).heap.size:=Nat.lt_of_lt_of_le h x.2.size
section
variable {P : Program} {md : Region.Mode} {ops : Array Oper} {Q : Exit → Act → World → Prop} {G : Nat → Prop}
def qY (G:Nat→Prop) (P:Program) (ops:Array Oper) (o:Oper) (v:Value) (a:Act) (w:World):Prop:=
 (Region.wanted o (yielded ops a.tmps)=true∧∀ x:EN G w,o.quietAt P a (aB (w.zQ x)) (w.zQ x) v)∨
 (Region.wanted o (yielded ops a.tmps)=false∧v=undef)
theorem qY.q {o:Oper} {v:Value} {a:Act} {w W:World} (h:qY G P ops o v a w) (hM:bF G w W):jC P ops o v a W:=by
 rcases h with⟨h1,h2⟩|h
 ·exact .inl ⟨h1,λx=>h2 ⟨W.ah x,hM.ext x.2⟩⟩
 ·exact .inr h
theorem qY.up {o:Oper} {v:Value} {a:Act} {w W:World} (h:qY G P ops o v a w) (hM:bF G w W):qY G P ops o v a W:=by
 rcases h with⟨h1,h2⟩|h
 ·exact .inl ⟨h1,λx=>h2 ⟨W.zQ x,hM.mO x.2⟩⟩
 ·exact .inr h
theorem qY.AP {o:Oper} {v:Value} {a a':Act} {w:World} (hy:qY G P ops o v a w) (he:execOp a'.eval o=execOp a.eval o)
  (hw:Region.wanted o (yielded ops a'.tmps)=Region.wanted o (yielded ops a.tmps)):qY G P ops o v a' w:=by
 unfold qY Oper.quietAt at *
 rw[he,hw]
 exact hy
def Nl (P:Program) (md:Region.Mode) (ops:Array Oper) (hard:Nat→Bool) (G:Nat→Prop) (Q:Exit→Act→World→Prop):Nat→Array Bool→Act→World→Prop
 | 0,listed,a,w=>Region.ready md ops listed=[]∧∀ x:bM w,Q .normal a (w.ah x)
 | f+1,listed,a,w=>∀ x:bM w,Region.ready md ops listed≠[]∧
   ∀j∈Region.ready md ops listed,fQ P ops j (λa' w'=>bF (λk=>hard j=true∧G k) (w.ah x) w'∧Nl P md ops hard G Q f (listed.setIfInBounds j true) a' w') a (w.ah x)
theorem Nl.ah {hard:Nat→Bool} {f:Nat} {listed:Array Bool} {a:Act} {w w':World} (h:Nl P md ops hard G Q f listed a w) (hE:aB w w'):Nl P md ops hard G Q f listed a w':=by
 cases f with
 | zero=>exact⟨h.1,λx=>h.2 ⟨w'.ah x,Et hE x.2⟩⟩
 | succ f=>exact λx=>h ⟨w'.ah x,Et hE x.2⟩
theorem Ee {ρ:Option Nat} {n:Nat} (hn:ρ= none∨(∀(i:Nat) (o:Oper),ops[i]? =some o→vW o=true)) {hard:Nat→Bool}:∀ (f:Nat) (listed:Array Bool) (a:Act) (w:World),Nl P md ops hard G Q f listed a w→wpAnyIn (RF ρ) n P md ops Q f listed a w
 | 0,listed,a,w,h=>⟨h.1,h.2 ⟨w,aB.refl w⟩⟩
 | f+1,listed,a,w,h=>by
  obtain⟨h0,h1⟩:=h ⟨w,aB.refl w⟩
  refine⟨λh=>absurd h h0,λj hj=>?_⟩
  exact oZ (hn.imp id (λh=>h j)) (gW (λa' w' h=>Ee hn f _ a' w' h.2) (h1 j hj))
theorem bF.aj9 {hard:Nat→Bool} {j:Nat} {G:Nat→Prop} {a b:World} (h:bF (λk=>hard j=true∧G k) a b):bF G a b:=h.mono (λ_ _ h=>h.2)
theorem bF.akb {hard:Nat→Bool} {j:Nat} {G:Nat→Prop} {a b:World} (h:bF (λk=>hard j=true∧G k) a b) (hj:hard j=false):aB a b:=h.mono (λ_ _ h=>by rw[hj]at h;cases h.1)
theorem Vm {hard:Nat→Bool} {i:Nat} {oi:Oper} {v:Value} (hi:ops[i]? =some oi) (kF:∀ (j:Nat) (o:Oper) cs b,ops[j]? =some o→o.op≠ .select cs b):
  ∀(f:Nat) (listed:Array Bool) (a:Act) (w:World),
   (∀j oj,ops[j]? =some oj→j≠i→listed.getD j true=false→(∀e∈oj.after,Region.binds md e=true→e.on≠i)→oi.apart ops oj=true)→
   i∈Region.ready md ops listed→qY G P ops oi v a w→
   Nl P md ops hard G Q f (listed.setIfInBounds i true) (a.put oi.dst v) w→Nl P md ops hard G Q (f+1) listed a w:=by
 intro f
 induction f with
 | zero=>
  intro listed a w _ hr hy H x
  refine⟨λh=>(by rw[h]at hr;cases hr),λj hj=>?_⟩
  by_cases oM:j=i
  ·subst oM
   exact(hy.q x.2.aW).fQ hi λw' yI=>⟨yI.aW,H.ah (Et x.2 yI)⟩
  ·have:=ready_mono hj oM
   rw[H.1]at this
   cases this
 | succ f ih=>
  intro listed a w xB hr hy H x
  refine⟨λh=>(by rw[h]at hr;cases hr),λj hj=>?_⟩
  by_cases oM:j=i
  ·subst oM
   exact(hy.q x.2.aW).fQ hi λw' yI=>⟨yI.aW,H.ah (Et x.2 yI)⟩
  ·have EC:=(mem_ready.1 hr).1
   have h1:=(H x).2 j (ready_mono hj oM)
   obtain⟨BG,oj,JE,jB⟩:=mem_ready.1 hj
   have GY:∀ e∈oj.after,Region.binds md e=true→e.on≠i:=λe he hb heq=>by
    have h1:=jB e he hb
    rw[heq,getD_both EC]at h1
    cases h1
   have yJ:∀ k ok,ops[k]? =some ok→k≠i→(listed.setIfInBounds j true).getD k true=false→
     (∀e∈ok.after,Region.binds md e=true→e.on≠i)→oi.apart ops ok=true:=λk ok hk sZ O5 bT=>by
    refine xB k ok hk sZ ?_ bT
    by_cases UJ:j=k
    ·subst UJ;exact BG
    ·rw[getD_set_ne true UJ]at O5;exact O5
   have h2:=ug JE (xB j oj JE oM BG GY) (λcs b=>kF i oi cs b hi) (λcs b=>kF j oj cs b JE) h1
   refine gW (λa' w' h3=>?_) h2
   obtain⟨⟨he,hw⟩,hM,h4⟩:=h3
   refine⟨hM,ih _ a' w' yJ (ready_mono hr (Ne.symm oM)) ((hy.AP he hw).up (bF.trans x.2 hM.aj9 (λ_ _ h=>h.elim) (λ_ _ h=>h))) ?_⟩
   rw[Array.setIfInBounds_comm _ _ oM]
   exact h4
theorem RP {hard:Nat→Bool} {i:Nat} {oi:Oper} {v:Value} (hi:ops[i]? =some oi) (kF:∀ (j:Nat) (o:Oper) cs b,ops[j]? =some o→o.op≠ .select cs b)
  (lH:∀ j,hard j=true→Reach md ops i j∨Reach md ops j i):
  ∀(f:Nat) (listed:Array Bool) (a:Act) (w:World),uz md ops listed→
   (∀j oj,ops[j]? =some oj→j≠i→listed.getD j true=false→(∀e∈oj.after,Region.binds md e=true→e.on≠i)→oi.apart ops oj=true)→
   i∈Region.ready md ops listed→jC P ops oi v a w→
   Nl P md ops hard G Q f (listed.setIfInBounds i true) (a.put oi.dst v) w→Nl P md ops hard G Q (f+1) listed a w:=by
 intro f
 induction f with
 | zero=>
  intro listed a w hc _ hr hy H x
  refine⟨λh=>(by rw[h]at hr;cases hr),λj hj=>?_⟩
  by_cases oM:j=i
  ·subst oM
   exact(hy.ah x.2).fQ hi λw' yI=>⟨yI.aW,H.ah (Et x.2 yI)⟩
  ·have:=ready_mono hj oM
   rw[H.1]at this
   cases this
 | succ f ih=>
  intro listed a w hc xB hr hy H x
  refine⟨λh=>(by rw[h]at hr;cases hr),λj hj=>?_⟩
  by_cases oM:j=i
  ·subst oM
   exact(hy.ah x.2).fQ hi λw' yI=>⟨yI.aW,H.ah (Et x.2 yI)⟩
  ·have EC:=(mem_ready.1 hr).1
   have akc:=(mem_ready.1 hj).1
   have h1:=(H x).2 j (ready_mono hj oM)
   obtain⟨BG,oj,JE,jB⟩:=mem_ready.1 hj
   have hjh:hard j=false:=by
    cases hjh:hard j with
    | false=>rfl
    | true=>
     exfalso
     rcases lH j hjh with h|h
     ·have:=h.listed hc (.inr hj)
      rw[getD_both EC]at this;cases this
     ·have:=h.listed hc (.inr hr)
      rw[getD_both akc]at this;cases this
   have GY:∀ e∈oj.after,Region.binds md e=true→e.on≠i:=λe he hb heq=>by
    have h1:=jB e he hb
    rw[heq,getD_both EC]at h1
    cases h1
   have yJ:∀ k ok,ops[k]? =some ok→k≠i→(listed.setIfInBounds j true).getD k true=false→
     (∀e∈ok.after,Region.binds md e=true→e.on≠i)→oi.apart ops ok=true:=λk ok hk sZ O5 bT=>by
    refine xB k ok hk sZ ?_ bT
    by_cases UJ:j=k
    ·subst UJ;exact BG
    ·rw[getD_set_ne true UJ]at O5;exact O5
   have h2:=ug JE (xB j oj JE oM BG GY) (λcs b=>kF i oi cs b hi) (λcs b=>kF j oj cs b JE) h1
   refine gW (λa' w' h3=>?_) h2
   obtain⟨⟨he,hw⟩,hM,h4⟩:=h3
   refine⟨hM,ih _ a' w' (hc.set hj) yJ (ready_mono hr (Ne.symm oM)) ((hy.AP he hw).ah (Et x.2 (hM.akb hjh))) ?_⟩
   rw[Array.setIfInBounds_comm _ _ oM]
   exact h4
def RQ (md : Region.Mode) (ops : Array Oper) : List (Nat × Nat) → Array Bool → Bool
  | [], listed => (Region.ready md ops listed).isEmpty
  | (i, k) :: rest, listed =>
    (match k with
     | 0 => (Region.ready md ops listed).contains i && Region.free md ops listed i
     | 3 => (Region.ready md ops listed).contains i && Region.free md ops listed i
     | _ => decide (Region.ready md ops listed = [i])) && RQ md ops rest (listed.setIfInBounds i true)
end
section
variable {P : Program} {Q : jo} {w : World} {a : Act} {G : Nat → Prop} {ops : Array Oper}
def IV (G:Nat→Prop) (P:Program) (ops:Array Oper) (Q:jo):List (Oper×Nat)→Act→World→Prop
 | [],a,w=>Q .normal a w
 | (o,0)::rest,a,w=>∃ v,qY G P ops o v a w∧IV G P ops Q rest (a.put o.dst v) w
 | (o,3)::rest,a,w=>∃ v,jC P ops o v a w∧IV G P ops Q rest (a.put o.dst v) w
 | (o,_)::rest,a,w=>∀ x:bM w,if Region.wanted o (yielded ops a.tmps)=true
   then Bz P o a (w.ah x) (λa' w'=>bF G (w.ah x) w'∧∃ w0,aB w0 w'∧IV G P ops Q rest a' w0) (λ_ _ _=>False)
   else ∃w0,aB w0 (w.ah x)∧IV G P ops Q rest (a.put o.dst undef) w0
def RS (k:Nat):Bool:=k==1||k==2
theorem pz {hard:Nat→Bool} (kF:Region.noSelect ops=true):
  ∀(l:List (Oper×Nat)) (σ:List (Nat×Nat)) (listed:Array Bool) (a:Act) (w:World),uz .any ops listed→(∀p∈l.zip σ,ops[p.2.1]? =some p.1.1∧p.1.2=p.2.2)→l.length=σ.length→RQ .any ops σ listed=true→
   (∀p∈σ,p.2≤3∧(p.2=1∨p.2=2→hard p.1=true)∧(p.2=3→∀ j,hard j=true→Reach .any ops p.1 j∨Reach .any ops j p.1))→
   IV G P ops Q l a w→Nl P .any ops hard G (QJ Q) σ.length listed a w
 | [],[],listed,a,w,_,_,_,hB,_,h=>⟨by simpa [RQ] using hB,λx=>⟨w,x.2,h⟩⟩
 | [],_::_,_,_,_,_,_,hl,_,_,_=>by cases hl
 | _::_,[],_,_,_,_,_,hl,_,_,_=>by cases hl
 | (o,k)::rest,(i,k')::σ,listed,a,w,hc,hz,hl,hB,hh,h=>by
  have h0:=hz ((o,k),(i,k')) (by simp)
  obtain⟨ho,rfl⟩:ops[i]? =some o∧k=k':=h0
  have Jm:∀ p∈rest.zip σ,ops[p.2.1]? =some p.1.1∧p.1.2=p.2.2:=λp hp=>hz p (by simp[hp])
  have zF:rest.length=σ.length:=by simpa using hl
  have hh':=λp hp=>hh p (List.mem_cons_of_mem _ hp)
  obtain⟨hk3,Xk,YP⟩:=hh (i,k) (by simp)
  match k,hk3,Xk,YP,hB,h with
  | 0,hk3,Xk,YP,hB,h=>
   simp only[RQ,Bool.and_eq_true]at hB
   obtain⟨⟨hr,hf⟩,GZ⟩:=hB
   obtain⟨v,hy,NV⟩:=h
   have tC:i∈Region.ready .any ops listed:=by simpa using hr
   exact Vm ho (Region.noSelect_spec kF) σ.length listed a w (Region.free_spec ho hf) tC hy (pz kF rest σ _ _ _ (hc.set tC) Jm zF GZ hh' NV)
  | 3,hk3,Xk,YP,hB,h=>
   simp only[RQ,Bool.and_eq_true]at hB
   obtain⟨⟨hr,hf⟩,GZ⟩:=hB
   obtain⟨v,hy,NV⟩:=h
   have tC:i∈Region.ready .any ops listed:=by simpa using hr
   exact RP ho (Region.noSelect_spec kF) (YP rfl) σ.length listed a w hc (Region.free_spec ho hf) tC hy (pz kF rest σ _ _ _ (hc.set tC) Jm zF GZ hh' NV)
  | 1,hk3,Xk,YP,hB,h=>
   simp only[RQ,Bool.and_eq_true,decide_eq_true_eq]at hB
   intro x
   refine⟨λh0=>(by rw[hB.1]at h0;cases h0),λj hj=>?_⟩
   have AQ:=hj
   rw[hB.1]at AQ
   obtain rfl:j=i:=by simpa using AQ
   have hjh:=Xk (.inl rfl)
   have:=h x
   unfold fQ
   simp only[ho]
   split
   ·rename_i hw;rw[if_pos hw]at this
    exact this.mono (λa' w' ⟨hM,w0,ny,h0⟩=>⟨hM.mono (λ_ _ h=>⟨hjh,h⟩),(pz kF rest σ _ _ _ (hc.set hj) Jm zF hB.2 hh' h0).ah ny⟩) (λ_ _ _ h=>h)
   ·rename_i hw;rw[if_neg hw]at this
    obtain⟨w0,ny,h0⟩:=this
    exact⟨bF.refl _ _,(pz kF rest σ _ _ _ (hc.set hj) Jm zF hB.2 hh' h0).ah ny⟩
  | 2,hk3,Xk,YP,hB,h=>
   simp only[RQ,Bool.and_eq_true,decide_eq_true_eq]at hB
   intro x
   refine⟨λh0=>(by rw[hB.1]at h0;cases h0),λj hj=>?_⟩
   have AQ:=hj
   rw[hB.1]at AQ
   obtain rfl:j=i:=by simpa using AQ
   have hjh:=Xk (.inr rfl)
   have:=h x
   unfold fQ
   simp only[ho]
   split
   ·rename_i hw;rw[if_pos hw]at this
    exact this.mono (λa' w' ⟨hM,w0,ny,h0⟩=>⟨hM.mono (λ_ _ h=>⟨hjh,h⟩),(pz kF rest σ _ _ _ (hc.set hj) Jm zF hB.2 hh' h0).ah ny⟩) (λ_ _ _ h=>h)
   ·rename_i hw;rw[if_neg hw]at this
    obtain⟨w0,ny,h0⟩:=this
    exact⟨bF.refl _ _,(pz kF rest σ _ _ _ (hc.set hj) Jm zF hB.2 hh' h0).ah ny⟩
  | k+4,hk3,_,_,_,_=>simp at hk3
def an9 (ops:Array Oper) (σ:List (Nat×Nat)):Bool:=
 σ.all λp=>decide (p.2≤3)&&(!(decide (p.2=3))||σ.all λq=> !(RS q.2)||((Region.before ops).getD q.1 0).testBit p.1||((Region.before ops).getD p.1 0).testBit q.1)
def okG (ops:Array Oper) (σ:List (Nat×Nat)):Bool:=Region.noSelect ops&&decide (σ.length=ops.size)&&(σ.all λp=>decide (p.1<ops.size))&&an9 ops σ&&RQ .any ops σ (Array.replicate ops.size false)
theorem xZ {ρ:Option Nat} {id:Nat} {l:List Oper} (G:Nat→Prop) (σ:List (Nat×Nat)) (hm:P.follows .mixedOrders=true) (hB:okG l.toArray σ=true)
  (h:IV G P l.toArray Q (σ.map λp=>(l.getD p.1 default,p.2)) a w) (hnd:BQ ρ l:=by first|exact .inl rfl|exact .inr (by kernel_rfl)):Wp ρ P (.region id l.toArray true) Q a w:=Wp.intro λx=>by
 simp only[okG,Bool.and_eq_true,decide_eq_true_eq]at hB
 obtain⟨⟨⟨⟨kF,iR⟩,hlt⟩,aiB⟩,UY⟩:=hB
 refine wpIn_region_any hm ?_
 have hz:∀ p∈(σ.map λp=>(l.getD p.1 default,p.2)).zip σ,l.toArray[p.2.1]? =some p.1.1∧p.1.2=p.2.2:=by
  intro p hp
  have:∀ (τ:List (Nat×Nat)),(∀q∈τ,q.1<l.toArray.size)→p∈(τ.map λq=>(l.getD q.1 default,q.2)).zip τ→l.toArray[p.2.1]? =some p.1.1∧p.1.2=p.2.2:=by
   intro τ
   induction τ with
   | nil=>intro _ h;simp at h
   | cons q τ ih=>
    intro hq h
    simp only[List.map_cons,List.zip_cons_cons,List.mem_cons]at h
    rcases h with rfl|h
    ·have:=hq q (by simp)
     simp only[List.size_toArray]at this
     refine⟨?_,rfl⟩
     simp[this]
    ·exact ih (λr hr=>hq r (by simp[hr])) h
  exact this σ (λq hq=>by have:=List.all_eq_true.1 hlt q hq;simpa using this) hp
 have hh:∀ p∈σ,p.2≤3∧(p.2=1∨p.2=2→(σ.any λq=>RS q.2&&q.1==p.1)=true)∧(p.2=3→∀ j,(σ.any λq=>RS q.2&&q.1==j)=true→Reach .any l.toArray p.1 j∨Reach .any l.toArray j p.1):=by
  intro p hp
  have h1:=List.all_eq_true.1 aiB p hp
  simp only[Bool.and_eq_true,decide_eq_true_eq]at h1
  refine⟨h1.1,λh=>List.any_eq_true.2 ⟨p,hp,by rcases h with h|h<;>simp[h,RS]⟩,λh j hj=>?_⟩
  obtain⟨q,hq,jM⟩:=List.any_eq_true.1 hj
  simp only[Bool.and_eq_true,beq_iff_eq]at jM
  obtain⟨jM,rfl⟩:=jM
  have h2:=h1.2
  simp only[h,decide_true,Bool.not_true,Bool.false_or]at h2
  have h3:=List.all_eq_true.1 h2 q hq
  simp only[jM,Bool.not_true,Bool.false_or,Bool.or_eq_true]at h3
  exact h3.imp (lM l.toArray p.1 q.1) (lM l.toArray q.1 p.1)
 have h2:=(pz (G:=G) (hard:=λj=>σ.any λq=>RS q.2&&q.1==j) kF _ σ (Array.replicate l.toArray.size false) a w (λj oj _ hl=>(by rw[getD_replicate_false]at hl;cases hl)) hz (by simp) UY hh h).ah (Et x.2 (aB.drew (w.ah x)))
 have h3:=Ee (ρ:=ρ) (n:=0) hnd.get _ _ _ _ h2
 rw[iR]at h3
 exact h3
def RU (P:Program) (ops:Array Oper) (G:Nat→Prop) (last:Nat) (Z:Act→World→Prop):Nat→Array Bool→Act→World→Prop
 | 0,listed,a,w=>Region.ready .any ops listed=[last]∧∀ x:bM w,Z a (w.ah x)
 | f+1,listed,a,w=>∀ x:bM w,Region.ready .any ops listed≠[]∧
   ∀j∈Region.ready .any ops listed,fQ P ops j (λa' w'=>bF G (w.ah x) w'∧RU P ops G last Z f (listed.setIfInBounds j true) a' w') a (w.ah x)
section
variable {last : Nat} {Z : Act → World → Prop}
theorem RU.ah {f:Nat} {listed:Array Bool} {a:Act} {w w':World} (h:RU P ops G last Z f listed a w) (hE:aB w w'):RU P ops G last Z f listed a w':=by
 cases f with
 | zero=>exact⟨h.1,λx=>h.2 ⟨w'.ah x,Et hE x.2⟩⟩
 | succ f=>exact λx=>h ⟨w'.ah x,Et hE x.2⟩
theorem Ef {Q:Exit→Act→World→Prop} (abp:∀ a w K,Z a w→wpOpIn (RF none) 0 P ops Q last K a w):∀ (f:Nat) (listed:Array Bool) (a:Act) (w:World),RU P ops G last Z f listed a w→wpAnyIn (RF none) 0 P .any ops Q (f+1) listed a w
 | 0,listed,a,w,h=>by
  obtain⟨h0,h1⟩:=h
  refine⟨(λh=>by rw[h0]at h;cases h),λj hj=>?_⟩
  rw[h0,List.mem_singleton]at hj
  subst hj
  exact abp _ _ _ (h1 ⟨w,aB.refl w⟩)
 | f+1,listed,a,w,h=>by
  obtain⟨h0,h1⟩:=h ⟨w,aB.refl w⟩
  refine⟨λh=>absurd h h0,λj hj=>?_⟩
  exact oZ (.inl rfl) (gW (λa' w' h=>Ef abp f _ a' w' h.2) (h1 j hj))
theorem Vo {i:Nat} {oi:Oper} {v:Value} (hi:ops[i]? =some oi) (kF:∀ (j:Nat) (o:Oper) cs b,ops[j]? =some o→o.op≠ .select cs b) (lH:Reach .any ops i last):
  ∀(f:Nat) (listed:Array Bool) (a:Act) (w:World),uz .any ops listed→
   (∀j oj,ops[j]? =some oj→j≠i→listed.getD j true=false→(∀e∈oj.after,Region.binds .any e=true→e.on≠i)→oi.apart ops oj=true)→
   i∈Region.ready .any ops listed→qY G P ops oi v a w→
   RU P ops G last Z f (listed.setIfInBounds i true) (a.put oi.dst v) w→RU P ops G last Z (f+1) listed a w:=by
 intro f
 induction f with
 | zero=>
  intro listed a w hc _ hr hy H x
  refine⟨λh=>(by rw[h]at hr;cases hr),λj hj=>?_⟩
  by_cases oM:j=i
  ·subst oM
   exact(hy.q x.2.aW).fQ hi λw' yI=>⟨yI.aW,H.ah (Et x.2 yI)⟩
  ·have h1:=ready_mono hj oM
   rw[H.1,List.mem_singleton]at h1
   subst h1
   have EC:=(mem_ready.1 hr).1
   have:=lH.listed hc (.inr hj)
   rw[getD_both EC]at this
   cases this
 | succ f ih=>
  intro listed a w hc xB hr hy H x
  refine⟨λh=>(by rw[h]at hr;cases hr),λj hj=>?_⟩
  by_cases oM:j=i
  ·subst oM
   exact(hy.q x.2.aW).fQ hi λw' yI=>⟨yI.aW,H.ah (Et x.2 yI)⟩
  ·have EC:=(mem_ready.1 hr).1
   have h1:=(H x).2 j (ready_mono hj oM)
   obtain⟨BG,oj,JE,jB⟩:=mem_ready.1 hj
   have GY:∀ e∈oj.after,Region.binds .any e=true→e.on≠i:=λe he hb heq=>by
    have h1:=jB e he hb
    rw[heq,getD_both EC]at h1
    cases h1
   have yJ:∀ k ok,ops[k]? =some ok→k≠i→(listed.setIfInBounds j true).getD k true=false→
     (∀e∈ok.after,Region.binds .any e=true→e.on≠i)→oi.apart ops ok=true:=λk ok hk sZ O5 bT=>by
    refine xB k ok hk sZ ?_ bT
    by_cases UJ:j=k
    ·subst UJ;exact BG
    ·rw[getD_set_ne true UJ]at O5;exact O5
   have h2:=ug JE (xB j oj JE oM BG GY) (λcs b=>kF i oi cs b hi) (λcs b=>kF j oj cs b JE) h1
   refine gW (λa' w' h3=>?_) h2
   obtain⟨⟨he,hw⟩,hM,h4⟩:=h3
   refine⟨hM,ih _ a' w' (hc.set hj) yJ (ready_mono hr (Ne.symm oM)) ((hy.AP he hw).up (bF.trans x.2 hM (λ_ _ h=>h.elim) (λ_ _ h=>h))) ?_⟩
   rw[Array.setIfInBounds_comm _ _ oM]
   exact h4
def IW (ops : Array Oper) (last : Nat) : List (Nat × Nat) → Array Bool → Bool
  | [], listed => decide (Region.ready .any ops listed = [last])
  | (i, k) :: rest, listed =>
    (match k with
     | 0 => (Region.ready .any ops listed).contains i && Region.free .any ops listed i
     | 1 => decide (Region.ready .any ops listed = [i])
     | 2 => decide (Region.ready .any ops listed = [i])
     | _ => false) && IW ops last rest (listed.setIfInBounds i true)
theorem rQ {Q:jo} (kF:Region.noSelect ops=true) (hQ:∀ a w,Q .normal a w→∀ x:bM w,Z a (w.ah x)):
  ∀(l:List (Oper×Nat)) (σ:List (Nat×Nat)) (listed:Array Bool) (a:Act) (w:World),uz .any ops listed→(∀p∈l.zip σ,ops[p.2.1]? =some p.1.1∧p.1.2=p.2.2)→l.length=σ.length→IW ops last σ listed=true→(∀p∈σ,Reach .any ops p.1 last)→
   IV G P ops Q l a w→RU P ops G last Z σ.length listed a w
 | [],[],listed,a,w,_,_,_,hB,_,h=>⟨by simpa [IW] using hB,λx=>hQ _ _ h x⟩
 | [],_::_,_,_,_,_,_,hl,_,_,_=>by cases hl
 | _::_,[],_,_,_,_,_,hl,_,_,_=>by cases hl
 | (o,k)::rest,(i,k')::σ,listed,a,w,hc,hz,hl,hB,hh,h=>by
  have h0:=hz ((o,k),(i,k')) (by simp)
  obtain⟨ho,rfl⟩:ops[i]? =some o∧k=k':=h0
  have Jm:∀ p∈rest.zip σ,ops[p.2.1]? =some p.1.1∧p.1.2=p.2.2:=λp hp=>hz p (by simp[hp])
  have zF:rest.length=σ.length:=by simpa using hl
  have hh':∀ p∈σ,Reach .any ops p.1 last:=λp hp=>hh p (by simp[hp])
  match k with
  | 0=>
   simp only[IW,Bool.and_eq_true]at hB
   obtain⟨⟨hr,hf⟩,GZ⟩:=hB
   obtain⟨v,hy,NV⟩:=h
   have tC:i∈Region.ready .any ops listed:=by simpa using hr
   exact Vo ho (Region.noSelect_spec kF) (hh (i,0) (by simp)) σ.length listed a w hc (Region.free_spec ho hf) tC hy (rQ kF hQ rest σ _ _ _ (hc.set tC) Jm zF GZ hh' NV)
  | 1=>
   simp only[IW,Bool.and_eq_true,decide_eq_true_eq]at hB
   intro x
   refine⟨λh0=>(by rw[hB.1]at h0;cases h0),λj hj=>?_⟩
   have AQ:=hj
   rw[hB.1]at AQ
   obtain rfl:j=i:=by simpa using AQ
   have:=h x
   unfold fQ
   simp only[ho]
   split
   ·rename_i hw;rw[if_pos hw]at this
    exact this.mono (λa' w' ⟨hM,w0,ny,h0⟩=>⟨hM,(rQ kF hQ rest σ _ _ _ (hc.set hj) Jm zF hB.2 hh' h0).ah ny⟩) (λ_ _ _ h=>h)
   ·rename_i hw;rw[if_neg hw]at this
    obtain⟨w0,ny,h0⟩:=this
    exact⟨bF.refl _ _,(rQ kF hQ rest σ _ _ _ (hc.set hj) Jm zF hB.2 hh' h0).ah ny⟩
  | 2=>
   simp only[IW,Bool.and_eq_true,decide_eq_true_eq]at hB
   intro x
   refine⟨λh0=>(by rw[hB.1]at h0;cases h0),λj hj=>?_⟩
   have AQ:=hj
   rw[hB.1]at AQ
   obtain rfl:j=i:=by simpa using AQ
   have:=h x
   unfold fQ
   simp only[ho]
   split
   ·rename_i hw;rw[if_pos hw]at this
    exact this.mono (λa' w' ⟨hM,w0,ny,h0⟩=>⟨hM,(rQ kF hQ rest σ _ _ _ (hc.set hj) Jm zF hB.2 hh' h0).ah ny⟩) (λ_ _ _ h=>h)
   ·rename_i hw;rw[if_neg hw]at this
    obtain⟨w0,ny,h0⟩:=this
    exact⟨bF.refl _ _,(rQ kF hQ rest σ _ _ _ (hc.set hj) Jm zF hB.2 hh' h0).ah ny⟩
  | k+3=>simp[IW]at hB
end
def abH (ops:Array Oper) (σ:List (Nat×Nat)) (last:Nat):Bool:=
 Region.noSelect ops&&decide (σ.length+1=ops.size)&&(σ.all λp=>((Region.before ops).getD last 0).testBit p.1&&decide (p.1<ops.size))&&IW ops last σ (Array.replicate ops.size false)
theorem aeE {l:List Oper} (σ:List (Nat×Nat)) (hlt:∀ q∈σ,q.1<l.toArray.size):∀ p∈(σ.map λp=>(l.getD p.1 default,p.2)).zip σ,l.toArray[p.2.1]? =some p.1.1∧p.1.2=p.2.2:=by
 intro p hp
 have:∀ (τ:List (Nat×Nat)),(∀q∈τ,q.1<l.toArray.size)→p∈(τ.map λq=>(l.getD q.1 default,q.2)).zip τ→l.toArray[p.2.1]? =some p.1.1∧p.1.2=p.2.2:=by
  intro τ
  induction τ with
  | nil=>intro _ h;simp at h
  | cons q τ ih=>
   intro hq h
   simp only[List.map_cons,List.zip_cons_cons,List.mem_cons]at h
   rcases h with rfl|h
   ·have:=hq q (by simp)
    simp only[List.size_toArray]at this
    refine⟨?_,rfl⟩
    simp[this]
   ·exact ih (λr hr=>hq r (by simp[hr])) h
 exact this σ hlt hp
theorem ahi {id:Nat} {l:List Oper} (G:Nat→Prop) (σ:List (Nat×Nat)) (last:Nat) (hm:P.follows .mixedOrders=true) (hB:abH l.toArray σ last=true)
  (h:IV G P l.toArray (λ_ a w=>adn P l.toArray last Q a w) (σ.map λp=>(l.getD p.1 default,p.2)) a w):Wp none P (.region id l.toArray true) Q a w:=Wp.intro λx=>by
 simp only[abH,Bool.and_eq_true,decide_eq_true_eq]at hB
 obtain⟨⟨⟨kF,iR⟩,lH⟩,UY⟩:=hB
 refine wpIn_region_any hm ?_
 have hz:=aeE (l:=l) σ (λq hq=>by have:=List.all_eq_true.1 lH q hq;simp only[Bool.and_eq_true,decide_eq_true_eq]at this;exact this.2)
 have h2:=rQ (P:=P) (ops:=l.toArray) (G:=G) (last:=last) (Z:=λa w=>∃ w0,aB w0 w∧adn P l.toArray last Q a w0) kF (λa w h x=>⟨w,x.2,h⟩) _ σ (Array.replicate l.toArray.size false) a w (λj oj _ hl=>(by rw[getD_replicate_false]at hl;cases hl)) hz (by simp) UY (λp hp=>lM l.toArray p.1 last (by have:=List.all_eq_true.1 lH p hp;simp only[Bool.and_eq_true]at this;exact this.1)) h
 have h3:=Ef (Q:=QJ Q) (λa w K hZ=>by
  obtain⟨w0,hE,o,ho,hw,hd⟩:=hZ
  unfold wpOpIn
  simp only[ho,hw,if_true]
  have hd':=hd ⟨w,hE⟩
  exact wH (.inl rfl) (hd'.mono (λ_ _ h=>h.elim) (λ_ _ _ h=>h))) _ _ _ _ (h2.ah (Et x.2 (aB.drew (w.ah x))))
 rw[iR]at h3
 exact h3
variable {o : Oper} {A : Act} {fl : List (Nat × Value)}
theorem Eh (h:Q .normal a w):IV G P ops Q [] a w:=h
theorem Jy {rest:List (Oper×Nat)} {v:Value} {d:Nat} (h:IV G P ops Q rest (fr ((d,v)::fl) A) w) (hd:o.dst=some d:=by rfl) (hg:o.guard=none:=by rfl)
  (hv:∀ x:EN G w,o.quietAt P (fr fl A) (aB (w.zQ x)) (w.zQ x) v:=by intro x;go_simp;(try go_bits);exact rfl):IV G P ops Q ((o,0)::rest) (fr fl A) w:=
 ⟨v,.inl ⟨by simp[Region.wanted,hg],hv⟩,by rw[hd,lW];exact h⟩
theorem aoa {rest:List (Oper×Nat)} {d:Nat} {j t m:Nat} {want:Bool} (h:IV G P ops Q rest (fr ((d,undef)::fl) A) w) (hd:o.dst=some d:=by rfl) (hg:o.guard=some (j,want):=by rfl) (ht:(ops[j]?).bind (·.dst)=some t:=by rfl)
  (rM:Is (gw ((fr fl A).tmps.getD t undef) want) false:=by go_simp;exact Is.mk _):IV G P ops Q ((o,m)::rest) (fr fl A) w:=by
 match m with
 | 0=>exact⟨undef,.inr ⟨by rw[jA hg ht,rM.eq],rfl⟩,by rw[hd,lW];exact h⟩
 | 3=>exact⟨undef,.inr ⟨by rw[jA hg ht,rM.eq],rfl⟩,by rw[hd,lW];exact h⟩
 | 1=>
  intro x
  rw[jA hg ht,rM.eq]
  exact⟨w,x.2,by rw[hd,lW];exact h⟩
 | 2=>
  intro x
  rw[jA hg ht,rM.eq]
  exact⟨w,x.2,by rw[hd,lW];exact h⟩
 | m+4=>
  intro x
  rw[jA hg ht,rM.eq]
  exact⟨w,x.2,by rw[hd,lW];exact h⟩
theorem aeF {rest:List (Oper×Nat)} {dst:Option Tmp} {op:Op} {type:TypeId} {pos:String} {after:Array Edge} {j t k:Nat} {want:Bool}
  (h:IV G P ops Q ((⟨dst,op,type,pos,after,none⟩,k)::rest) (fr fl A) w) (ht:(ops[j]?).bind (·.dst)=some t:=by rfl)
  (rM:Is (gw ((fr fl A).tmps.getD t undef) want) true:=by go_simp;exact Is.mk _):IV G P ops Q ((⟨dst,op,type,pos,after,some (j,want)⟩,k)::rest) (fr fl A) w:=by
 have hw:Region.wanted (⟨dst,op,type,pos,after,some (j,want)⟩:Oper) (yielded ops (fr fl A).tmps)=true:=by rw[jA rfl ht,rM.eq]
 have yI:Region.wanted (⟨dst,op,type,pos,after,none⟩:Oper) (yielded ops (fr fl A).tmps)=true:=by simp[Region.wanted]
 match k with
 | 0=>
  obtain⟨v,hy,hr⟩:=h
  refine⟨v,.inl ⟨hw,?_⟩,hr⟩
  rcases hy with⟨_,hv⟩|⟨hn,_⟩
  ·exact hv
  ·rw[yI]at hn;cases hn
 | 3=>
  obtain⟨v,hy,hr⟩:=h
  refine⟨v,.inl ⟨hw,?_⟩,hr⟩
  rcases hy with⟨_,hv⟩|⟨hn,_⟩
  ·exact hv
  ·rw[yI]at hn;cases hn
 | 1=>
  intro x
  have:=h x
  rw[if_pos yI]at this
  rw[if_pos hw]
  exact this
 | 2=>
  intro x
  have:=h x
  rw[if_pos yI]at this
  rw[if_pos hw]
  exact this
 | k+4=>
  intro x
  have:=h x
  rw[if_pos yI]at this
  rw[if_pos hw]
  exact this
theorem Y_r {rest:List (Oper×Nat)} {v:Value} {d:Nat} (h:IV G P ops Q rest (fr ((d,v)::fl) A) w) (hd:o.dst=some d:=by rfl) (hg:o.guard=none:=by rfl)
  (hv:∀ x:bM w,o.quietAt P (fr fl A) (aB (w.ah x)) (w.ah x) v:=by intro x;go_simp;(try go_bits);exact rfl):IV G P ops Q ((o,3)::rest) (fr fl A) w:=
 ⟨v,.inl ⟨by simp[Region.wanted,hg],hv⟩,by rw[hd,lW];exact h⟩
theorem ahj {rest:List (Oper×Nat)} {k:Nat} (hk:k=1∨k=2) (h:∀ x:bM w,Bz P o (fr fl A) (w.ah x) (λa' w'=>bF G (w.ah x) w'∧∃ w0,aB w0 w'∧IV G P ops Q rest a' w0) (λ_ _ _=>False)) (hg:o.guard=none:=by rfl):IV G P ops Q ((o,k)::rest) (fr fl A) w:=by
 rcases hk with rfl|rfl<;>(intro x;rw[if_pos (by simp[Region.wanted,hg])];exact h x)
theorem kM {b n:Nat} {E:TypeId} {g:Nat→Value} {rest:List (Oper×Nat)} {x y:Operand} {t:TypeId} {off:Nat} {v:Value} (hb:cO w b E n g) (hGb:G b)
  (h:∀ W',bF (· =b) w W'→bF G w W'→cO W' b E n (put g off v.cells.toList)→IV G P ops Q rest (fr fl A) W')
  (ho:o.op=.store t x y:=by rfl) (hd:o.dst=none:=by rfl) (hg:o.guard=none:=by rfl)
  (hx:Is ((fr fl A).eval x) (.pointer (some ⟨b,off,none⟩)):=by go_simp;exact Is.mk _) (hy:Is ((fr fl A).eval y) v:=by go_simp;exact Is.mk _)
  (hi:(P.info? t).map (·.size)=some v.cells.size:=by kernel_rfl) (Ul:off+v.cells.size≤n:=by simp[Value.cells]<;>omega) (h1:v.cells.all (·.oneCell')=true:=by simp[Value.cells,Value.oneCell']):
  IV G P ops Q ((o,2)::rest) (fr fl A) w:=by
 refine ahj (.inr rfl) (λX=>?_) hg
 obtain⟨W',hr,hM,hB⟩:=yx (P:=P) (w:=w.ah X) (hb.ah X.2) t off v hi Ul h1
 have hMG:bF G (w.ah X) W':=hM.mono (λk _ hk=>by subst hk;exact hGb)
 have Uk:uQ P o (fr fl A) (w.ah X) (λv' w'=>v'=undef∧w'=W'):=by
  unfold uQ execOp
  simp only[ho,hx.eq,hy.eq,Sem.run_bind,hr,Result.andThen_ok,Sem.run_pure]
  exact⟨rfl,rfl⟩
 refine rF Uk λv' w' hk=>?_
 obtain⟨rfl,rfl⟩:=hk
 exact⟨hMG,_,aB.refl _,by rw[hd];exact h _ (bF.trans X.2 hM (λ_ _ h=>h.elim) (λ_ _ h=>h)) (bF.trans X.2 hMG (λ_ _ h=>h.elim) (λ_ _ h=>h)) hB⟩
theorem KP {rest:List (Oper×Nat)} {k:Nat} {f:FuncId} {fn:Func} {la:List Operand} {ats:Array TypeId} {lv yO:List Value} {R:Value→World→Prop} {d:Nat} (hf:P.funcs[f]? =some fn)
  (Xl:∀ x:bM w,gK P f lv.toArray (w.ah x) (λv w'=>R v w'∧bF G (w.ah x) w')) (h:∀ v w',R v w'→IV G P ops Q rest (fr ((d,v)::fl) A) w') (hd:o.dst=some d:=by rfl) (yL:o.op=.call {callee:=.value (.func f),args:=la.toArray,argTypes:=ats}:=by rfl) (hn:iC fn=true:=by kernel_rfl)
  (hg:o.guard=none:=by rfl) (mW:Is (la.map (fr fl A).eval) yO:=by go_simp;exact Is.mk _) (hlv:yO=lv:=by rfl) (hk:k=1∨k=2:=by first|exact .inl rfl|exact .inr rfl):IV G P ops Q ((o,k)::rest) (fr fl A) w:=by
 refine ahj hk (λx=>?_) hg
 unfold Bz
 rw[o9 hf hn yL,mW.eq,hlv]
 simp only[nH]
 refine Calls.mono (Fn.Dj (Xl x)) λe w' hR=>?_
 obtain⟨w0,hE,hR⟩:=hR
 cases e with
 | returned v=>exact⟨hR.2.ext hE,w0,hE,by rw[hd,lW];exact h v w0 hR.1⟩
 | panicked c=>exact hR.elim
 | outgrown=>exact hR.elim
theorem abI {rest:List (Oper×Nat)} {k:Nat} {f:FuncId} {fn:Func} {la:List Operand} {ats:Array TypeId} {lv yO:List Value} {v:Value} {d:Nat} (hf:P.funcs[f]? =some fn)
  (hc:∀ x:bM w,Pure P f lv.toArray (w.ah x) v) (h:IV G P ops Q rest (fr ((d,v)::fl) A) w) (hd:o.dst=some d:=by rfl) (yL:o.op=.call {callee:=.value (.func f),args:=la.toArray,argTypes:=ats}:=by rfl) (hn:iC fn=true:=by kernel_rfl)
  (hg:o.guard=none:=by rfl) (mW:Is (la.map (fr fl A).eval) yO:=by go_simp;exact Is.mk _) (hlv:yO=lv:=by rfl) (hk:k=1∨k=2:=by first|exact .inl rfl|exact .inr rfl):IV G P ops Q ((o,k)::rest) (fr fl A) w:=by
 refine ahj hk (λx=>?_) hg
 unfold Bz
 rw[o9 hf hn yL,mW.eq,hlv]
 simp only[nH]
 refine Calls.mono (Fn.Dj (hc x)) λe w' hR=>?_
 obtain⟨w0,hE,hR⟩:=hR
 cases e with
 | returned v'=>obtain⟨rfl,ny⟩:=hR;exact⟨(Et ny hE).aW,w,Et x.2 (Et ny hE),by rw[hd,lW];exact h⟩
 | panicked c=>exact hR.elim
 | outgrown=>exact hR.elim
end
attribute [irreducible] IV
end Go.Ws
namespace Go.Ws
open Go Go.RowKit Go.Proofs
set_option maxHeartbeats 4000000
set_option maxRecDepth 100000
set_option linter.unusedVariables false
set_option linter.unusedSimpArgs false
theorem abJ (a:Option Addr) (n c:Nat) (w:World):(binOp .eql 40 (.slice a n c) (.slice none 0 0)).run Tryz.prog w=.ok (.bool a.isNone) w:=by
 cases a<;>rfl
theorem qm {w:World} {v:Value} {l:List cZ} (hl:yQ w v l) (hn:l.length≤1000000):gK Tryz.prog 70 #[v] w λv' w'=>aB w w'∧BX w' v' l∧∀ b,v'.ownBlock=some b→w.heap.size≤b:=by
 have zu:=Zh hl
 obtain⟨A0,c,rfl,hc,jT,HA⟩:=hl
 clear HA
 cases A0 with
 | none=>
  have wF:l=[]:=by
   obtain⟨A',c',h1,_,_,h4⟩:=zu.out
   cases h1
   rcases h4 with⟨_,h⟩|⟨b,o,h,_⟩
   ·exact h
   ·cases h
  subst wF
  have g:=λw=>abJ none 0 c w
  refine Fi (n:=8) Tryz.func70 ?_;intro A hd hA;simp only[ix,Nat.reduceAdd]
  repeat'(first|refine aF ?_|refine au ?_|refine ak (λK hK=>?_)|refine aj ?_|refine aC ?_|refine bH ?_|go_step)
  exact aA hd ⟨by simp,dQ.nil _,by intro b hb;cases hb⟩
 | some a=>
  have g:=λw=>abJ (some a) l.length c w
  refine Fi (n:=8) Tryz.func70 ?_;intro A hd hA;simp only[ix,Nat.reduceAdd]
  repeat'(first|refine aF ?_|refine au ?_|refine ak (λK hK=>?_)|refine aj ?_|refine aG ?_|(refine dI (λx K hK=>?_);go_simp;refine hK _ _ (aB.alloc _ _) ?_;clear hK K;refine aZ x ?_;generalize (World.ah _ x).heap.size=bn;intro yn aU bD bC bG aS;clear x)|refine bJ ?_|go_step)
  refine nZ (xs:=[]) JO (dQ.empty aS.out) (zu.out.ah (by simp)) (by simp;omega) (by unfold maxLen;simp;omega) (λv' W' hM hO hF _=>?_)
  repeat'(first|refine aF ?_|refine au ?_|refine aC ?_|go_step)
  refine aA hd ⟨aB.bK yn.2 hM (λb hb=>by cases hb;exact aU),hO,λb hb=>?_⟩
  have hs:w.heap.size≤(w.ah yn).heap.size:=yn.2.size
  rcases hF with h|⟨g,h,hg⟩
  ·rw[h]at hb;cases hb;exact aU
  ·rw[h]at hb;cases hb;omega
theorem Dz {w:World} {b:Nat} {F:Nat→Prop} {s:aI} (h:oD w b F s) (hs:s.least≠0) (hn:s.log.length≤1000000):gK Tryz.prog 21 #[.pointer (some ⟨b,0,none⟩)] w λv' w'=>aB w w'∧BX w' v' s.log∧∀ b,v'.ownBlock=some b→w.heap.size≤b:=by
 have HP:=Zh h
 obtain⟨uL,uI,uC,h,hf⟩:=h.ex
 have H:=Zh h
 obtain⟨hlt,-,-,-,-,-,-,-,-,d12,-,-⟩:=h.cells
 obtain⟨A1,c1,rfl,-⟩:=h.IU.ent
 clear h hf
 refine Fi (n:=10) Tryz.func21 ?_;intro A hd hA;simp only[ix,Nat.reduceAdd]
 repeat'(first|refine aN Tryz.func69 (jK (HP.out.ah (by simp)) hs) ?_|refine aF ?_|refine au ?_|refine ak (λK hK=>?_)|refine aj ?_|refine aG ?_|refine bJ ?_|go_step)
 refine aX Tryz.func70 (qm H.out.IU hn) (λr w1 hR=>?_)
 repeat'(first|refine aF ?_|refine au ?_|refine aC ?_|go_step)
 exact aA hd hR
structure pW where
 mD:Int
 epoch:Int
 offset:Int
 last:Int
 flushed:Int
abbrev pW.cs (f:pW):List Value:=[.int .i64 f.mD,.int .i64 f.epoch,.int .i64 f.offset,.int .i64 f.last,.int .i64 f.flushed]
abbrev pW.v (f:pW):Value:=.agg #[.int .i64 f.mD,.int .i64 f.epoch,.int .i64 f.offset,.int .i64 f.last,.int .i64 f.flushed]
def aI.Us (s:aI):pW:=⟨s.self,s.epoch,s.log.length,gZ s.log,s.flushed⟩
theorem ahk {w:World} {b:Nat} {F:Nat→Prop} {s:aI} (h:oD w b F s) (hs:s.least≠0) (hm:vZ s.log=true) (hr:s.role=2):gK Tryz.prog 112 #[.pointer (some ⟨b,0,none⟩)] w λv w'=>v=.tuple #[s.Us.v,.int .i64 0]∧aB w w':=by
 have HP:=Zh h
 obtain⟨uL,uI,uC,h,hf⟩:=h.ex
 have H:=Zh h
 obtain⟨hlt,-,-,-,-,d8,-,d10,d11,d12,d13,-⟩:=h.cells
 obtain⟨A1,c1,rfl,-⟩:=h.IU.ent
 clear h hf
 have hrb:(s.role==2)=true:=by simp[hr]
 refine uh Tryz.func112 rfl (Nat.le_of_ble_eq_true rfl) ?_;intro A hd hA;simp only[ix,Nat.reduceAdd];replace hA:A.tmps.size=38:=hA
 repeat'(first|refine au ?_|refine ak (λK hK=>?_)|refine aj ?_|(refine dI (λx K hK=>?_);go_simp;refine hK _ _ (aB.alloc _ _) ?_;clear hK K;refine aZ x ?_;generalize (World.ah _ x).heap.size=bn;intro yn aU bD bC bG aS;clear x)|go_step)
 rename_i bv yv p1 p2 p3 p4 p5
 refine um (be:=bn) hd hA (λW hE=>by unfold execOp gI;go_simp) ?_;have wL:=Zh (cO.one aS.out);clear hd hA A;intro A hd hA
 have hbv:=Zh (cO.new p5.out)
 repeat'(first|refine aN Tryz.func69 (jK (HP.out.ah (by simp)) hs) ?_|refine aN Tryz.func161 (dZ _) ?_|refine aF ?_|refine au ?_|refine ak (λK hK=>?_)|refine aj ?_|go_step)
 have jm:bv≠bn:=by have:=hbv.out.lt;omega
 obtain⟨G,hG⟩:∃ G:Nat→Prop,G=(λk=>k=bv∨k=bn):=⟨_,rfl⟩
 have hGb:¬ G b:=by subst hG;simp;omega
 have HGv:Hid (G bv):=Zh (by subst hG;exact .inl rfl)
 have HGn:Hid (G bn):=Zh (by subst hG;exact .inr rfl)
 have HGw:Hid (∀k,G k→w.heap.size≤k):=Zh (by subst hG;intro k hk;rcases hk with rfl|rfl<;>omega)
 clear hG
 have HE:=Zh (by simp:aB w ((w.ah yv).ah yn))
 have HX:=Zh (hbv.out.ah yn.2)
 clear hbv
 refine xZ G [(0,0),(1,0),(2,0),(3,0),(4,0),(5,0),(6,0),(7,0),(8,0),(9,0),(10,0),(11,0),(12,0),(13,0),(15,0),(16,0),(17,0),(18,0),(14,1),(19,2),(20,0),(21,2),(22,0),(23,2),(24,0),(25,2),(26,0),(27,2),(28,0),(29,2),(30,2)] (by kernel_rfl) (by kernel_rfl) ?_
 repeat'(first|refine abI Tryz.func162 (λx=>Cm (HP.out.ah (by simp)) hm) ?_|refine Jy ?_|fail)
 refine kM (off:=0) HX.out HGv.out (λW1 hM Nb hB=>?_)
 have oV:=Zh (wL.out.aW hM (λh=>jm h.symm));have HX:=Zh hB;have YQ:=Zh Nb;clear hM hB Nb wL
 repeat'(first|refine Jy ?_|fail)
 refine kM (off:=0) HX.out HGv.out (λW2 hM Nb hB=>?_)
 have oV:=Zh (oV.out.aW hM (λh=>jm h.symm));have HX:=Zh hB;have YQ:=Zh (YQ.out.mO Nb);clear hM hB Nb
 repeat'(first|refine Jy ?_|fail)
 refine kM (off:=1) HX.out HGv.out (λW3 hM Nb hB=>?_)
 have oV:=Zh (oV.out.aW hM (λh=>jm h.symm));have HX:=Zh hB;have YQ:=Zh (YQ.out.mO Nb);clear hM hB Nb
 repeat'(first|refine Jy ?_|fail)
 refine kM (off:=2) HX.out HGv.out (λW4 hM Nb hB=>?_)
 have oV:=Zh (oV.out.aW hM (λh=>jm h.symm));have HX:=Zh hB;have YQ:=Zh (YQ.out.mO Nb);clear hM hB Nb
 repeat'(first|refine Jy ?_|fail)
 refine kM (off:=3) HX.out HGv.out (λW5 hM Nb hB=>?_)
 have oV:=Zh (oV.out.aW hM (λh=>jm h.symm));have HX:=Zh hB;have YQ:=Zh (YQ.out.mO Nb);clear hM hB Nb
 repeat'(first|refine Jy ?_|fail)
 refine kM (off:=4) HX.out HGv.out (λW6 hM Nb hB=>?_)
 have oV:=Zh (oV.out.aW hM (λh=>jm h.symm));have HX:=Zh hB;have YQ:=Zh (YQ.out.mO Nb);clear hM hB Nb
 skip
 refine kM (off:=0) oV.out HGn.out (λW7 hM Nb hB=>?_)
 have HX:=Zh (HX.out.aW hM jm);have oV:=Zh hB;have YQ:=Zh (YQ.out.mO Nb);clear hM hB Nb
 repeat'(first|refine Eh ?_)
 repeat'(first|refine aC ?_|go_step)
 refine F9 (cs:=s.Us.cs) hd (oV.out.congr (g':=λ_=>.int .i64 0) (λk hk=>by obtain rfl:k=0:=(by omega);rfl)) HX.out ?_ ⟨rfl,aB.bK HE.out YQ.out HGw.out⟩ Tryz.underlying96
 intro k hk
 simp only[List.length_cons,List.length_nil]at hk
 obtain rfl|rfl|rfl|rfl|rfl:k=0∨k=1∨k=2∨k=3∨k=4:=by omega
 all_goals rfl
theorem ahl {w:World} {b:Nat} {F:Nat→Prop} {s:aI} (h:oD w b F s) (hs:s.least≠0) (hr:s.role≠2):gK Tryz.prog 112 #[.pointer (some ⟨b,0,none⟩)] w λv w'=>v=.tuple #[(pW.mk 0 0 0 0 0).v,.int .i64 211]∧aB w w':=by
 have HP:=Zh h
 obtain⟨uL,uI,uC,h,hf⟩:=h.ex
 obtain⟨hlt,-,-,-,-,d8,-,d10,d11,d12,d13,-⟩:=h.cells
 clear h hf
 have hrb:(s.role==2)=false:=by simp[hr]
 refine uh Tryz.func112 rfl (Nat.le_of_ble_eq_true rfl) ?_;intro A hd hA;simp only[ix,Nat.reduceAdd];replace hA:A.tmps.size=38:=hA
 repeat'(first|refine au ?_|refine ak (λK hK=>?_)|refine aj ?_|(refine dI (λx K hK=>?_);go_simp;refine hK _ _ (aB.alloc _ _) ?_;clear hK K;refine aZ x ?_;generalize (World.ah _ x).heap.size=bn;intro yn aU bD bC bG aS;clear x)|go_step)
 rename_i bv yv p1 p2 p3 p4 p5
 refine um (be:=bn) hd hA (λW hE=>by unfold execOp gI;go_simp) ?_;have wL:=Zh (cO.one aS.out);clear hd hA A;intro A hd hA
 have jm:bv≠bn:=by omega
 have hbv:=Zh ((cO.new p5.out).ah yn.2)
 repeat'(first|refine aN Tryz.func69 (jK (HP.out.ah (by simp)) hs) ?_|refine aN Tryz.func161 (dZ 1) ?_|refine aF ?_|refine au ?_|refine ak (λK hK=>?_)|refine aj ?_|go_step)
 refine AZ Tryz.func161 (jD 211) (λc w' hC=>?_)
 obtain⟨rfl,hE⟩:=hC
 refine uS (cs:=(pW.mk 0 0 0 0 0).cs) hd (wL.out.ah hE) (hbv.out.ah hE) ?_ jm (λW1 hM=>⟨rfl,aB.bK (Et (by simp) hE:aB w w') hM (λk hk=>by subst hk;omega)⟩) Tryz.underlying96
 intro k hk
 simp only[List.length_cons,List.length_nil]at hk
 obtain rfl|rfl|rfl|rfl|rfl:k=0∨k=1∨k=2∨k=3∨k=4:=by omega
 all_goals rfl
def aI.lI (self least:Int):aI:=⟨self,least,1,0,[],0,0,0,0,[],[],λ_=>0⟩
def pF (self least:Int):Bool:=rZ self 0 3&&rZ least 1 4
theorem YR {w:World} (self least:Int) (h:pF self least=true):gK Tryz.prog 43 #[.int .i64 self,.int .i64 least] w λv w'=>∃ b,v=.tuple #[.pointer (some ⟨b,0,none⟩),.int .i64 0]∧aB w w'∧w.heap.size≤b∧oD w' b (λk=>w.heap.size≤k) (aI.lI self least):=by
 simp only[pF,Bool.and_eq_true]at h
 obtain⟨h1,h2⟩:=h
 have h3:1≤least:=by simp[rZ]at h2;omega
 have h4:least≤4:=by simp[rZ]at h2;omega
 have h3b:¬ least<1:=by omega
 have h4b:¬ 4<least:=by omega
 refine Fi (n:=21) Tryz.func43 ?_;intro A hd hA;simp only[ix,Nat.reduceAdd]
 repeat'(first|refine aF ?_|refine au ?_|refine ak (λK hK=>?_)|refine aj ?_|go_step)
 refine zO ?_
 repeat'(first|refine aN Tryz.func107 (h1▸jJ self _) ?_|refine dw ?_|refine aF ?_|refine au ?_|refine ak (λK hK=>?_)|refine aj ?_|refine aC ?_|refine aG ?_|(refine dI (λx K hK=>?_);go_simp;refine hK _ _ (aB.alloc _ _) ?_;clear hK K;refine aZ x ?_;generalize (World.ah _ x).heap.size=bn;intro yn aU bD bC bG aS;clear x)|refine bJ ?_|go_step)
 refine dB hd ⟨_,rfl,by simp,by first|assumption|omega,_,_,_,⟨(cO.new aS.out).congr (tK (by refine⟨?_,?_,?_,?_,?_,?_,?_,?_,?_,?_,?_,?_,?_,?_,?_⟩<;>rfl)),dQ.nil _,JQ.nil _,JQ.nil _,by simp[Value.ownBlock],by simp[Value.ownBlock],by simp[Value.ownBlock],by intro k hk;cases hk⟩,?_⟩
 rintro k (rfl|hk|hk|hk)
 ·first|assumption|omega
 ·cases hk
 ·cases hk
 ·cases hk
theorem YS {w:World} (self least:Int) (h:pF self least=false):Pure Tryz.prog 43 #[.int .i64 self,.int .i64 least] w (.tuple #[.pointer none,.int .i64 2]):=by
 by_cases h1:rZ self 0 3=true
 ·have h2:¬ (1≤least∧least≤4):=λh2=>by rw[pF,h1,Bool.true_and]at h;simp[rZ]at h;omega
  by_cases h3:least<1
  ·refine Fi (n:=21) Tryz.func43 ?_;intro A hd hA;simp only[ix,Nat.reduceAdd]
   repeat'(first|refine aF ?_|refine au ?_|refine ak (λK hK=>?_)|refine aj ?_|go_step)
   refine yS 0 rfl ?_
   repeat'(first|refine aN Tryz.func107 (h1▸jJ self _) ?_|refine dw ?_|refine aF ?_|refine mg ?_|refine au ?_|refine ak (λK hK=>?_)|refine aj ?_|refine bH ?_|go_step)
   refine EF ?_
   refine And.intro rfl ?_
   repeat'(first|refine aF ?_|refine au ?_|refine ak (λK hK=>?_)|refine aj ?_|refine aC ?_|refine aG ?_|go_step)
   exact dB hd ⟨rfl,by simp⟩
  ·have h4:4<least:=by omega
   refine Fi (n:=21) Tryz.func43 ?_;intro A hd hA;simp only[ix,Nat.reduceAdd]
   repeat'(first|refine aF ?_|refine au ?_|refine ak (λK hK=>?_)|refine aj ?_|go_step)
   refine yS 0 rfl ?_
   repeat'(first|refine aN Tryz.func107 (h1▸jJ self _) ?_|refine dw ?_|refine aF ?_|refine au ?_|refine ak (λK hK=>?_)|refine aj ?_|refine bH ?_|go_step)
   refine EF ?_
   refine And.intro rfl ?_
   repeat'(first|refine aF ?_|refine au ?_|refine ak (λK hK=>?_)|refine aj ?_|refine aC ?_|refine aG ?_|go_step)
   exact dB hd ⟨rfl,by simp⟩
 ·have h1f:rZ self 0 3=false:=by simpa using h1
  refine Fi (n:=21) Tryz.func43 ?_;intro A hd hA;simp only[ix,Nat.reduceAdd]
  repeat'(first|refine aF ?_|refine au ?_|refine ak (λK hK=>?_)|refine aj ?_|go_step)
  refine yS 0 rfl ?_
  repeat'(first|refine aN Tryz.func107 (h1f▸jJ self _) ?_|refine aF ?_|refine mg ?_|refine au ?_|refine ak (λK hK=>?_)|refine aj ?_|refine bH ?_|go_step)
  refine EF ?_
  refine And.intro rfl ?_
  repeat'(first|refine aF ?_|refine au ?_|refine ak (λK hK=>?_)|refine aj ?_|refine aC ?_|refine aG ?_|go_step)
  exact dB hd ⟨rfl,by simp⟩
def aI.crash (s:aI) (dY:Int):aI×Int:=
 if dY<0 then(s,2) else
  let n:=iD (s.log.length:Int) (s.flushed+iD dY 4096)
  ({s with version:=0,qM:=0,isr:=[],counts:=[],known:=λ_=>0,log:=s.log.take n.toNat,flushed:=n,high:=iD s.high n,role:=1},0)
theorem abK {w:World} {b:Nat} {F:Nat→Prop} {s:aI} (h:oD w b F s) (hs:s.least≠0) (hl:s.log.length≤4096) (hf0:0≤s.flushed) (NW:s.flushed≤s.log.length) (dY:Int) (hk:0≤dY):
  gK Tryz.prog 114 #[.pointer (some ⟨b,0,none⟩),.int .i64 dY] w λr w'=>r=.int .i64 0∧bF F w w'∧oD w' b (λk=>F k∨w.heap.size≤k) (s.crash dY).1:=by
 refine h.Yk (R:=λr _=>r=.int .i64 0) ?_
 intro F h RV
 have FC:=Zh h.yK
 have UG:=Zh RV
 clear RV
 have HP:=Zh h
 obtain⟨uL,uI,uC,h,hf⟩:=h.ex
 have H:=Zh h
 have BA:=Zh hf
 obtain⟨hlt,-,-,-,-,d8,-,d10,d11,d12,d13,DR⟩:=h.cells
 obtain⟨A1,c1,rfl,Na,Jr,-⟩:=h.IU.ent
 have zM:=Zh h.lt
 clear h hf
 obtain⟨n,hn⟩:∃ n:Nat,(n:Int)=iD (s.log.length:Int) (s.flushed+iD dY 4096):=by
  refine⟨(iD (s.log.length:Int) (s.flushed+iD dY 4096)).toNat,?_⟩
  rw[jE,jE];omega
 have hnl:n≤s.log.length:=by rw[jE,jE]at hn;omega
 have hcr:(s.crash dY).1={s with version:=0,qM:=0,isr:=[],counts:=[],known:=λ_=>0,log:=s.log.take n,flushed:=n,high:=iD s.high n,role:=1}:=by
  unfold aI.crash
  rw[if_neg (by omega)]
  simp only[←hn]
  rfl
 rw[hcr]
 clear hcr
 have hnn:(if(s.flushed+if 4096<dY then 4096 else dY)<(s.log.length:Int) then s.flushed+if 4096<dY then 4096 else dY else(s.log.length:Int))=(n:Int):=by rw[hn];unfold iD;rfl
 clear hn
 have Hl:n≤c1:=by omega
 have hk0:¬ dY<0:=by omega
 have O7:decide (0≤dY)=true:=by simpa using hk
 refine uh Tryz.func114 rfl (Nat.le_of_ble_eq_true rfl) ?_;intro A hd hA;simp only[ix,Nat.reduceAdd];replace hA:A.tmps.size=56:=hA
 repeat'(first|refine au ?_|refine ak (λK hK=>?_)|refine aj ?_|(refine dI (λx K hK=>?_);go_simp;refine hK _ _ (aB.alloc _ _) ?_;clear hK K;refine aZ x ?_;generalize (World.ah _ x).heap.size=bn;intro yn aU bD bC bG aS;clear x)|go_step)
 refine um (be:=bn) hd hA (λW hE=>by unfold execOp gI;go_simp) ?_;have wL:=Zh (cO.one aS.out);clear hd hA A;intro A hd hA
 repeat'(first|refine aN Tryz.func69 (jK (HP.out.ah (by simp)) hs) ?_|refine aN Tryz.func161 (dZ _) ?_|refine aF ?_|refine au ?_|refine ak (λK hK=>?_)|refine aj ?_|go_step)
 refine dA (by kernel_rfl) (by kernel_rfl) ?_
 repeat'(first|refine aF ?_|refine aQ ?_|refine ak (λK hK=>?_)|refine aj ?_|go_step)
 refine aX Tryz.func70 (qm ((H.out.IU.take n hnl).ah (by simp)) (by simp;omega)) (λr w1 hR=>?_)
 have HR:=Zh hR
 obtain⟨y1,rfl⟩:=hR.1.get
 clear hR
 repeat'(first|refine aF ?_|fail)
 have HY:=Zh (And.intro aU (And.intro y1.2 (Et yn.2 y1.2)))
 have HN2:=Zh bD
 have oV:=Zh (wL.out.ah y1.2)
 have XM:=Zh (H.out.ah (Et yn.2 y1.2))
 obtain⟨Ar,mr,cr,rfl⟩:=aT HR.out.2.1
 have Kq:∀ k,(Value.slice Ar mr cr).ownBlock=some k→w.heap.size≤k:=λk hk=>Nat.le_trans yn.2.size (HR.out.2.2 k hk)
 have Ot:=Zh Kq
 clear Kq wL aU bD bC bG aS
 refine aY (off:=12) XM.out.gy (λW1 fM nU=>?_)
 have Kv:=Zh (XM.out.aj3 fM nU (HR.out.2.1.aW fM (λk hk he=>by subst he;have:=Ot.out _ hk;omega)) (λhk=>by have:=Ot.out _ hk;omega) (λk hk=>⟨λh=>by have:=Ot.out _ hk;have:=zM.out k (.inr (.inr (.inl h)));omega,λh=>by have:=Ot.out _ hk;have:=zM.out k (.inr (.inr (.inr h)));omega⟩))
 have HM:=Zh (bF.trans HY.out.2.2 fM (λ_ _ h=>h.elim) (λ_ _ h=>h):bF (· =b) w W1)
 have oV:=Zh (oV.out.aW fM (λh=>by have:=HY.out.1;omega))
 clear fM nU
 obtain⟨Dt,-,-,-,-,-,-,-,-,-,e13,e14⟩:=Kv.out.cells
 have aiO:(if(n:Int)<s.high then(n:Int) else s.high)=iD s.high n:=rfl
 repeat'(first|refine aF ?_|refine au ?_|refine ak (λK hK=>?_)|refine aj ?_|go_step)
 refine aY (off:=13) Kv.out.gy (λW2 kL Fh=>?_)
 have HA2:=Zh (Kv.out.Vh kL Fh)
 have HM:=Zh (HM.out.mO kL)
 have oV:=Zh (oV.out.aW kL (λh=>by have:=HY.out.1;omega))
 clear kL Fh
 repeat'(first|refine aF ?_|fail)
 refine aY (off:=14) HA2.out.gy (λW3 jd ru=>?_)
 have Oo:=Zh (HA2.out.PU jd ru)
 have HM:=Zh (HM.out.mO jd)
 have oV:=Zh (oV.out.aW jd (λh=>by have:=HY.out.1;omega))
 clear jd ru
 repeat'(first|refine aF ?_|refine au ?_|refine ak (λK hK=>?_)|refine aj ?_|go_step)
 refine aY (off:=10) Oo.out.gy (λW4 wO FK=>?_)
 have QK:=Zh (Oo.out.F6 wO FK)
 have HM:=Zh (HM.out.mO wO)
 have oV:=Zh (oV.out.aW wO (λh=>by have:=HY.out.1;omega))
 clear wO FK
 repeat'(first|refine aF ?_|fail)
 refine aY (off:=0) QK.out.gy (λW5 kJ pX=>?_)
 have HA5:=Zh (QK.out.XK kJ pX)
 have HM:=Zh (HM.out.mO kJ)
 have oV:=Zh (oV.out.aW kJ (λh=>by have:=HY.out.1;omega))
 clear kJ pX
 repeat'(first|refine au ?_|refine ak (λK hK=>?_)|refine aj ?_|go_step)
 refine aY (off:=0) oV.out (λW6 jP nY=>?_)
 have HA6:=Zh (HA5.out.aW jP (λk hk he=>by subst he;have:=HY.out.1;rcases hk with h|h|h|h;(have:=HY.out.1;omega);(have:=HR.out.2.2 _ h;have:=HN2.out;omega);cases h;cases h))
 have gQ:=Zh nY
 have Jv:=Zh jP
 clear jP nY
 repeat'(first|refine au ?_|refine aC ?_|go_step)
 refine zJ hd (gQ.out.congr (g':=λ_=>.int .i64 0) (λk hk=>by obtain rfl:k=0:=(by omega);rfl)) ⟨rfl,?_,_,_,_,HA6.out,?_⟩
 ·exact bF.trans HM.out Jv.out (λk _ h=>by subst h;exact FC.out) (λk hk h=>by subst h;have:=HY.out.1;omega)
 ·rintro k (rfl|hk|hk|hk)
  ·exact .inl FC.out
  ·exact .inr (Ot.out k hk)
  ·cases hk
  ·cases hk
def IX (l:List cZ) (i:Int):Int:=l.foldl (λn e=>if e.id=i then max n e.num else n) 0
def Ou (l:List cZ) (i:Int):Int:=l.foldl (λn e=>if e.id=i∧1<e.kind then max n e.num else n) 0
def Gf (l:List cZ) (i num:Int):Int:=l.foldl (λn e=>if e.id=i∧e.num=num∧e.kind=1 then max n (e.seq+1) else n) 0
theorem nO (a b:Int):ku a b=max a b:=by unfold ku;rw[Int.max_def];split<;>split<;>omega
theorem KQ (l:List cZ) (e:cZ) (i:Int):IX (l++[e]) i=if e.id=i then max (IX l i) e.num else IX l i:=by simp[IX,List.foldl_append]
theorem Vp (l:List cZ) (e:cZ) (i:Int):Ou (l++[e]) i=if e.id=i∧1<e.kind then max (Ou l i) e.num else Ou l i:=by simp[Ou,List.foldl_append]
theorem KR (l:List cZ) (e:cZ) (i num:Int):Gf (l++[e]) i num=if e.id=i∧e.num=num∧e.kind=1 then max (Gf l i num) (e.seq+1) else Gf l i num:=by simp[Gf,List.foldl_append]
theorem XO (l:List cZ) (i:Int):(kV l i).high=IX l i:=by
 induction l using xX with
 | h0=>rfl
 | hs l e ih=>
  rw[kT,KQ]
  by_cases hi:e.id=i
  ·rw[if_pos hi,if_pos hi,←ih,←nO]
   unfold Wr.step
   split<;>rfl
  ·rw[if_neg hi,if_neg hi,ih]
theorem YT (l:List cZ) (i:Int):(∀e∈l,1≤e.kind)→(kV l i).fO=Ou l i:=by
 induction l using xX with
 | h0=>intro _;rfl
 | hs l e ih=>
  intro hk
  have ih:=ih (λx hx=>hk x (by simp[hx]))
  have he:=hk e (by simp)
  rw[kT,Vp]
  by_cases hi:e.id=i
  ·rw[if_pos hi]
   unfold Wr.step
   by_cases h1:e.kind≠1
   ·rw[if_pos h1,if_pos ⟨hi,by omega⟩,←ih,←nO]
   ·have h2:¬ (e.id=i∧1<e.kind):=λh=>by have:=h.2;omega
    rw[if_neg h1,if_neg h2,←ih]
  ·rw[if_neg hi,if_neg (λh=>hi h.1),ih]
theorem aeG (l:List cZ) (i num:Int):((kV l i).next num).getD 0=Gf l i num:=by
 induction l using xX with
 | h0=>rfl
 | hs l e ih=>
  rw[kT,KR]
  by_cases hi:e.id=i
  ·rw[if_pos hi]
   unfold Wr.step
   by_cases h1:e.kind≠1
   ·rw[if_pos h1,if_neg (λh=>h1 h.2.2),←ih]
   ·rw[if_neg h1]
    simp only[yu]
    by_cases hn:num=e.num
    ·subst hn
     rw[if_pos rfl,if_pos ⟨hi,rfl,by omega⟩,←ih,←nO];rfl
    ·rw[if_neg hn,if_neg (λh=>hn h.2.1.symm),ih]
  ·rw[if_neg hi,if_neg (λh=>hi h.1),ih]
def KT (os:List Opn) (num:Int):Bool:=os.any λo=>o.num != num
def YU (H N M:Int) (O:Bool) (e:cZ):Int:=
 if 1<e.kind then(if e.num≤M then 183 else if e.num<H then 181 else if O=true then 181 else 0)
 else if e.num≤M then 181 else if e.num<H then 181 else if O=true then 182
 else if e.num=H then(if e.seq<N then 183 else if N<e.seq then 184 else 0)
 else(if e.seq<0 then 183 else if 0<e.seq then 184 else 0)
def mG (l:List cZ) (e:cZ):Int:=
 if bY l e≠0 then bY l e else if e.id<0 then 0
 else YU (IX l e.id) (Gf l e.id (IX l e.id)) (Ou l e.id) (KT (Ht l e.id) e.num) e
theorem KU {b:Nat} {w:World} {u:Value} {l:List cZ} {m0 m1:Nat} (hS:aaB w b u l) (e:cZ) (bT:bY l e=0) {i:Nat} (hid:e.id=i) (hi:i<4) (hat:Jw w b (1+i *5) (kV l i) m0 m1) (cond:Nat→Bool) (r:Int)
  (hw:∀ k p,(pV (e.kind==1))[k]? =some p→(p.2=0↔False)∧(∃fn,Tryz.prog.funcs[p.1]? =some fn∧iC fn=true)∧∀ w',aB w w'→RI p.1 b (1+i *5) e w' (cond k))
  (h1:∀ k p,(pV (e.kind==1))[k]? =some p→(∀j,j<k→cond j=false)→cond k=true→r=p.2) (h0:(∀j,j<(pV (e.kind==1)).length→cond j=false)→r=0):
  Pure Tryz.prog 183 #[.pointer (some ⟨b,0,none⟩),e.v] w (.int .i64 r):=by
 obtain⟨ep,eid,enum,abL,Ov,eval⟩:=e
 simp only at hid
 subst hid
 have HW:=Zh hw
 have H1:=Zh h1
 have H0:=Zh h0
 have Js:=hS.1
 have hi4:(i:Int)<4:=by omega
 have hii:¬ (i:Int)<0:=by omega
 have D6:=Zh (λw' (hE:aB w w')=>(bT▸Dy (hS.ah hE) (⟨ep,(i:Int),enum,abL,Ov,eval⟩:cZ):Pure Tryz.prog 229 #[.pointer (some ⟨b,0,none⟩),(⟨ep,(i:Int),enum,abL,Ov,eval⟩:cZ).v] w' (.int .i64 0)))
 clear hw h1 h0 hS bT hat
 simp only at HW H1 H0
 generalize hdt:(Ov==1)=data at *
 refine Fi (n:=41) Tryz.func183 ?_;intro A hd hA;simp only[ix,Nat.reduceAdd]
 repeat'(first|refine aN Tryz.func229 (D6.out _ (by simp)) ?_|(refine aea ?_)|(refine zO ?_)|refine dw ?_|refine aF ?_|refine au ?_|refine ak (λK hK=>?_)|refine aj ?_|refine aG ?_|(refine dI (λx K hK=>?_);go_simp;refine hK _ _ (aB.alloc _ _) ?_;clear hK K;refine aZ x ?_;generalize (World.ah _ x).heap.size=bn;intro yn aU bD bC bG aS;clear x)|refine bJ ?_|go_step)
 rename Nat=>be
 rename bM w=>ye
 have ge:cO (w.ah ye) be 102 6 _:=cO.new aS.out
 clear bC bG aS
 refine aX Tryz.func230 (Nk data) (λv' w1 hR=>?_)
 obtain⟨kY,g,rfl,hg,abM⟩:=hR
 have GE:=Zh (ge.ah kY)
 have qO:=Zh (Et ye.2 kY)
 have HR:=Zh abM
 have wL:be<w1.heap.size:=by have:=kY.size;have:(w.ah ye).heap.size≤w1.heap.size:=this;omega
 clear kY abM ge
 repeat'(first|refine aF ?_|refine au ?_|refine aJ ?_|go_step)
 have iR:(pV data).length≤4:=by cases data<;>simp[pV]
 refine dJ [0,3,5,22,23,24] (λn vs W=>∃ k:Nat,aB w1 W∧k+n=(pV data).length∧vs=[.pointer (some ⟨b,0,none⟩),.pointer (some ⟨be,0,none⟩),.int .i64 0,.slice (some ⟨g,0,none⟩) (pV data).length (pV data).length,.int .i64 (pV data).length,.int .i64 k]∧
  ∀j,j<k→cond j=false) (pV data).length hd hA (by decide) ⟨0,aB.refl _,by omega,by simp,by intro j hj;omega⟩ ?_
 clear hd hA A;intro n2 vs B W hd hA _ ⟨k,hE,hk,jk,Bq⟩;subst jk
 simp only[List.zip_cons_cons,List.zip_nil_right,List.zip_nil_left]
 have HC:=Zh Bq
 have xP:=Et qO.out hE
 obtain⟨t0,t1,t2,t3,t4,t5⟩:W.cell? ⟨be,0,none⟩=some (.int .i64 ep)∧W.cell? ⟨be,1,none⟩=some (.int .i64 i)∧W.cell? ⟨be,2,none⟩=some (.int .i64 enum)∧W.cell? ⟨be,3,none⟩=some (.int .i64 abL)∧W.cell? ⟨be,4,none⟩=some (.int .i64 Ov)∧W.cell? ⟨be,5,none⟩=some (.int .i64 eval):=by
  have G:=GE.out.ah hE
  exact⟨G.cell (k:=0) (by omega),G.cell (k:=1) (by omega),G.cell (k:=2) (by omega),G.cell (k:=3) (by omega),G.cell (k:=4) (by omega),G.cell (k:=5) (by omega)⟩
 have akg:be<W.heap.size:=Nat.lt_of_lt_of_le wL hE.size
 have hbW:b<W.heap.size:=Nat.lt_of_lt_of_le Js xP.size
 have hgW:g<W.heap.size:=Nat.lt_of_lt_of_le hg hE.size
 by_cases hlt:k<(pV data).length
 ·obtain⟨p,hp⟩:∃ p,(pV data)[k]? =some p:=⟨_,List.getElem?_eq_getElem hlt⟩
  obtain⟨v,hv,af8⟩:=HR.out k p hp
  obtain⟨a,c,rfl,ha,hc,ha2,Jr⟩:=af8.ah hE
  have hvW:W.cell? ⟨g,k,none⟩=some (.func (.func 263) #[] #[.pointer (some ⟨a,0,none⟩),.pointer (some ⟨c,0,none⟩)]):=by rw[bI hE hg (λh=>h)];exact hv
  obtain⟨hp0,⟨fn,hfn,Jq⟩,akh⟩:=HW.out k p hp
  have sZ:(k:Int)<(pV data).length:=by omega
  have lX:=Zh hE
  have HEw:=Zh xP
  have al5:=Zh (λW' (hEE:aB W W')=>Vj (w:=W') (E:=p.2) (b:=b) (o:=1+i *5) (e:=⟨ep,(i:Int),enum,abL,Ov,eval⟩) (v:=cond k) hfn Jq (Nat.lt_of_lt_of_le ha hEE.size) (Nat.lt_of_lt_of_le hc hEE.size)
   (by rw[bI hEE ha (λh=>h)];exact ha2) (by rw[bI hEE hc (λh=>h)];exact Jr) (λw' yI=>akh w' (Et xP (Et hEE yI))))
  clear hE xP hv af8 akh hfn Jq ha2 Jr Bq
  refine ak (λK hK=>?_)
  repeat'(first|refine aF ?_|refine au ?_|refine ak (λK hK=>?_)|refine aj ?_|refine aG ?_|refine aJ ?_|refine bH ?_|go_step)
  refine dA (by kernel_rfl) (by kernel_rfl) ?_
  repeat'(first|refine aF ?_|fail)
  refine dM (lv:=[.pointer (some ⟨b,1+i *5,none⟩),(⟨ep,(i:Int),enum,abL,Ov,eval⟩:cZ).v]) (first:= #[]) (captured:= #[.pointer (some ⟨a,0,none⟩),.pointer (some ⟨c,0,none⟩)]) Tryz.func263 (al5.out _ (by simp)) (λv' w2 hR=>?_)
  obtain⟨rfl,iU⟩:=hR
  have rO:=Zh (Et lX.out (Et (by simp) iU))
  have aoc:=Zh (Et HEw.out (Et (by simp) iU))
  clear iU
  cases D7:cond k
  ·simp only[D7,Bool.false_eq_true,if_false]
   repeat'(first|refine aF ?_|refine aQ ?_|refine au ?_|refine ak (λK hK=>?_)|refine aj ?_|refine aG ?_|refine bJ ?_|go_step)
   refine⟨_,_,rfl,hd,hA,n2-1,by omega,k+1,rO.out,by omega,by simp,λj hj=>?_⟩
   by_cases UJ:j=k
   ·rw[UJ];exact D7
   ·exact HC.out j (by omega)
  ·simp only[D7,if_true]
   have hp2:p.2≠0:=λh=>(hp0.1 h)
   have aqy:=H1.out k p hp HC.out D7
   rw[aqy]
   have hb2:(p.2==0)=false:=by simpa using hp2
   generalize p.2=E at *
   repeat'(first|refine aF ?_|refine aQ ?_|refine au ?_|refine ak (λK hK=>?_)|refine aj ?_|refine aC ?_|refine aG ?_|refine dS ?_|refine rE (λhc=>?_) (λhc=>?_)|go_step)
   ·exact aA hd ⟨rfl,aoc.out⟩
   ·exact absurd (by simpa using hc) hp2
 ·obtain rfl:k=(pV data).length:=by omega
  have hr0:=H0.out HC.out
  subst hr0
  have HEw:=Zh xP
  clear hE xP
  repeat'(first|refine aF ?_|refine au ?_|refine ak (λK hK=>?_)|refine aj ?_|refine aC ?_|refine dS ?_|refine bJ ?_|go_step)
  exact aA hd ⟨rfl,HEw.out⟩
theorem YV (l:List cZ) (i:Int):∀ e∈l,e.id=i→e.num≤IX l i:=by
 induction l using xX with
 | h0=>intro e he;cases he
 | hs l x ih=>
  intro e he hi
  rw[KQ]
  rcases List.mem_append.1 he with he|he
  ·have:=ih e he hi
   split<;>omega
  ·rw[List.mem_singleton]at he;subst he;rw[if_pos hi];omega
theorem RX (l:List cZ) (i num:Int) (h:∀ e∈l,e.id=i→e.num<num):Gf l i num=0:=by
 induction l using xX with
 | h0=>rfl
 | hs l x ih=>
  rw[KR,if_neg,ih (λe he=>h e (by simp[he]))]
  rintro⟨h1,h2,-⟩
  have:=h x (by simp) h1
  omega
theorem Vq {l:List cZ} (hk:∀ e∈l,1≤e.kind) (i num:Int):KT (Ht l i) num=true↔∃ n,((kV l i).opens n).isSome=true∧n≠num:=by
 unfold KT
 rw[List.any_eq_true]
 constructor
 ·rintro⟨o,ho,jm⟩
  exact⟨o.num,Option.isSome_iff_exists.2 ⟨o.first,(Om hk i o.num o.first).2 ho⟩,by simpa using jm⟩
 ·rintro⟨n,hn,jm⟩
  obtain⟨f,hf⟩:=Option.isSome_iff_exists.1 hn
  exact⟨⟨n,f⟩,(Om hk i n f).1 hf,by simpa using jm⟩
theorem YW {H N M nx:Int} {O:Bool} {e:cZ} (hk:¬ 1<e.kind) (hnx:¬ e.num<H→nx=if e.num=H then N else 0):
  YU H N M O e=if(decide (e.num≤M)||decide (e.num<H))=true then 181 else if O=true then 182 else if decide (e.seq<nx)=true then 183 else if decide (nx<e.seq)=true then 184 else 0:=by
 unfold YU
 rw[if_neg hk]
 by_cases h1:e.num≤M
 ·rw[if_pos h1,if_pos (by simp[h1])]
 ·rw[if_neg h1]
  by_cases h2:e.num<H
  ·rw[if_pos h2,if_pos (by simp[h2])]
  ·have hd:¬ ((decide (e.num≤M)||decide (e.num<H))=true):=by simp[h1,h2]
   rw[if_neg h2,if_neg hd,hnx h2]
   cases O
   ·simp only[Bool.false_eq_true,if_false,decide_eq_true_eq]
    by_cases h3:e.num=H
    ·simp only[if_pos h3]
    ·simp only[if_neg h3]
   ·rw[if_pos rfl,if_pos rfl]
theorem YX {H N M:Int} {O:Bool} {e:cZ} (hk:1<e.kind):
  YU H N M O e=if decide (e.num≤M)=true then 183 else if(decide (e.num<H)||O)=true then 181 else 0:=by
 unfold YU
 rw[if_pos hk]
 by_cases h1:e.num≤M
 ·simp[h1]
 ·by_cases h2:e.num<H
  ·simp[h1,h2]
  ·cases O<;>simp[h1,h2]
theorem CB {b:Nat} {w:World} {F:Nat→Prop} {l:List cZ} (h:MJ w b F l) (lU:wP l=0) (e:cZ):Pure Tryz.prog 183 #[.pointer (some ⟨b,0,none⟩),e.v] w (.int .i64 (mG l e)):=by
 obtain⟨u,mb,g,h,hF⟩:=h
 have hS:=h.aiJ
 by_cases bT:bY l e=0
 ·by_cases hid:e.id<0
  ·have D7:mG l e=0:=by unfold mG;rw[if_neg (by simpa using bT),if_pos hid]
   rw[D7]
   have HS:=Zh hS
   have KJ:=Zh bT
   clear h hF hS bT D7
   refine Fi (n:=41) Tryz.func183 ?_;intro A hd hA;simp only[ix,Nat.reduceAdd]
   repeat'(first|refine aN Tryz.func229 (KJ.out▸Dy (HS.out.ah (by simp)) e) ?_|(refine zO ?_)|refine dw ?_|refine aF ?_|refine au ?_|refine ak (λK hK=>?_)|refine aj ?_|refine aC ?_|(refine dI (λx K hK=>?_);go_simp;refine hK _ _ (aB.alloc _ _) ?_;clear hK K;refine aZ x ?_;generalize (World.ah _ x).heap.size=bn;intro yn aU bD bC bG aS;clear x)|refine bH ?_|go_step)
   exact aA hd ⟨rfl,by simp⟩
  ·have hrb:=zK (XF bT).1
   obtain⟨i,hi⟩:∃ i:Nat,e.id=i:=⟨e.id.toNat,by omega⟩
   have hi4:i<4:=by omega
   have hat:Jw w b (1+i *5) (kV l i) (mb i 0) (mb i 1):=
    ⟨h.gy.lt,(h.gy.cell (by omega)).trans (by rw[h.high i hi4]),(h.gy.cell (by omega)).trans (by rw[h.fO i hi4]),(h.gy.cell (by omega)).trans (by rw[h.next i hi4]),(h.gy.cell (by omega)).trans (by rw[h.opens i hi4]),h.KH i hi4,h.EL i hi4⟩
   have hkd:=abA lU
   have Xj:=Vq hkd i e.num
   have D7:mG l e=YU (kV l i).high (Gf l i (kV l i).high) (kV l i).fO (KT (Ht l i) e.num) e:=by
    unfold mG;rw[if_neg (by simpa using bT),if_neg hid,hi,XO,YT l i hkd]
   have hnx:¬ e.num<(kV l i).high→((kV l i).next e.num).getD 0=if e.num=(kV l i).high then Gf l i (kV l i).high else 0:=by
    intro hlt
    rw[aeG]
    split
    ·rename_i hh;rw[hh]
    ·rename_i hh
     refine RX l i e.num λx hx hxi=>?_
     have:=YV l i x hx hxi
     rw[XO]at hlt hh
     omega
   generalize hO:KT (Ht l i) e.num=ob at *
   by_cases hk:e.kind=1
   ·have O7:(e.kind==1)=true:=by simp[hk]
    rw[YW (by omega) hnx]at D7
    refine KU hS e bT hi hi4 hat (λk=>match k with|0=>(decide (e.num≤(kV l i).fO)||decide (e.num<(kV l i).high))|1=>ob|2=>decide (e.seq<((kV l i).next e.num).getD 0)|_=>decide (((kV l i).next e.num).getD 0<e.seq)) _ ?_ ?_ ?_
    ·rw[O7]
     intro k p hp
     match k,hp with
     | 0,hp=>cases hp;exact⟨by decide,⟨_,Tryz.func267,by kernel_rfl⟩,λw' hE=>ahe (hat.ah hE) e⟩
     | 1,hp=>cases hp;exact⟨by decide,⟨_,Tryz.func268,by kernel_rfl⟩,λw' hE=>ahf (hat.ah hE) e ob Xj⟩
     | 2,hp=>cases hp;exact⟨by decide,⟨_,Tryz.func269,by kernel_rfl⟩,λw' hE=>ahg (hat.ah hE) e⟩
     | 3,hp=>cases hp;exact⟨by decide,⟨_,Tryz.func270,by kernel_rfl⟩,λw' hE=>ahh (hat.ah hE) e⟩
    ·rw[O7,D7]
     intro k p hp hj hc
     match k,hp with
     | 0,hp=>cases hp;exact if_pos hc
     | 1,hp=>cases hp;have c0:=hj 0 (by omega);simp only at c0 hc;rw[if_neg (by simp[c0]),if_pos hc]
     | 2,hp=>cases hp;have c0:=hj 0 (by omega);have c1:=hj 1 (by omega);simp only at c0 c1 hc;rw[if_neg (by simp[c0]),if_neg (by simp[c1]),if_pos hc]
     | 3,hp=>cases hp;have c0:=hj 0 (by omega);have c1:=hj 1 (by omega);have c2:=hj 2 (by omega);simp only at c0 c1 c2 hc;rw[if_neg (by simp[c0]),if_neg (by simp[c1]),if_neg (by rw[c2];simp),if_pos hc]
    ·rw[O7,D7]
     intro hj
     have c0:=hj 0 (by simp[pV]);have c1:=hj 1 (by simp[pV]);have c2:=hj 2 (by simp[pV]);have c3:=hj 3 (by simp[pV]);simp only at c0 c1 c2 c3
     rw[if_neg (by simp[c0]),if_neg (by simp[c1]),if_neg (by rw[c2];simp),if_neg (by rw[c3];simp)]
   ·have O7:(e.kind==1)=false:=by simp[hk]
    rw[YX (by omega)]at D7
    refine KU hS e bT hi hi4 hat (λk=>match k with|0=>decide (e.num≤(kV l i).fO)|_=>(decide (e.num<(kV l i).high)||ob)) _ ?_ ?_ ?_
    ·rw[O7]
     intro k p hp
     match k,hp with
     | 0,hp=>cases hp;exact⟨by decide,⟨_,Tryz.func264,by kernel_rfl⟩,λw' hE=>aj6 (hat.ah hE) e⟩
     | 1,hp=>cases hp;exact⟨by decide,⟨_,Tryz.func265,by kernel_rfl⟩,λw' hE=>aj7 (hat.ah hE) e ob Xj⟩
    ·rw[O7,D7]
     intro k p hp hj hc
     match k,hp with
     | 0,hp=>cases hp;exact if_pos hc
     | 1,hp=>cases hp;have c0:=hj 0 (by omega);simp only at c0 hc;rw[if_neg (by rw[c0];simp),if_pos hc]
    ·rw[O7,D7]
     intro hj
     have c0:=hj 0 (by simp[pV]);have c1:=hj 1 (by simp[pV]);simp only at c0 c1
     rw[if_neg (by rw[c0];simp),if_neg (by simp[c1])]
 ·have D7:mG l e=bY l e:=by unfold mG;rw[if_pos bT]
  rw[D7]
  have HS:=Zh hS
  have HM:=Zh (λw' (hE:aB w w')=>Dy (hS.ah hE) e)
  clear h hF hS D7
  generalize bY l e=no at *
  refine Fi (n:=41) Tryz.func183 ?_;intro A hd hA;simp only[ix,Nat.reduceAdd]
  repeat'(first|refine aN Tryz.func229 (HM.out _ (by simp)) ?_|(refine zO ?_)|refine aF ?_|refine mg ?_|refine au ?_|refine ak (λK hK=>?_)|refine aj ?_|refine aC ?_|(refine dI (λx K hK=>?_);go_simp;refine hK _ _ (aB.alloc _ _) ?_;clear hK K;refine aZ x ?_;generalize (World.ah _ x).heap.size=bn;intro yn aU bD bC bG aS;clear x)|refine bH ?_|go_step)
  exact aA hd ⟨rfl,by simp⟩
def aI.xG (s:aI) (e:cZ):cZ:={e with ep:=ku s.epoch 1}
def aI.oI (s:aI) (e:cZ):Int:=
 if fJ (s.xG e)=false then 2 else if s.role≠3 then 211 else if(s.isr.length:Int)<s.least then 212
 else if mG s.log (s.xG e)≠0 then mG s.log (s.xG e) else if 4096≤s.log.length then 3 else 0
def aI.app (s:aI) (e:cZ):aI:=if s.oI e=0 then{s with log:=s.log++[s.xG e]} else s
theorem wo (x:cZ):bY [] x=if fJ x=false then 2 else 0:=by
 unfold bY vk
 split
 ·rfl
 ·rw[if_neg (by simp)];simp
theorem eG.QE {w w1 w2:World} {b:Nat} {uL uI uC u:Value} {s:aI} {l':List cZ} (h:eG w b uL uI uC s) (hM:bF (λk=>uL.ownBlock=some k) w w1) (hO:BX w1 u l') (hF:u.ownBlock=uL.ownBlock∨∃ g,u.ownBlock=some g∧w.heap.size≤g)
  (kL:bF (· =b) w1 w2) (Fh:cO w2 b 128 15 (put (yC s uL uI uC) 12 [u])):eG w2 b u uI uC {s with log:=l'}:=by
 have hlt:=h.gy.lt
 have n1:u.ownBlock≠some b:=by
  rcases hF with hF|⟨g,hF,hg⟩
  ·rw[hF];exact h.nL
  ·rw[hF];intro h;cases h;omega
 refine⟨Fh.congr (tK (by refine⟨?_,?_,?_,?_,?_,?_,?_,?_,?_,?_,?_,?_,?_,?_,?_⟩<;>rfl)),hO.aW kL (λk hk he=>n1 (he▸hk)),(h.ri.aW hM (λk hk he=>(h.nX k he).1 hk)).aW kL (λk hk he=>h.nI (he▸hk)),(h.rc.aW hM (λk hk he=>(h.nX k he).2 hk)).aW kL (λk hk he=>h.nC (he▸hk)),n1,h.nI,h.nC,λk hk=>?_⟩
 rcases hF with hF|⟨g,hF,hg⟩
 ·exact h.nX k (hF▸hk)
 ·rw[hF]at hk;cases hk
  exact⟨λh'=>by have:=h.ri.XG h';omega,λh'=>by have:=h.rc.XG h';omega⟩
theorem PX {l:List cZ} {e:cZ} (h:mG l e=0):l.length<4096:=by
 unfold mG at h
 by_cases ha:bY l e=0
 ·unfold bY at ha
  split at ha
  ·cases ha
  ·split at ha
   ·cases ha
   ·omega
 ·rw[if_pos ha]at h;exact absurd h ha
theorem KW {w:World} {b:Nat} {F:Nat→Prop} {s:aI} (h:oD w b F s) (hs:s.least≠0) (lU:wP s.log=0) (hl:s.log.length≤4096) (e:cZ):
  gK Tryz.prog 120 #[.pointer (some ⟨b,0,none⟩),e.v] w λr w'=>r=.tuple #[.int .i64 (if s.oI e=0 then(s.log.length:Int) else 0),.int .i64 (s.oI e)]∧bF F w w'∧oD w' b (λk=>F k∨w.heap.size≤k) (s.app e):=by
 refine h.Yk (R:=λr _=>r=.tuple #[.int .i64 (if s.oI e=0 then(s.log.length:Int) else 0),.int .i64 (s.oI e)]) ?_
 intro F h RV
 have FC:=Zh h.yK
 have UG:=Zh RV
 clear RV
 have HP:=Zh h
 obtain⟨uL,uI,uC,h,hf⟩:=h.ex
 have H:=Zh h
 have BA:=Zh hf
 obtain⟨hlt,-,-,d2,-,d8,d9,d10,d11,d12,d13,DR⟩:=h.cells
 obtain⟨A1,c1,rfl,Na,Jr,-⟩:=h.IU.ent
 obtain⟨A2,c2,rfl,-⟩:=h.ri.int
 have zM:=Zh h.lt
 clear h hf
 have hgm:(if s.epoch<1 then(1:Int) else s.epoch)=ku s.epoch 1:=rfl
 refine uh Tryz.func120 rfl (Nat.le_of_ble_eq_true rfl) ?_;intro A hd hA;simp only[ix,Nat.reduceAdd];replace hA:A.tmps.size=80:=hA
 repeat'(first|refine aF ?_|refine au ?_|refine ak (λK hK=>?_)|refine aj ?_|(refine dI (λx K hK=>?_);go_simp;refine hK _ _ (aB.alloc _ _) ?_;clear hK K;refine aZ x ?_;generalize (World.ah _ x).heap.size=bn;intro yn aU bD bC bG aS;clear x)|go_step)
 rename_i bv yv p1 p2 p3 p4 p5
 refine um (be:=bn) hd hA (λW hE=>by unfold execOp gI;go_simp) ?_;have wL:=Zh (cO.one aS.out);clear hd hA A;intro A hd hA;obtain⟨be,PY⟩:∃ be:Nat,be=bn:=⟨_,rfl⟩;subst PY
 have HX:=Zh ((cO.new p5.out).ah yn.2)
 have aod:bv≠be:=by omega
 have atI:bv≠b:=by omega
 have abN:w.heap.size≤be:=by have:=yv.2.size;omega
 have aki:w.heap.size≤bv:=p1
 have HE:=Zh (by simp:aB w ((w.ah yv).ah yn))
 clear p1 p2 p3 p4 p5 aU bD bC bG aS
 repeat'(first|refine aN Tryz.func69 (jK (HP.out.ah (by simp)) hs) ?_|refine aN Tryz.func161 (dZ _) ?_|refine aF ?_|refine au ?_|refine ak (λK hK=>?_)|refine aj ?_|go_step)
 refine aY (off:=0) HX.out (λW1 fM nU=>?_)
 have HE:=Zh (aB.bK HE.out fM (λk hk=>by subst hk;exact aki))
 have oV:=Zh (wL.out.aW fM (λh=>by omega))
 have HX:Hid (cO W1 bv 102 6 (λk=>(s.xG e).cs.getD k undef)):=Zh (nU.congr (λk hk=>by
  simp only[List.size_toArray,List.length_cons,List.length_nil]at hk
  obtain rfl|rfl|rfl|rfl|rfl|rfl:k=0∨k=1∨k=2∨k=3∨k=4∨k=5:=by omega
  all_goals rfl))
 clear fM nU wL
 have x0:=HX.out.cell (k:=0) (by decide)
 have x1:=HX.out.cell (k:=1) (by decide)
 have x2:=HX.out.cell (k:=2) (by decide)
 have x3:=HX.out.cell (k:=3) (by decide)
 have x4:=HX.out.cell (k:=4) (by decide)
 have x5:=HX.out.cell (k:=5) (by decide)
 have hbv:=HX.out.lt
 simp only[cZ.cs,List.getD_cons_zero,List.getD_cons_succ]at x0 x1 x2 x3 x4 x5
 obtain⟨G,hG⟩:∃ G:Nat→Prop,G=(λk=>W1.heap.size≤k):=⟨_,rfl⟩
 have atJ:¬ G bv:=by subst hG;simp;omega
 have HG:=Zh hG
 clear hG
 have BJ:∀ x:bM W1,gK Tryz.prog 180 #[] (W1.ah x) (λv w'=>(∃bt,v=.pointer (some ⟨bt,0,none⟩)∧aB W1 w'∧MJ w' bt G [])∧bF G (W1.ah x) w'):=λx=>
  (zN (W1.ah x)).mono λv w' hR=>by
   obtain⟨bt,h1,h2,h3⟩:=hR
   exact⟨⟨bt,h1,Et x.2 h2,h3.mono (λk hk=>by rw[HG.out];exact Nat.le_trans x.2.size hk)⟩,h2.aW⟩
 have rH:=Zh BJ
 clear BJ
 have adw:∀ (W2:World) (bt:Nat),MJ W2 bt G []→aB W1 W2→∀ x:bM W2,gK Tryz.prog 181 #[.pointer (some ⟨bt,0,none⟩),(s.xG e).v] (W2.ah x) (λv w'=>(v=.int .i64 (bY [] (s.xG e))∧aB W1 w')∧bF G (W2.ah x) w'):=λW2 bt hT hE x=>
  (vw (hT.ah x.2) (s.xG e)).mono λv w' hR=>by
   exact⟨⟨hR.1,aB.bK (Et hE x.2) hR.2.1 (λk hk=>by rw[HG.out]at hk;exact hk)⟩,hR.2.1⟩
 have aeH:=Zh adw
 clear adw
 repeat'(first|refine au ?_|refine ak (λK hK=>?_)|go_step)
 by_cases h1:fJ (s.xG e)=true
 ·have bT:bY [] (s.xG e)=0:=by rw[wo,if_neg (by simp[h1])]
  refine xZ G [(1,0),(0,1),(2,1),(3,0),(4,1)] (by kernel_rfl) (by kernel_rfl) ?_
  repeat'(first|refine Jy ?_|fail)
  refine KP Tryz.func180 rH.out (λv W2 hR=>?_)
  obtain⟨bt,rfl,iU,hT⟩:=hR
  obtain⟨y2,rfl⟩:=iU.get
  have HT:=Zh hT
  clear iU hT
  skip
  refine KP Tryz.func181 (aeH.out _ _ HT.out y2.2) (λv W3 hR=>?_)
  obtain⟨rfl,jX⟩:=hR
  rw[bT]
  obtain⟨y3,rfl⟩:=jX.get
  clear jX HT y2
  repeat'(first|refine abI Tryz.func161 (λx=>dZ 2) ?_|refine Jy ?_|refine Eh ?_)
  have Vr:aB W1 (World.ah W1 y3):=y3.2
  generalize World.ah W1 y3=W at *
  have oV:=Zh (oV.out.ah Vr)
  have HX:=Zh (HX.out.ah Vr)
  have HE:=Zh (Et HE.out Vr)
  have HH:=Zh (H.out.ah HE.out)
  have HPP:=Zh (HP.out.ah HE.out)
  clear Vr y3 x0 x1 x2 x3 x4 x5 hbv
  have x0:=HX.out.cell (k:=0) (by decide)
  have x1:=HX.out.cell (k:=1) (by decide)
  have x2:=HX.out.cell (k:=2) (by decide)
  have x3:=HX.out.cell (k:=3) (by decide)
  have x4:=HX.out.cell (k:=4) (by decide)
  have x5:=HX.out.cell (k:=5) (by decide)
  have hbv:=HX.out.lt
  simp only[cZ.cs,List.getD_cons_zero,List.getD_cons_succ]at x0 x1 x2 x3 x4 x5
  clear hlt d2 d8 d9 d10 d11 d12 d13 DR
  obtain⟨hlt,-,-,d2,-,d8,d9,d10,d11,d12,d13,DR⟩:=HH.out.cells
  by_cases h3:s.role=3
  ·have h3b:(s.role==3)=true:=by simp[h3]
   repeat'(first|refine aN Tryz.func161 (dZ 211) ?_|refine aF ?_|refine au ?_|refine ak (λK hK=>?_)|refine aj ?_|go_step)
   by_cases h4:s.least≤(s.isr.length:Int)
   ·have h4b:decide (s.least≤(s.isr.length:Int))=true:=by simpa using h4
    refine dn [(0,0),(1,0),(2,0),(3,0),(4,0),(5,0),(6,0),(7,0),(8,0),(9,0),(10,0),(11,1)] (by kernel_rfl) (by kernel_rfl) ?_
    repeat'(first|(refine dN Tryz.func161 (λ_=>dZ 212) ?_)|refine aF ?_|refine aQ ?_|refine ak (λK hK=>?_)|refine aj ?_|go_step)
    refine aX Tryz.func182 (Ry s.log _ _ HH.out.IU) (λv W2 hR=>?_)
    obtain⟨iU,hR,-⟩:=hR
    obtain⟨bt,rfl,hT⟩:=hR lU
    have HT:=Zh hT
    obtain⟨y2,rfl⟩:=iU.get
    clear iU hT hR
    by_cases h5:mG s.log (s.xG e)=0
    ·have HCK:=Zh (h5▸CB HT.out lU (s.xG e))
     have iR:s.log.length<4096:=PX h5
     have asN:(s.log.length:Int)<4096:=by omega
     have uO:s.oI e=0:=by unfold aI.oI;rw[if_neg (by simp[h1]),if_neg (by simp[h3]),if_neg (by omega),if_neg (by simp[h5]),if_neg (by omega)]
     have ha:s.app e={s with log:=s.log++[s.xG e]}:=by unfold aI.app;rw[if_pos uO]
     have HA:=Zh ha
     have MR:=Zh uO
     clear ha uO
     repeat'(first|refine aN Tryz.func183 (HCK.out) ?_|refine aN Tryz.func161 (dZ _) ?_|refine aF ?_|refine au ?_|refine ak (λK hK=>?_)|refine aj ?_|go_step)
     have iU:aB W (W.ah y2):=y2.2
     generalize World.ah W y2=W2 at *
     have HH2:=Zh (HH.out.ah iU)
     have Np:=Zh (oV.out.ah iU)
     have rO:=Zh (Et HE.out iU)
     have hX2:=HX.out.ah iU
     clear x0 x1 x2 x3 x4 x5 hbv hlt d2 d8 d9 d10 d11 d12 d13 DR y2 iU HCK HT
     have x0:=hX2.cell (k:=0) (by decide)
     have x1:=hX2.cell (k:=1) (by decide)
     have x2:=hX2.cell (k:=2) (by decide)
     have x3:=hX2.cell (k:=3) (by decide)
     have x4:=hX2.cell (k:=4) (by decide)
     have x5:=hX2.cell (k:=5) (by decide)
     have hbv:=hX2.lt
     simp only[cZ.cs,List.getD_cons_zero,List.getD_cons_succ]at x0 x1 x2 x3 x4 x5
     obtain⟨hlt,-,-,d2,-,d8,d9,d10,d11,d12,d13,DR⟩:=HH2.out.cells
     clear hX2
     refine dn [(0,0),(1,0),(2,0),(3,0),(4,0),(5,0),(6,1),(7,2),(8,0),(9,0),(10,2)] (by kernel_rfl) (by kernel_rfl) ?_
     repeat'(first|refine aF ?_|(refine dI (λx K hK=>?_);go_simp;refine hK _ _ (aB.alloc _ _) ?_;clear hK K;refine aZ x ?_;generalize (World.ah _ x).heap.size=bn;intro yn aU bD bC bG aS;clear x)|fail)
     refine nZ (xs:=s.log) JO (HH2.out.yK.ah (by simp)) (Rd.one (x:=s.xG e) bD bC rfl) (by simp;omega) (by unfold maxLen;simp;omega) (λv' W3 jd zy yM hN3=>?_)
     obtain⟨A3,m3,c3,rfl⟩:=aT zy
     have ahm:¬ (Value.slice A1 s.log.length c1).ownBlock=some b:=HH2.out.nL
     have akk:aB W2 (W2.ah yn):=yn.2
     have ahn:bF (λk=>(Value.slice A1 s.log.length c1).ownBlock=some k) W2 W3:=bF.trans akk jd (λ_ _ h=>h.elim) (λ_ _ h=>h)
     have akl:(Value.slice A3 m3 c3).ownBlock=(Value.slice A1 s.log.length c1).ownBlock∨∃ g,(Value.slice A3 m3 c3).ownBlock=some g∧W2.heap.size≤g:=yM.imp id (λ⟨g,h1,h2⟩=>⟨g,h1,Nat.le_trans akk.size h2⟩)
     have HH3:=Zh (HH2.out.gy.aW ahn ahm)
     have Ox:=Zh zy
     have QT:=Zh akl
     have YZ:=Zh ahn
     clear zy akl yM jd hN3 ahn
     repeat'(first|refine aF ?_|fail)
     refine aY (off:=12) HH3.out (λW4 wO FK=>?_)
     have QK:=Zh (HH2.out.QE YZ.out Ox.out QT.out wO FK)
     have xO:=Zh (bF.trans YZ.out wO (H:=λk=>k=b∨(Value.slice A1 s.log.length c1).ownBlock=some k) (λ_ _ h=>.inr h) (λ_ _ h=>.inl h))
     have aho:¬ (be=b∨(Value.slice A1 s.log.length c1).ownBlock=some be):=by
      rintro(h|h)
      ·have:=zM.out b (.inl rfl);omega
      ·have:=zM.out be (.inr (.inl h));omega
     have abO:=Zh (Np.out.aW xO.out aho)
     clear wO FK hlt d2 d8 d9 d10 d11 d12 d13 DR x0 x1 x2 x3 x4 x5 hbv
     obtain⟨A5,c5,hA5,-⟩:=QK.out.IU.ent
     simp only[List.length_append,List.length_cons,List.length_nil,Nat.zero_add]at hA5
     cases hA5
     obtain⟨hlt,-,-,-,-,-,-,-,-,d12,-,-⟩:=QK.out.cells
     have Pg:((s.log.length+1:Nat):Int)-1=(s.log.length:Int):=by omega
     repeat'(first|refine aF ?_|refine aQ ?_|refine ak (λK hK=>?_)|refine aj ?_|go_step)
     refine aY (off:=0) abO.out (λW5 kJ pX=>?_)
     have FD:=Zh pX
     have uo:=Zh kJ
     clear kJ pX
     repeat'(first|refine au ?_|refine aC ?_|go_step)
     refine aeC hd (FD.out.congr (g':=λ_=>.int .i64 0) (λk hk=>by obtain rfl:k=0:=(by omega);rfl)) ⟨by rw[MR.out],?_,?_⟩
     ·refine bF.trans (bF.trans rO.out xO.out (H:=F) (λ_ _ h=>h.elim) (λk hk h=>?_)) uo.out (λ_ _ h=>h) (λk hk h=>by subst h;omega)
      rcases h with h|h
      ·subst h;exact FC.out
      ·exact BA.out k (.inr (.inl h))
     ·rw[HA.out]
      refine⟨_,_,_,QK.out.aW uo.out (λk hk h=>?_),λk hk=>?_⟩
      ·subst h
       rcases hk with h|h|h|h
       ·exact aho (.inl h)
       ·rcases QT.out with h'|⟨g,h',hg⟩
        ·exact aho (.inr (h'▸h))
        ·rw[h']at h;cases h
         have:=Np.out.lt;omega
       ·have:=zM.out k (.inr (.inr (.inl h)));omega
       ·have:=zM.out k (.inr (.inr (.inr h)));omega
      ·rcases hk with h|h|h|h
       ·subst h;exact .inl FC.out
       ·rcases QT.out with h'|⟨g,h',hg⟩
        ·exact .inl (BA.out k (.inr (.inl (h'▸h))))
        ·rw[h']at h;cases h
         exact .inr (Nat.le_trans rO.out.size hg)
       ·exact .inl (BA.out k (.inr (.inr (.inl h))))
       ·exact .inl (BA.out k (.inr (.inr (.inr h))))
    ·have uO:s.oI e=mG s.log (s.xG e):=by unfold aI.oI;rw[if_neg (by simp[h1]),if_neg (by simp[h3]),if_neg (by omega),if_pos h5]
     have ha:s.app e=s:=by unfold aI.app;rw[if_neg (by rw[uO];exact h5)]
     have HA:=Zh ha
     have MR:=Zh uO
     clear ha uO
     have D7:=CB HT.out lU (s.xG e)
     generalize mG s.log (s.xG e)=no at *
     have HCK:=Zh D7
     have h5b:(no==0)=false:=beq_false_of_ne h5
     clear D7
     repeat'(first|refine aN Tryz.func183 (HCK.out) ?_|refine aF ?_|refine au ?_|refine ak (λK hK=>?_)|refine aj ?_|go_step)
     refine AZ Tryz.func161 (jD no) (λc w' hC=>?_)
     obtain⟨rfl,fD⟩:=hC
     have hE:aB w w':=Et HE.out (Et y2.2 fD)
     refine JU hd (oV.out.ah (Et y2.2 fD)) (λW1 hM=>?_)
     have oQ:=aB.bK hE hM (λk hk=>by subst hk;omega)
     exact⟨by rw[MR.out];first|rfl|rw[if_neg h5],oQ.mono (λ_ _ h=>h.elim),by rw[HA.out];exact(HP.out.ah oQ).mono (λk hk=>.inl hk)⟩
   ·have h4b:decide (s.least≤(s.isr.length:Int))=false:=by simpa using h4
    have uO:s.oI e=212:=by unfold aI.oI;rw[if_neg (by simp[h1]),if_neg (by simp[h3]),if_pos (by omega)]
    have ha:s.app e=s:=by unfold aI.app;rw[uO];rfl
    have HA:=Zh ha
    have MR:=Zh uO
    clear ha uO
    refine Ec [(0,0),(1,0),(2,0),(3,0),(4,0),(5,0),(6,0),(7,0),(8,0),(9,0),(10,0)] 11 (by kernel_rfl) (by kernel_rfl) ?_
    repeat'(first|refine aF ?_|refine aQ ?_|fail)
    refine mM Tryz.func161 (jD 212) (λc w' hC=>?_)
    obtain⟨rfl,fD⟩:=hC
    have hE:aB w w':=Et HE.out fD
    refine JU hd (oV.out.ah fD) (λW1 hM=>?_)
    have oQ:=aB.bK hE hM (λk hk=>by subst hk;omega)
    exact⟨by rw[MR.out];first|rfl|rw[if_neg h5],oQ.mono (λ_ _ h=>h.elim),by rw[HA.out];exact(HP.out.ah oQ).mono (λk hk=>.inl hk)⟩
  ·have h3b:(s.role==3)=false:=by simp[h3]
   have uO:s.oI e=211:=by unfold aI.oI;rw[if_neg (by simp[h1]),if_pos h3]
   have ha:s.app e=s:=by unfold aI.app;rw[uO];rfl
   have HA:=Zh ha
   have MR:=Zh uO
   clear ha uO
   repeat'(first|refine aF ?_|refine ak (λK hK=>?_)|refine aj ?_|go_step)
   refine AZ Tryz.func161 (jD 211) (λc w' hC=>?_)
   obtain⟨rfl,fD⟩:=hC
   have hE:aB w w':=Et HE.out fD
   refine JU hd (oV.out.ah fD) (λW1 hM=>?_)
   have oQ:=aB.bK hE hM (λk hk=>by subst hk;omega)
   exact⟨by rw[MR.out];first|rfl|rw[if_neg h5],oQ.mono (λ_ _ h=>h.elim),by rw[HA.out];exact(HP.out.ah oQ).mono (λk hk=>.inl hk)⟩
 ·have h1f:fJ (s.xG e)=false:=by simpa using h1
  have bT:bY [] (s.xG e)=2:=by rw[wo,if_pos h1f]
  have uO:s.oI e=2:=by unfold aI.oI;rw[if_pos h1f]
  have ha:s.app e=s:=by unfold aI.app;rw[uO];rfl
  have HA:=Zh ha
  have MR:=Zh uO
  clear ha uO
  refine ahi G [(1,0),(0,1),(2,1),(3,0)] 4 (by kernel_rfl) (by kernel_rfl) ?_
  repeat'(first|refine Jy ?_|fail)
  refine KP Tryz.func180 rH.out (λv W2 hR=>?_)
  obtain⟨bt,rfl,iU,hT⟩:=hR
  obtain⟨y2,rfl⟩:=iU.get
  have HT:=Zh hT
  clear iU hT
  skip
  refine KP Tryz.func181 (aeH.out _ _ HT.out y2.2) (λv W3 hR=>?_)
  obtain⟨rfl,jX⟩:=hR
  rw[bT]
  repeat'(first|refine Jy ?_|refine Eh ?_)
  refine mM Tryz.func161 (jD 2) (λc w' hC=>?_)
  obtain⟨rfl,fD⟩:=hC
  have hE:aB w w':=Et HE.out (Et jX fD)
  refine JU hd (oV.out.ah (Et jX fD)) (λW1 hM=>?_)
  have oQ:=aB.bK hE hM (λk hk=>by subst hk;omega)
  exact⟨by rw[MR.out];first|rfl|rw[if_neg h5],oQ.mono (λ_ _ h=>h.elim),by rw[HA.out];exact(HP.out.ah oQ).mono (λk hk=>.inl hk)⟩
end Go.Ws
