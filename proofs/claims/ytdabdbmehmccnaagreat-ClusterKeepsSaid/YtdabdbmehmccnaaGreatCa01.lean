/- Lemmas for the statements of this layer (joined texts); no condition. -/
import Derived.Test.YtdabdbmehmccnaaGreatProg
import Derived.Test.YtdabdbmehmccnaaGreatRows
import Derived.ProofKit
import Derived.OpenShut
import Derived.Deep.Slices
import Derived.Below
import Derived.DefersIn
import Derived.RecoverIn
import Derived.RangeFuncLeaves
import Derived.Test.YtdabdbmehmccnaaGreatCa00
namespace Go.Ws
open Go Go.RowKit
set_option maxHeartbeats 4000000
set_option maxRecDepth 100000
set_option linter.unusedVariables false
set_option linter.unusedSimpArgs false
section
variable {P : Program} {w : World}
theorem IB (t ty e:TypeId) (i:TypeInfo) (z:Value) (size bytes:Nat) (ht:P.underlying t=some (.slice e)) (hi:P.info? e=some i) (hz:i.zero=some z)
  (alN:i.size=size) (hby:i.bytes=bytes) (hzs:z.cells.size=size) (Kr:0<size)
  (v:Value) (n:Nat) (xs:List Value) (nD:w.ownsRow 0 e size v n xs)
  (a:Addr) (m c:Nat) (news:List Value) (hl:news.length=m *size) (MI:∀ j u,news[j]? =some u→w.cell? (a.add j)=some u) (h1:∀ u∈news,u.oneCell'=true)
  (h63:n+m≤maxLen) (Dl:(n+m) *bytes≤140737488355328):
  ∃v' w',(Builtin.append_ #[t,t] ty #[v,.slice (some a) m c]).run P w=.ok v' w'∧w'.ownsRow 0 e size v' (n+m) (xs++news)∧bF (λb=>v.ownBlock=some b) w w'∧
   (v'.ownBlock=v.ownBlock∨∃ g,v'.ownBlock=some g∧w.heap.size≤g)∧(v'=.slice none 0 0↔v=.slice none 0 0∧m=0):=by
 subst alN
 subst hby
 have aqh:n+m≤9223372036854775807:=by simp only[maxLen]at h63;omega
 have iR:(xs++news).length=(n+m) *i.size:=by rw[List.length_append,nD.1,hl,Nat.add_mul]
 have grown:∀ (old:Nat),old<n+m→∀ (row:Option Nat),
   (w.drew.alloc (.cells (xs.toArray++news.toArray++Builtin.zeroCells z.cells (grownCap w (n+m) old e-(n+m))) e)).ownsRow 0 e i.size
    (.slice (some ⟨w.heap.size,0,none⟩) (n+m) (grownCap w (n+m) old e)) (n+m) (xs++news)∧
   bF (λb=>row=some b) w (w.drew.alloc (.cells (xs.toArray++news.toArray++Builtin.zeroCells z.cells (grownCap w (n+m) old e-(n+m))) e)):=by
  intro old ho row
  have jf:=grownCap_ge w (n+m) old e
  have jT:grownCap w (n+m) old e≤maxLen:=grownCap_le_maxLen w (n+m) old e h63
  refine⟨⟨iR,.inr ⟨w.heap.size,_,_,rfl,Nat.zero_le _,heap_alloc_new w.drew _,jf,jT,?_,?_⟩⟩,⟨rfl,rfl,rfl,by simp,λk hk _=>Below.heap_alloc w.drew _ k hk⟩⟩
  ·simp only[Array.size_append,List.size_toArray,size_zeroCells,hzs,nD.1,hl,←Nat.add_mul]
   congr 1
   omega
  ·simp only[Array.toList_append,List.append_assoc]
   rw[←List.append_assoc,←iR]
   exact List.take_left
 rcases nD.2 with⟨rfl,rfl⟩|⟨g,cap,cur,rfl,hbg,hg,Hl,jT,vV,alP⟩
 ·have hx:xs=[]:=List.eq_nil_of_length_eq_zero (by simpa using nD.1)
  subst hx
  by_cases hm:m=0
  ·subst hm
   have hn:news=[]:=List.eq_nil_of_length_eq_zero (by simpa using hl)
   subst hn
   refine⟨.slice none 0 0,w,?_,World.ownsRow_nil w 0 e i.size,bF.refl _ w,.inl rfl,by simp⟩
   simp[Builtin.append_,run_underlying ht,sizeOf,typeInfo,hi,Builtin.lenOf,Builtin.firstCells,loadCells,loadCellsFrom]
  ·have hr:=run_append_nil (P:=P) w t ty e i z ht hi hz a m c news hl MI (by omega) (by omega) (by have hb:=Dl;simp only[Nat.zero_add]at hb;omega)
   have hgr:=grown 0 (by omega) (Value.ownBlock (.slice none 0 0))
   simp only[Nat.zero_add,List.nil_append,Array.empty_append]at hgr ⊢
   exact⟨_,_,hr,hgr.1,hgr.2,.inr ⟨_,rfl,Nat.le_refl _⟩,by simp[hm]⟩
 ·by_cases Bl:n+m≤cap
  ·have tH:n *i.size+news.length≤cur.size:=by rw[hl,vV,←Nat.add_mul];exact Nat.mul_le_mul_right _ Bl
   have hr:=run_append_room (P:=P) w t ty e i ht hi g n cap cur hg a m c news hl MI h1 Bl tH
   refine⟨_,_,hr,⟨iR,.inr ⟨g,cap,_,rfl,hbg,setRow_heap w g cur _ e _ hg,Bl,jT,?_,?_⟩⟩,⟨rfl,rfl,rfl,by simp,λk _ hk=>setRow_other w g k _ (λe=>hk (by simp[Value.ownBlock,e]))⟩,.inl rfl,by simp⟩
   ·simp only[List.size_toArray,List.length_append,List.length_take,List.length_drop,Array.length_toList]
    omega
   ·rw[alP,←iR]
    exact List.take_left
  ·have holds:∀ j u,xs[j]? =some u→w.cell? ((⟨g,0,none⟩:Addr).add j)=some u:=nD.cells (g:=g) rfl
   have hr:=run_append_grow (P:=P) w t ty e i z ht hi hz ⟨g,0,none⟩ n cap xs nD.1 holds a m c news hl MI (by omega) (by omega) (growslice_fits (by omega) Dl)
   have hgr:=grown cap (by omega) (Value.ownBlock (.slice (some ⟨g,0,none⟩) n cap))
   exact⟨_,_,hr,hgr.1,hgr.2,.inr ⟨_,rfl,Nat.le_refl _⟩,by simp⟩
theorem aB.bK {F:Nat→Prop} {a b c:World} (h:aB a b) (k:bF F b c) (hF:∀ i,F i→a.heap.size≤i):aB a c:=
 bF.trans h k (λ_ _ h=>h) (λi hi hf=>by have:=hF i hf;omega)
def dQ {α:Type} (enc:α→ List Value) (k:Nat) (E:TypeId) (w:World) (v:Value) (xs:List α):Prop:=w.ownsRow 0 E k v xs.length (xs.flatMap enc)
variable {α : Type} {enc : α → List Value} {k : Nat} {E : TypeId} {v : Value} {xs : List α} {w' : World}
theorem dQ.nil (w:World):dQ enc k E w (.slice none 0 0) ([]:List α):=World.ownsRow_nil w 0 E k
theorem dQ.lt (h:dQ enc k E w v xs):∀ b,v.ownBlock=some b→b<w.heap.size:=λb hb=>(World.ownsRow.lt h b hb).2
theorem dQ.aW {F:Nat→Prop} (h:dQ enc k E w v xs) (hM:bF F w w') (hF:∀ b,v.ownBlock=some b→¬ F b):dQ enc k E w' v xs:=by
 refine⟨h.1,?_⟩
 rcases h.2 with hn|⟨g,cap,cur,rfl,hb,rM,rest⟩
 ·exact .inl hn
 ·refine .inr ⟨g,cap,cur,rfl,hb,?_,rest⟩
  rw[hM.block g (Array.getElem?_eq_some_iff.1 rM).1 (hF g rfl)]
  exact rM
theorem dQ.ah (h:dQ enc k E w v xs) (hE:aB w w'):dQ enc k E w' v xs:=h.aW hE (λ_ _ h=>h)
theorem Dn (hk:∀ x,(enc x).length=k):∀ (xs:List α) (i:Nat) (x:α) (j:Nat) (u:Value),xs[i]? =some x→(enc x)[j]? =some u→(xs.flatMap enc)[i *k+j]? =some u
 | [],i,x,j,u,h,_=>by simp at h
 | y::ys,0,x,j,u,h,hu=>by
  simp at h;subst h
  have hj:j<(enc y).length:=by
   rcases Nat.lt_or_ge j (enc y).length with h|h
   ·exact h
   ·rw[List.getElem?_eq_none h]at hu;cases hu
  rw[List.flatMap_cons,Nat.zero_mul,Nat.zero_add,List.getElem?_append_left hj];exact hu
 | y::ys,i+1,x,j,u,h,hu=>by
  simp only[List.getElem?_cons_succ]at h
  rw[List.flatMap_cons,List.getElem?_append_right (by rw[hk,Nat.add_mul];omega),hk]
  have:=Dn hk ys i x j u h hu
  rw[←this];congr 1;rw[Nat.add_mul];omega
theorem eH (hk:∀ x,(enc x).length=k):∀ (xs:List α),(xs.flatMap enc).length=xs.length *k
 | []=>by simp
 | y::ys=>by rw[List.flatMap_cons,List.length_append,hk,eH hk ys,List.length_cons,Nat.add_mul];omega
theorem dQ.rd (hk:∀ x,(enc x).length=k) (h:dQ enc k E w v xs):Rd enc k w v xs:=by
 rcases h.2 with⟨rfl,hn⟩|⟨g,cap,cur,rfl,hb,rM,Hl,jT,vV,ht⟩
 ·have:xs=[]:=List.eq_nil_of_length_eq_zero hn
  subst this
  exact Rd.nil w
 ·refine⟨_,cap,rfl,Hl,jT,.inr ⟨g,0,rfl,(Array.getElem?_eq_some_iff.1 rM).1,λi x hx j u hu=>?_⟩⟩
  have h1:=World.ownsRow.cells h (g:=g) rfl (i *k+j) u (Dn hk xs i x j u hx hu)
  have aiE:(⟨g,0,none⟩:Addr).add (i *k+j)=⟨g,0+i *k+j,none⟩:=by unfold Addr.add;split<;>simp_all
  rw[←aiE];exact h1
theorem dQ.G6 (h:dQ enc k E w v xs):(v=.slice none 0 0∧xs=[])∨∃ g c,v=.slice (some ⟨g,0,none⟩) xs.length c∧xs.length≤c∧c≤maxLen∧g<w.heap.size:=by
 rcases h.2 with⟨rfl,hn⟩|⟨g,cap,cur,rfl,hb,rM,Hl,jT,vV,ht⟩
 ·exact .inl ⟨rfl,List.eq_nil_of_length_eq_zero hn⟩
 ·exact .inr ⟨g,cap,rfl,Hl,jT,(Array.getElem?_eq_some_iff.1 rM).1⟩
theorem dQ.take (hk:∀ x,(enc x).length=k) {g n c:Nat} (h:dQ enc k E w (.slice (some ⟨g,0,none⟩) xs.length c) xs) (hn:n≤xs.length):dQ enc k E w (.slice (some ⟨g,0,none⟩) n c) (xs.take n):=by
 rcases h.2 with⟨h0,_⟩|⟨g',cap,cur,h0,hb,rM,Hl,jT,vV,ht⟩
 ·cases h0
 ·cases h0
  have hl:(xs.take n).length=n:=by simp[hn]
  unfold dQ
  rw[hl]
  refine⟨by rw[eH hk,hl],.inr ⟨g,c,cur,rfl,hb,rM,by omega,jT,vV,?_⟩⟩
  have h2:(xs.take n).flatMap enc=(xs.flatMap enc).take (n *k):=by
   have h3:xs.flatMap enc=(xs.take n).flatMap enc++(xs.drop n).flatMap enc:=by rw[←List.flatMap_append,List.take_append_drop]
   have h4:((xs.take n).flatMap enc).length=n *k:=by rw[eH hk,hl]
   rw[h3,←h4];exact List.take_left.symm
  rw[h2,←ht,List.take_take,Nat.min_eq_left (Nat.mul_le_mul_right _ hn)]
theorem dQ.lit (w:World) (x:bM w) {y:bM w} {b:Nat} (hk:∀ x,(enc x).length=k) (cs:Array Value) (xs:List α) (vV:cs.toList=xs.flatMap enc) (hb:(w.ah y).heap[b]? =some (.cells cs E)) (hm:xs.length≤maxLen):
  dQ enc k E (w.ah y) (.slice (some ⟨b,0,none⟩) xs.length xs.length) xs:=by
 refine⟨eH hk xs,.inr ⟨b,xs.length,cs,rfl,Nat.zero_le _,hb,Nat.le_refl _,hm,?_,?_⟩⟩
 ·rw[←Array.length_toList,vV,eH hk]
 ·rw[vV,←eH hk xs];exact List.take_length
def Src (w:World) (a:Addr) (news:List Value):Prop:=∀ j u,news[j]? =some u→w.cell? (a.add j)=some u
variable {Q : jo} {A : Act} {fl : List (Nat × Value)} {ops : Array Oper} {o : Oper}
theorem Rd.mD {w:World} {vs:Value} {ys:List α} (hk:∀ x,(enc x).length=k) (h:Rd enc k w vs ys):
  (∃A c,vs=.slice A 0 c∧ys=[])∨∃ b o c,vs=.slice (some ⟨b,o,none⟩) ys.length c∧Src w ⟨b,o,none⟩ (ys.flatMap enc)∧b<w.heap.size:=by
 obtain⟨A,c,rfl,h2,h3,h4⟩:=h
 rcases h4 with⟨-,rfl⟩|⟨b,o,rfl,hb,hr⟩
 ·exact .inl ⟨A,c,rfl,rfl⟩
 ·refine .inr ⟨b,o,c,rfl,λj u hu=>?_,hb⟩
  have aiE:(⟨b,o,none⟩:Addr).add j=⟨b,o+j,none⟩:=by unfold Addr.add;split<;>simp_all
  rw[aiE]
  have key:∀ (ys:List α) (j:Nat) (u:Value),(ys.flatMap enc)[j]? =some u→∃ i x j',ys[i]? =some x∧(enc x)[j']? =some u∧j=i *k+j':=by
   intro ys
   induction ys with
   | nil=>intro j u h;simp at h
   | cons y ys ih=>
    intro j u h
    rw[List.flatMap_cons]at h
    rcases Nat.lt_or_ge j (enc y).length with hj|hj
    ·rw[List.getElem?_append_left hj]at h
     exact⟨0,y,j,rfl,h,by omega⟩
    ·rw[List.getElem?_append_right hj]at h
     obtain⟨i,x,j',h1,h2,h3⟩:=ih _ _ h
     refine⟨i+1,x,j',h1,h2,?_⟩
     rw[hk]at h3 hj
     rw[Nat.add_mul];omega
  obtain⟨i,x,j',h1,h2,rfl⟩:=key ys j u hu
  rw[←Nat.add_assoc]
  exact hr i x h1 j' u h2
theorem Rd.one {w:World} {b:Nat} {cs:Array Value} {x:α} (hb:b<w.heap.size) (h:∀ k,w.cell? ⟨b,k,none⟩=cs[k]?) (vV:cs.toList=enc x):Rd enc k w (.slice (some ⟨b,0,none⟩) 1 1) [x]:=by
 refine⟨_,1,rfl,Nat.le_refl _,by unfold maxLen;omega,.inr ⟨b,0,rfl,hb,λi y hy j u hu=>?_⟩⟩
 cases i with
 | zero=>
  simp at hy;subst hy
  have h0:0+0 *k+j=j:=by omega
  rw[h0,h,←Array.getElem?_toList,vV];exact hu
 | succ i=>simp at hy
structure QB (P:Program) (enc:α→ List Value) (k:Nat) (t E:TypeId) (bytes:Nat):Prop where
 len:∀ x,(enc x).length=k
 one:∀ x,∀u∈enc x,u.oneCell'=true
 ty:P.underlying t=some (.slice E)
 pos:0<k
 info:∃ z,(P.info? E).map (λi=>(i.zero,i.size,i.bytes))=some (some z,k,bytes)∧z.cells.size=k
theorem Q9 {t E:TypeId} {bytes:Nat} (he:QB P enc k t E bytes) (ty:TypeId) {w:World} {v vs:Value} {xs ys:List α} (nD:dQ enc k E w v xs) (hs:Rd enc k w vs ys) (hb:(xs.length+ys.length) *bytes≤140737488355328) (hm:xs.length+ys.length≤maxLen):
  ∃v' w',(Builtin.append_ #[t,t] ty #[v,vs]).run P w=.ok v' w'∧dQ enc k E w' v' (xs++ys)∧bF (λb=>v.ownBlock=some b) w w'∧
   (v'.ownBlock=v.ownBlock∨∃ g,v'.ownBlock=some g∧w.heap.size≤g)∧(v'=.slice none 0 0↔v=.slice none 0 0∧ys=[]):=by
 obtain⟨z,hi,hz⟩:=he.info
 obtain⟨i,QC,Jm,zq,Dk⟩:=info_parts hi
 rcases hs.mD he.len with⟨A0,c,rfl,rfl⟩|⟨b,o,c,rfl,G7,hlt⟩
 ·have zu:xs.length+0≤maxLen:=hm
  refine⟨v,w,?_,by simpa using nD,bF.refl _ _,.inl rfl,by simp⟩
  rcases nD.G6 with⟨rfl,rfl⟩|⟨g,cap,rfl,h1,_,_⟩
  ·cases A0<;>simp[loadCells,loadCellsFrom,Builtin.append_,run_underlying he.ty,sizeOf,typeInfo,QC,Builtin.lenOf,Builtin.firstCells]
  ·cases A0<;>simp[loadCells,loadCellsFrom,storeCells,Builtin.append_,run_underlying he.ty,sizeOf,typeInfo,QC,Builtin.lenOf,Builtin.firstCells,h1]
 ·have h1:∀ u∈ys.flatMap enc,u.oneCell'=true:=λu hu=>by
   obtain⟨x,_,hx⟩:=List.mem_flatMap.1 hu
   exact he.one x u hx
  obtain⟨v',w',hr,h2,h3,h4,h5⟩:=IB (P:=P) (w:=w) t ty E i z k bytes he.ty QC Jm zq Dk hz he.pos v xs.length _ nD ⟨b,o,none⟩ ys.length c _ (eH he.len ys) G7 h1 hm hb
  refine⟨v',w',hr,?_,h3,h4,?_⟩
  ·unfold dQ
   rw[List.length_append,List.flatMap_append];exact h2
  ·rw[h5]
   constructor
   ·rintro⟨h,h'⟩;exact⟨h,List.eq_nil_of_length_eq_zero h'⟩
   ·rintro⟨h,h'⟩;exact⟨h,by rw[h'];rfl⟩
theorem uG {t:TypeId} {s x:Operand} (ho:o.op=.call {callee:=.builtin .append,args:= #[s,x],argTypes:= #[t,t]}) {a:Act} {v vs v':Value} {w w':World} (hs:a.eval s=v) (hx:a.eval x=vs)
  (hr:(Builtin.append_ #[t,t] o.type #[v,vs]).run P w=.ok v' w'):(execOp a.eval o).run P w=.ok (.value v') w':=by
 unfold execOp
 simp only[ho,resolve,invoke,builtin,Sem.run_bind,Sem.run_pure,Result.andThen_ok,List.map_toArray,List.map_cons,List.map_nil,hs,hx,hr]
theorem nZ {rest:List (Oper×Nat)} {s x:Operand} {t:TypeId} {d:Nat} {E:TypeId} {bytes:Nat} {v vs:Value} {xs ys:List α}
  (he:QB P enc k t E bytes) (nD:dQ enc k E w v xs) (G7:Rd enc k w vs ys) (Dl:(xs.length+ys.length) *bytes≤140737488355328) (hm:xs.length+ys.length≤maxLen)
  (h:∀ v' W',bF (λb=>v.ownBlock=some b) w W'→dQ enc k E W' v' (xs++ys)→(v'.ownBlock=v.ownBlock∨∃ g,v'.ownBlock=some g∧w.heap.size≤g)→(v'=.slice none 0 0↔v=.slice none 0 0∧ys=[])→jh P ops Q rest (fr ((d,v')::fl) A) W')
  (ho:o.op=.call {callee:=.builtin .append,args:= #[s,x],argTypes:= #[t,t]}:=by rfl) (hd:o.dst=some d:=by rfl) (hg:o.guard=none:=by rfl)
  (hs:Is ((fr fl A).eval s) v:=by go_simp;exact Is.mk _) (hx:Is ((fr fl A).eval x) vs:=by go_simp;exact Is.mk _):
  jh P ops Q ((o,2)::rest) (fr fl A) w:=by
 refine X_v (λX K hK=>?_) hd hg
 obtain⟨v',W',hr,h2,h3,h4,h5⟩:=Q9 (P:=P) (w:=w.ah X) he o.type (nD.ah X.2) (G7.ah X.2) Dl hm
 unfold uQ
 rw[uG ho hs.eq hx.eq hr]
 refine hK v' W' (h v' W' (bF.trans X.2 h3 (λ_ _ h=>h.elim) (λ_ _ h=>h)) h2 ?_ h5)
 rcases h4 with h4|⟨g,hg,hle⟩
 ·exact .inl h4
 ·exact .inr ⟨g,hg,Nat.le_trans X.2.size hle⟩
theorem abe {rest:List (Oper×Nat)} {s x:Operand} {t:TypeId} {d:Nat} {E:TypeId} {bytes:Nat} {v vs:Value} {xs ys:List α} {w0:World} (ny:aB w0 w)
  (he:QB P enc k t E bytes) (nD:dQ enc k E w v xs) (hf:∀ b,v.ownBlock=some b→w0.heap.size≤b) (G7:Rd enc k w vs ys) (Dl:(xs.length+ys.length) *bytes≤140737488355328) (hm:xs.length+ys.length≤maxLen)
  (h:∀ (y':bM w0) v',dQ enc k E (w0.ah y') v' (xs++ys)→(∀b,v'.ownBlock=some b→w0.heap.size≤b)→(v'=.slice none 0 0↔v=.slice none 0 0∧ys=[])→bF (λb=>v.ownBlock=some b) w (w0.ah y')→jh P ops Q rest (fr ((d,v')::fl) A) (w0.ah y'))
  (ho:o.op=.call {callee:=.builtin .append,args:= #[s,x],argTypes:= #[t,t]}:=by rfl) (hd:o.dst=some d:=by rfl) (hg:o.guard=none:=by rfl)
  (hs:Is ((fr fl A).eval s) v:=by go_simp;exact Is.mk _) (hx:Is ((fr fl A).eval x) vs:=by go_simp;exact Is.mk _):
  jh P ops Q ((o,2)::rest) (fr fl A) w:=
 nZ he nD G7 Dl hm (λv' W' hM hO hF hN=>
  have hE:aB w0 W':=aB.bK ny hM hf
  h ⟨W',hE⟩ v' hO (λb hb=>by
   rcases hF with h|⟨g,h,hle⟩
   ·exact hf b (h▸hb)
   ·rw[h]at hb;cases hb;exact Nat.le_trans ny.size hle) hN hM) ho hd hg hs hx
theorem jr {rest:List (Oper×Nat)} {o2:Oper} {d:Nat} {E:TypeId} {x:Operand} {z:Value} {cs:Array Value} {n:Nat}
  (h:∀ (y:bM w) (b:Nat),w.heap.size≤b→b<(w.ah y).heap.size→(∀k,(w.ah y).cell? ⟨b,k,none⟩=cs[k]?)→(∀k,(w.ah y).frozen? ⟨b,k,none⟩=false)→
   Hid ((w.ah y).heap[b]? =some (.cells cs E))→jh P ops Q rest (fr ((d,.pointer (some ⟨b,0,none⟩))::fl) A) (w.ah y))
  (ho:o.op=.alloc E:=by rfl) (ho2:o2.op=.store E (.tmp d) x:=by rfl) (hd:o.dst=some d:=by rfl) (hd2:o2.dst=none:=by rfl) (hg:o.guard=none:=by rfl) (hg2:o2.guard=none:=by rfl)
  (hz:∀ w,(zeroValue E).run P w=.ok z w:=by intro w;go_simp;exact rfl) (hn:(P.info? E).map (·.size)=some n:=by kernel_rfl) (hzn:z.cells.size=n:=by rfl)
  (hdA:d<A.tmps.size:=by simp only[hA];decide)
  (hx:∀ b,Is ((fr ((d,.pointer (some ⟨b,0,none⟩))::fl) A).eval x) (.agg cs):=by intro b;go_simp;exact Is.mk _) (hcn:cs.size=n:=by rfl) (h1:cs.all (·.oneCell')=true:=by simp[Value.oneCell']):
  jh P ops Q ((o,1)::(o2,2)::rest) (fr fl A) w:=by
 refine dI (λX K hK=>?_) hd hg
 have Uk:(execOp (fr fl A).eval o).run P (w.ah X)=.ok (.value (.pointer (some ⟨(w.ah X).heap.size,0,none⟩))) ((w.ah X).alloc (.cells z.cells E)):=by
  unfold execOp
  simp only[ho,Instr.alloc,Sem.run_bind,hz,Result.andThen_ok,newVar,newRow,newObj,Sem.run,World.alloc_eq,Sem.run_pure]
 unfold uQ
 rw[Uk]
 refine hK _ _ (aB.alloc _ _) ?_
 refine X_w (λY K hK=>?_) hd2 hg2
 have hb:((w.ah X).alloc (.cells z.cells E)).heap[(w.ah X).heap.size]? =some (.cells z.cells E):=heap_alloc_new _ _
 have hlt:(w.ah X).heap.size<((w.ah X).alloc (.cells z.cells E)).heap.size:=by simp
 have Dk:(((w.ah X).alloc (.cells z.cells E)).ah Y).heap[(w.ah X).heap.size]? =some (.cells z.cells E):=(uf _ Y _ hlt).trans hb
 have qR:=run_storeVar_row (P:=P) (((w.ah X).alloc (.cells z.cells E)).ah Y) (w.ah X).heap.size E E z.cells cs Dk (by rw[hn,hcn]) (by rw[hzn,hcn]) h1
 have hev:(fr ((d,.pointer (some ⟨(w.ah X).heap.size,0,none⟩))::fl) A).eval (.tmp d)=.pointer (some ⟨(w.ah X).heap.size,0,none⟩):=by
  rw[aec _ _ _ hdA,aed]
 have alR:(execOp (fr ((d,.pointer (some ⟨(w.ah X).heap.size,0,none⟩))::fl) A).eval o2).run P (((w.ah X).alloc (.cells z.cells E)).ah Y)=.ok .skip ((((w.ah X).alloc (.cells z.cells E)).ah Y).setRow (w.ah X).heap.size cs):=by
  unfold execOp
  simp only[ho2,hev,(hx _).eq,Instr.storeAt,Instr.sureAddr,Sem.run_bind,Sem.run_pure,Result.andThen_ok,qR]
 unfold uQ
 rw[alR]
 refine hK undef _ ?_
 have hE:aB w ((((w.ah X).alloc (.cells z.cells E)).ah Y).setRow (w.ah X).heap.size cs):=by
  have h0:=X.2.size
  refine⟨?_,?_,?_,?_,λk hk _=>?_⟩
  ·exact Y.2.os.trans ((aB.alloc _ _).os.trans X.2.os)
  ·exact Y.2.tape.trans ((aB.alloc _ _).tape.trans X.2.tape)
  ·exact Y.2.output.trans ((aB.alloc _ _).output.trans X.2.output)
  ·rw[setRow_size];exact Nat.le_trans h0 (Nat.le_trans (aB.alloc _ _).size Y.2.size)
  ·have h0':w.heap.size≤(w.ah X).heap.size:=h0
   rw[setRow_other _ _ _ _ (by omega)]
   have JF:k<(w.ah X).heap.size:=by omega
   exact(uf _ Y k (by simp;omega)).trans ((Below.heap_alloc _ _ _ JF).trans (uf _ X k hk))
 have NT:((((w.ah X).alloc (.cells z.cells E)).ah Y).setRow (w.ah X).heap.size cs).heap[(w.ah X).heap.size]? =some (.cells cs E):=setRow_heap _ _ _ _ _ _ Dk
 have Xb:(w.ah X).heap.size<((((w.ah X).alloc (.cells z.cells E)).ah Y).setRow (w.ah X).heap.size cs).heap.size:=(Array.getElem?_eq_some_iff.1 NT).1
 have:=h ⟨_,hE⟩ (w.ah X).heap.size X.2.size Xb (λk=>cell_of_row _ _ _ _ _ _ NT) (λk=>by
  show World.frozen? ((((w.ah X).alloc (.cells z.cells E)).ah Y).setRow (w.ah X).heap.size cs) _=false
  unfold World.frozen?;simp only[NT];simp) NT
 exact this
end
section
variable {ρ : Option Nat} {P : Program} {ops : Array Oper} {Q : jo}
def Xy (ops:Array Oper) (listed:Array Bool):Bool:=
 (List.range ops.size).all λj=> !listed.getD j false||match ops[j]? with|some o=>o.after.all λe=> !Region.binds .any e||listed.getD e.on false|none=>true
theorem YA {listed:Array Bool} (h:Xy ops listed=true):uz .any ops listed:=by
 intro j oj hj hl e he hb
 have hlt:j<ops.size:=(Array.getElem?_eq_some_iff.1 hj).1
 have h1:=List.all_eq_true.1 h j (List.mem_range.2 hlt)
 simp only[hl,Bool.not_true,Bool.false_or,hj,Array.all_eq_true_iff_forall_mem]at h1
 have:=h1 e he
 simpa [hb] using this
def U2 (ops:Array Oper) (hs:List Nat) (listed:Array Bool) (i:Nat):Bool:=
 Region.noSelect ops&& !hs.contains i&&(Region.ready .any ops listed).contains i&&Region.free .any ops listed i&&Xy ops listed&&
  ((hs.all λj=>((Region.before ops).getD j 0).testBit i||((Region.before ops).getD i 0).testBit j)||(match ops[i]? with|some o=>Oper.Jl o|none=>false))
abbrev Ju (P:Program) (ops:Array Oper) (hs:List Nat) (Q:jo) (f:Nat) (listed:Array Bool) (a:Act) (w:World):Prop:=wpS P .any ops (λj=>hs.contains j) (QJ Q) f listed a w
variable {hs : List Nat} {f : Nat} {listed : Array Bool} {a : Act} {w : World} {A : Act} {fl : List (Nat × Value)}
theorem aeg {i:Nat} {o:Oper} {v:Value} (hi:ops[i]? =some o) (hB:U2 ops hs listed i=true) (hy:jC P ops o v a w) (h:Ju P ops hs Q f (listed.setIfInBounds i true) (a.put o.dst v) w):Ju P ops hs Q (f+1) listed a w:=by
 simp only[U2,Bool.and_eq_true,Bool.not_eq_true']at hB
 obtain⟨⟨⟨⟨⟨kF,hih⟩,hr⟩,hf⟩,hc⟩,hre⟩:=hB
 refine Oa hi (Region.noSelect_spec kF) hih ?_ f listed a w (YA hc) (Region.free_spec hi hf) (by simpa using hr) hy h
 rw[Bool.or_eq_true]at hre
 rcases hre with hre|hmv
 ·left
  intro j hj
  have h1:=List.all_eq_true.1 hre j (by simpa using hj)
  simp only[Bool.or_eq_true]at h1
  exact h1.imp (lM ops i j) (lM ops j i)
 ·right
  simpa only[hi] using hmv
theorem oG (hr:Region.ready .any ops listed=[]:=by kernel_rfl) (h:Q .normal a w):Ju P ops hs Q 0 listed a w:=⟨hr,λx=>⟨w,x.2,h⟩⟩
theorem iH {i:Nat} {o:Oper} {v:Value} {d:Nat} (h:Ju P ops hs Q f (listed.setIfInBounds i true) (fr ((d,v)::fl) A) w) (hi:ops[i]? =some o:=by rfl) (hB:U2 ops hs listed i=true:=by kernel_rfl)
  (hd:o.dst=some d:=by rfl) (hg:o.guard=none:=by rfl) (hv:∀ x:bM w,o.quietAt P (fr fl A) (aB (w.ah x)) (w.ah x) v:=by intro x;go_simp;(try go_bits);exact rfl):Ju P ops hs Q (f+1) listed (fr fl A) w:=
 aeg hi hB (.inl ⟨by simp[Region.wanted,hg],hv⟩) (by rw[hd,lW];exact h)
theorem Ju.ah {w':World} (h:Ju P ops hs Q f listed a w) (hE:aB w w'):Ju P ops hs Q f listed a w':=wpS.ah h hE
theorem Oc {i:Nat} {o:Oper} {d:Nat} (h:∀ (x:bM w) (K:Value→World→Prop),(∀v w' w0,aB (w.ah x) w'→aB w0 w'→Ju P ops hs Q f (listed.setIfInBounds i true) (fr ((d,v)::fl) A) w0→K v w')→uQ P o (fr fl A) (w.ah x) K)
  (hi:ops[i]? =some o:=by rfl) (hr:Region.ready .any ops listed=[i]:=by kernel_rfl) (hh:hs.contains i=false:=by rfl) (hd:o.dst=some d:=by rfl) (hg:o.guard=none:=by rfl):Ju P ops hs Q (f+1) listed (fr fl A) w:=by
 intro x
 refine⟨λh0=>(by rw[hr]at h0;cases h0),λj hj=>?_⟩
 rw[hr]at hj
 obtain rfl:j=i:=by simpa using hj
 simp only[hh,Bool.false_eq_true,if_false]
 unfold fQ
 simp only[hi]
 rw[if_pos (by simp[Region.wanted,hg])]
 refine rF (h x (λv w'=>aB (w.ah x) w'∧Ju P ops hs Q f (listed.setIfInBounds j true) (fr ((d,v)::fl) A) w') λv w' w0 hE ny h=>⟨hE,Ju.ah h ny⟩) λv w' hk=>⟨hk.1,?_⟩
 rw[hd,lW];exact hk.2
def Rf (P:Program) (ops:Array Oper) (hs:List Nat) (Q:jo) (f:Nat) (listed:Array Bool) (a:Act) (w:World) (i:Nat):Prop:=
 ∀x:bM w,fQ P ops i (λa' w'=>(hs.contains i=false→aB (w.ah x) w')∧Ju P ops hs Q f (listed.setIfInBounds i true) a' w') a (w.ah x)
theorem dP {i:Nat} {rs:List Nat} (h:∀ j∈i::rs,Rf P ops hs Q f listed a w j) (hr:Region.ready .any ops listed=i::rs:=by kernel_rfl):Ju P ops hs Q (f+1) listed a w:=by
 intro x
 refine⟨λh0=>(by rw[hr]at h0;cases h0),λj hj=>?_⟩
 rw[hr]at hj
 have zq:=h j hj x
 split
 ·exact gW (λ_ _ h=>h.2) zq
 ·rename_i hc
  exact gW (λ_ _ h=>⟨h.1 (by simpa using hc),h.2⟩) zq
theorem dh {p:Nat→Prop} {i:Nat} {rs:List Nat} (h:p i) (hr:∀ j∈rs,p j):∀ j∈i::rs,p j:=by
 intro j hj
 rcases List.mem_cons.1 hj with rfl|hj
 ·exact h
 ·exact hr j hj
theorem fG {p:Nat→Prop}:∀ j∈([]:List Nat),p j:=by intro j hj;cases hj
theorem S_s {i:Nat} {o:Oper} {d:Nat} (h:∀ (x:bM w) (K:Value→World→Prop),(∀v w' w0,aB (w.ah x) w'→aB w0 w'→Ju P ops hs Q f (listed.setIfInBounds i true) (fr ((d,v)::fl) A) w0→K v w')→uQ P o (fr fl A) (w.ah x) K)
  (hi:ops[i]? =some o:=by rfl) (hd:o.dst=some d:=by rfl) (hg:o.guard=none:=by rfl):Rf P ops hs Q f listed (fr fl A) w i:=by
 intro x
 unfold fQ
 simp only[hi]
 rw[if_pos (by simp[Region.wanted,hg])]
 refine rF (h x (λv w'=>aB (w.ah x) w'∧Ju P ops hs Q f (listed.setIfInBounds i true) (fr ((d,v)::fl) A) w') λv w' w0 hE ny h=>⟨hE,Ju.ah h ny⟩) λv w' hk=>⟨λ_=>hk.1,?_⟩
 rw[hd,lW];exact hk.2
theorem S_w {i:Nat} {o:Oper} (h:∀ (x:bM w) (K:Value→World→Prop),(∀v w',Ju P ops hs Q f (listed.setIfInBounds i true) (fr fl A) w'→K v w')→uQ P o (fr fl A) (w.ah x) K)
  (hi:ops[i]? =some o:=by rfl) (hh:hs.contains i=true:=by rfl) (hd:o.dst=none:=by rfl) (hg:o.guard=none:=by rfl):Rf P ops hs Q f listed (fr fl A) w i:=by
 intro x
 unfold fQ
 simp only[hi]
 rw[if_pos (by simp[Region.wanted,hg])]
 refine rF (h x (λv w'=>Ju P ops hs Q f (listed.setIfInBounds i true) (fr fl A) w') λv w' h=>h) λv w' hk=>⟨λh0=>absurd h0 (by rw[hh];decide),?_⟩
 rw[hd];exact hk
theorem jl {i:Nat} {o:Oper} {g:FuncId} {fn:Func} {la:List Operand} {ats:Array TypeId} {lv yO:List Value} {R:World→Value→World→Prop} {d:Nat} (hf:P.funcs[g]? =some fn)
  (hc:∀ x:bM w,gK P g lv.toArray (w.ah x) (R (w.ah x))) (h:∀ (x:bM w) v w',R (w.ah x) v w'→aB (w.ah x) w'∧Ju P ops hs Q f (listed.setIfInBounds i true) (fr ((d,v)::fl) A) w') (hi:ops[i]? =some o:=by rfl) (hd:o.dst=some d:=by rfl)
  (yL:o.op=.call {callee:=.value (.func g),args:=la.toArray,argTypes:=ats}:=by rfl) (hn:iC fn=true:=by kernel_rfl) (hg:o.guard=none:=by rfl) (mW:Is (la.map (fr fl A).eval) yO:=by go_simp;exact Is.mk _) (hlv:yO=lv:=by rfl):Rf P ops hs Q f listed (fr fl A) w i:=by
 intro x
 unfold fQ
 simp only[hi]
 rw[if_pos (by simp[Region.wanted,hg])]
 unfold Bz
 rw[o9 hf hn yL,mW.eq,hlv]
 simp only[nH]
 refine Calls.mono (Fn.Dj (hc x)) λe w' hR=>?_
 obtain⟨w0,hE,hR⟩:=hR
 cases e with
 | returned v=>
  obtain⟨h1,h2⟩:=h x v w0 hR
  exact⟨λ_=>Et h1 hE,by rw[hd,lW];exact h2.ah hE⟩
 | panicked c=>exact hR.elim
 | outgrown=>exact hR.elim
theorem vg {rid:Nat} {l:List Oper} (hs:List Nat) (hm:P.follows .mixedOrders=true) (h:Ju P l.toArray hs Q l.length (Array.replicate l.length false) a w) (hnd:BQ ρ l:=by first|exact .inl rfl|exact .inr (by kernel_rfl)):Wp ρ P (.region rid l.toArray true) Q a w:=Wp.intro λx=>by
 refine wpIn_region_any hm ?_
 have:=vX (n:=0) hnd.get _ _ _ _ (Ju.ah h (Et x.2 (aB.drew _)))
 rw[List.size_toArray]
 exact this
theorem qN (x:bM w) {cs:Array Value} {e:TypeId} (h:∀ y:bM w,w.heap.size≤(w.ah x).heap.size→(w.ah x).heap.size<(w.ah y).heap.size→
  (∀k,(w.ah y).cell? ⟨(w.ah x).heap.size,k,none⟩=cs[k]?)→(∀k,(w.ah y).frozen? ⟨(w.ah x).heap.size,k,none⟩=false)→Hid ((w.ah y).heap[(w.ah x).heap.size]? =some (.cells cs e))→Ju P ops hs Q f listed a (w.ah y)):
  Ju P ops hs Q f listed a ((w.ah x).alloc (.cells cs e)):=
 h ⟨_,Et x.2 (aB.alloc _ _)⟩ (Ez _ _) (by show _<((w.ah x).alloc _).heap.size;simp) (λk=>World.cell?_alloc_new _ _ _ _) (λk=>World.frozen?_alloc_new _ _ _ _) (heap_alloc_new _ _)
variable {α : Type} {enc : α → List Value} {k : Nat}
end
end Go.Ws
namespace Go.Ws
open Go Go.RowKit Go.Proofs
set_option maxHeartbeats 4000000
set_option maxRecDepth 100000
set_option linter.unusedVariables false
set_option linter.unusedSimpArgs false
structure Opn where
 num:Int
 first:Int
 deriving DecidableEq,Inhabited
theorem cZ.len (o:cZ):o.cs.length=6:=rfl
abbrev xK (n:Int):List Value:=[.int .i64 n]
theorem Rd.int {w:World} {v:Value} {l:List Int} (h:Rd xK 1 w v l):∃ A c,v=.slice A l.length c∧l.length≤c∧c≤9223372036854775807∧
  Hid (∀i,i<l.length→∃ e b o,Hid (l[i]? =some e)∧A=some ⟨b,o,none⟩∧b<w.heap.size∧w.cell? ⟨b,o+i,none⟩=some (.int .i64 e)):=by
 obtain⟨A,c,h1,h2,h3,h4⟩:=h
 refine⟨A,c,h1,h2,h3,λi hi=>?_⟩
 have he:l[i]? =some l[i]:=by simp[hi]
 rcases h4 with⟨_,rfl⟩|⟨b,o,hA,hb,hr⟩
 ·simp at hi
 ·have:=hr i _ he 0 _ rfl
  exact⟨l[i],b,o,he,hA,hb,by simpa using this⟩
theorem aeh:(Tryz.prog.info? 102).map (λi=>(i.zero,i.size,i.bytes))=some (some (.agg #[.int .i64 0,.int .i64 0,.int .i64 0,.int .i64 0,.int .i64 0,.int .i64 0]),6,48):=by kernel_rfl
theorem aei:(Tryz.prog.info? 3).map (λi=>(i.zero,i.size,i.bytes))=some (some (.int .i64 0),1,8):=by kernel_rfl
theorem JO:QB Tryz.prog cZ.cs 6 40 102 48:=⟨cZ.len,λx u h=>by simp[cZ.cs]at h;rcases h with rfl|rfl|rfl|rfl|rfl|rfl<;>rfl,Tryz.underlying40,by decide,_,aeh,rfl⟩
theorem xU:QB Tryz.prog xK 1 43 3 8:=⟨λ_=>rfl,λx u h=>by simp[xK]at h;subst h;rfl,Tryz.underlying43,by decide,_,aei,rfl⟩
theorem U3 (ox oy:Operand) (a b:Array Value) (w:World):(eqGuard .neq 102 ox oy (.agg a) (.agg b)).run Tryz.prog w=.ok () w:=by
 have hg:Tryz.prog.eqGuardType Tryz.prog.depth 102=false:=by kernel_rfl
 simp[eqGuard,program,Sem.run,hg]
set_option maxHeartbeats 1000000 in
theorem abf (x y:cZ) (w:World):(Op.equal 102 x.v y.v).run Tryz.prog w=.ok (decide (x=y)) w:=by
 have qR:Tryz.prog.stoodInHeld 102=false:=by kernel_rfl
 have key:∀ (t:TypeId),Tryz.prog.underlying t=some (.int .i64)→∀ (a b:Int) (cs ds:Array Value) (i:Nat) (w:World),cs[i]? =some (.int .i64 a)→ds[i]? =some (.int .i64 b)→
   (part t cs i).run Tryz.prog w=.ok (.int .i64 a) w∧(part t ds i).run Tryz.prog w=.ok (.int .i64 b) w∧(Op.equalIn 9999 t (.int .i64 a) (.int .i64 b)).run Tryz.prog w=.ok (a==b) w:=
  λt ht a b cs ds i w h1 h2=>⟨QZ ht cs i _ w h1,QZ ht ds i _ w h2,QY ht 9998 a b w⟩
 obtain⟨a0,a1,a2,a3,a4,a5⟩:=x
 obtain⟨b0,b1,b2,b3,b4,b5⟩:=y
 have k0:=key 2 Tryz.underlying2 a0 b0 #[.int .i64 a0,.int .i64 a1,.int .i64 a2,.int .i64 a3,.int .i64 a4,.int .i64 a5] #[.int .i64 b0,.int .i64 b1,.int .i64 b2,.int .i64 b3,.int .i64 b4,.int .i64 b5] 0 w rfl rfl
 have k1:=key 3 Tryz.underlying3 a1 b1 #[.int .i64 a0,.int .i64 a1,.int .i64 a2,.int .i64 a3,.int .i64 a4,.int .i64 a5] #[.int .i64 b0,.int .i64 b1,.int .i64 b2,.int .i64 b3,.int .i64 b4,.int .i64 b5] 1 w rfl rfl
 have k2:=key 2 Tryz.underlying2 a2 b2 #[.int .i64 a0,.int .i64 a1,.int .i64 a2,.int .i64 a3,.int .i64 a4,.int .i64 a5] #[.int .i64 b0,.int .i64 b1,.int .i64 b2,.int .i64 b3,.int .i64 b4,.int .i64 b5] 2 w rfl rfl
 have k3:=key 2 Tryz.underlying2 a3 b3 #[.int .i64 a0,.int .i64 a1,.int .i64 a2,.int .i64 a3,.int .i64 a4,.int .i64 a5] #[.int .i64 b0,.int .i64 b1,.int .i64 b2,.int .i64 b3,.int .i64 b4,.int .i64 b5] 3 w rfl rfl
 have k4:=key 100 Tryz.underlying100 a4 b4 #[.int .i64 a0,.int .i64 a1,.int .i64 a2,.int .i64 a3,.int .i64 a4,.int .i64 a5] #[.int .i64 b0,.int .i64 b1,.int .i64 b2,.int .i64 b3,.int .i64 b4,.int .i64 b5] 4 w rfl rfl
 have k5:=key 2 Tryz.underlying2 a5 b5 #[.int .i64 a0,.int .i64 a1,.int .i64 a2,.int .i64 a3,.int .i64 a4,.int .i64 a5] #[.int .i64 b0,.int .i64 b1,.int .i64 b2,.int .i64 b3,.int .i64 b4,.int .i64 b5] 5 w rfl rfl
 unfold Op.equal Op.maxDepth
 rw[show (10000:Nat)=9999+1 from rfl,Op.equalIn]
 simp only[Sem.run_bind,run_underlying Tryz.underlying102,Result.andThen_ok,program,Sem.run,qR]
 by_cases h0:a0=b0
 rotate_left;· simp[k0,h0]
 subst h0
 by_cases h1:a1=b1
 rotate_left;· simp[k0,k1,h1]
 subst h1
 by_cases h2:a2=b2
 rotate_left;· simp[k0,k1,k2,h2]
 subst h2
 by_cases h3:a3=b3
 rotate_left;· simp[k0,k1,k2,k3,h3]
 subst h3
 by_cases h4:a4=b4
 rotate_left;· simp[k0,k1,k2,k3,k4,h4]
 subst h4
 by_cases h5:a5=b5
 rotate_left;· simp[k0,k1,k2,k3,k4,k5,h5]
 subst h5
 simp[k0,k1,k2,k3,k4,k5]
theorem ag0 (x y:cZ) (w:World):(binOp .neq 102 x.v y.v).run Tryz.prog w=.ok (.bool (decide (x≠y))) w:=by
 have h:=abf x y w
 have e:binOp .neq 102 x.v y.v=(do pure (.bool (!(←Op.equal 102 x.v y.v)))):=rfl
 rw[e]
 simp only[Sem.run_bind,h,Result.andThen_ok,Sem.run_pure]
 rw[←decide_not]
abbrev BX:=dQ cZ.cs 6 102
abbrev ig:=dQ xK 1 3
end Go.Ws
namespace Go.Ws
open Go Go.RowKit Go.Proofs Go.ChangeShapes Go.WideShapes
set_option maxHeartbeats 4000000
set_option maxRecDepth 100000
set_option linter.unusedVariables false
set_option linter.unusedSimpArgs false
section
variable {H : Type} {enc : TypeId × Value → H} {W : World} {base : Nat} {sp : Nat → Bool} {gq : Bool} {v : Value} {d : DataW H} {ps : List MemPlace}
theorem U4 {P:Program} {t e:TypeId} {a:Addr} {n c:Nat} (ht:P.underlying t=some (.slice e)) (h:Value.okWide P W .any base t (.slice (some a) n c)):a.spot=none∧a.block<W.heap.size:=by
 unfold Value.okWide at h
 rw[ht]at h
 simp only[Cell.okWide,ht,Cell.ok]at h
 obtain⟨_,_,_,hs,row,cells,hsh,_⟩:=h
 refine⟨hs,?_⟩
 unfold World.shape? at hsh
 rcases Nat.lt_or_ge a.block W.heap.size with h1|h1
 ·exact h1
 ·rw[Array.getElem?_eq_none h1]at hsh;cases hsh
theorem aej {α:Type} {en:α→ List Value} {k:Nat} {P:Program} {t e:TypeId} (ht:P.underlying t=some (.slice e)) (hk:P.cellsOf e=k) (aaA:0<k) (iR:∀ x,(en x).length=k)
  (one:∀ n cs x,DataW.trod enc P W 0 sp gq n e cs=some x→∃ y,cs=en y)
  (lU:Value.okWide P W .any base t v) (h:DataW.Trod enc P W 0 sp gq t v d ps):∃ l,Rd en k W v l:=by
 obtain⟨fuel,hf⟩:=h
 obtain⟨a0,len,cap,rfl⟩:=okWide_slice ht lU
 rcases Deep.open_slice ht hf with⟨vV,_⟩|⟨a,len',cap',m,n,D,Pl,vV,_,hl,hm,BI,_,hx⟩
 ·simp[Value.cells]at vV
  obtain⟨rfl,rfl,rfl⟩:=vV
  exact⟨[],Rd.nil W⟩
 ·simp[Value.cells]at vV
  obtain⟨rfl,rfl,rfl⟩:=vV
  obtain⟨hsp,hb⟩:=U4 ht lU
  obtain⟨b,o,s⟩:=a
  simp only at hsp hb
  subst hsp
  have hlm:len≤m:=by rw[BI];split<;>omega
  have each:∀ i,i<len→∃ y,∀j u,(en y)[j]? =some u→W.cell? ⟨b,o+i *k+j,none⟩=some u:=by
   intro i hi
   obtain⟨cs',h1,h2⟩:=hx i (by omega)
   obtain⟨_,Fg,iK⟩:=World.cells?_some h1
   obtain⟨y,rfl⟩:=one _ _ _ h2
   refine⟨y,λj u hu=>?_⟩
   have hj:j<k:=by
    rw[←iR y]
    exact(Ge hu).1
   have:=iK j (by omega)
   rw[hk]at this
   rw[hu]at this
   rw[←this,add_plain,add_plain]
  by_cases zu:len=0
  ·subst zu
   exact⟨[],_,cap,rfl,Nat.zero_le _,hm,.inr ⟨b,o,rfl,hb,λi x hx=>by simp at hx⟩⟩
  have jm:Nonempty α:=⟨(each 0 (by omega)).choose⟩
  have ou:Inhabited α:=⟨Classical.choice jm⟩
  obtain⟨f,hf⟩:=Deep.choose_lt each
  refine⟨(List.range len).map f,_,cap,by simp,by simpa using hl,hm,.inr ⟨b,o,rfl,hb,λi x hx j u hu=>?_⟩⟩
  simp only[List.getElem?_map]at hx
  rcases Nat.lt_or_ge i len with hi|hi
  ·rw[List.getElem?_range hi]at hx
   cases hx
   exact hf i hi j u hu
  ·rw[List.getElem?_eq_none (by simpa using hi)]at hx;cases hx
theorem Xz (n:Nat) (cs:List Value) (x:DataW H×List MemPlace) (h:DataW.trod enc Tryz.prog W 0 sp gq n 102 cs=some x):∃ y:cZ,cs=y.cs:=by
 obtain⟨xs,m,_,_,hl,NU,hf⟩:=DataW.trod_struct Tryz.underlying102 h
 have hc:Tryz.prog.cellsOf 102=6:=by kernel_rfl
 rw[hc]at hl
 match cs,hl with
 | [c0,c1,c2,c3,c4,c5],_=>
  have Xc:xs.length=6:=NU
  have go:∀ (i:Nat) (t:TypeId) (c:Value),Tryz.prog.underlying t=some (.int .i64)→DataW.trod enc Tryz.prog W 0 sp gq m t [c]=xs[i]? →i<6→∃ z,c=.int .i64 z:=by
   intro i t c ht hd hi
   rw[List.getElem?_eq_getElem (by omega)]at hd
   obtain⟨z,hz,_⟩:=DataW.trod_int ht hd
   simp at hz
   exact⟨z,hz⟩
  have g0:=hf 0 _ rfl
  have g1:=hf 1 _ rfl
  have g2:=hf 2 _ rfl
  have g3:=hf 3 _ rfl
  have g4:=hf 4 _ rfl
  have g5:=hf 5 _ rfl
  have k1:Tryz.prog.cellsOf 2=1:=by kernel_rfl
  have k2:Tryz.prog.cellsOf 3=1:=by kernel_rfl
  have k3:Tryz.prog.cellsOf 100=1:=by kernel_rfl
  simp[k1,k2,k3]at g0 g1 g2 g3 g4 g5
  obtain⟨z0,rfl⟩:=go 0 _ c0 Tryz.underlying2 g0 (by omega)
  obtain⟨z1,rfl⟩:=go 1 _ c1 Tryz.underlying3 g1 (by omega)
  obtain⟨z2,rfl⟩:=go 2 _ c2 Tryz.underlying2 g2 (by omega)
  obtain⟨z3,rfl⟩:=go 3 _ c3 Tryz.underlying2 g3 (by omega)
  obtain⟨z4,rfl⟩:=go 4 _ c4 Tryz.underlying100 g4 (by omega)
  obtain⟨z5,rfl⟩:=go 5 _ c5 Tryz.underlying2 g5 (by omega)
  exact⟨⟨z0,z1,z2,z3,z4,z5⟩,rfl⟩
end
theorem afZ:ownKnob Tryz.prog.godebug=none:=by kernel_rfl
theorem DI:laidOutB Tryz.prog=true:=by kernel_rfl
end Go.Ws
namespace Go.Ws
open Go Go.RowKit Go.Proofs Go.ChangeAt
set_option maxHeartbeats 4000000
set_option maxRecDepth 100000
set_option linter.unusedVariables false
set_option linter.unusedSimpArgs false
theorem YB {s:String} {l:List Char} (h:s=String.ofList l):s.toList=l:=by subst h;exact String.toList_ofList
theorem qX:∀ (w r:List Char),(w.all λc=>c.toNat != 32)=true→wordsSigns (w++Char.ofNat 32::r)=w::wordsSigns r
 | [],r,_=>rfl
 | c::w,r,h=>by
  simp only[List.all_cons,Bool.and_eq_true]at h
  have ih:=qX w r h.2
  have hc:c≠Char.ofNat 32:=by rintro rfl;exact absurd h.1 (by decide)
  rw[List.cons_append,wordsSigns,ih]
  exact hc
def abg:List Char:=[104,97,114,110,101,115,115].map Char.ofNat
def abh:List Char:=[48,53,55,50,101,99,52,54,54,54,98,53,53,48,101,101,55,49,55,55,57,52,100,99,101,48,55,49,99,49,51,97,53,49,97,48,50,48,100,101,55,97,99,98,56,56,100,100,52,56,101,52,52,57,50,102,102,53,50,50,48,52,55,97].map Char.ofNat
def zx:List Char:=[99,117,116].map Char.ofNat
def abj:List Char:=[97,116,32,119,97,121,115,116,97,116,105,111,110,47,119,97,121,115,116,97,116,105,111,110,108,97,119,49,50,46,67,108,117,115,116,101,114,75,101,101,112,115,32,119,97,121,115,116,97,116,105,111,110,47,119,97,121,115,116,97,116,105,111,110,108,97,119,49,50,46,67,108,117,115,116,101,114,66,97,103,32,119,97,121,115,116,97,116,105,111,110,47,119,97,121,115,116,97,116,105,111,110,108,97,119,49,50,46,67,108,117,115,116,101,114,67,111,112,105,101,115,32,119,97,121,115,116,97,116,105,111,110,47,119,97,121,115,116,97,116,105,111,110,108,97,119,49,50,46,67,108,117,115,116,101,114,80,108,97,121,32,119,97,121,115,116,97,116,105,111,110,47,119,97,121,115,116,97,116,105,111,110,108,97,119,49,50,46,67,108,117,115,116,101,114,76,101,97,100,115,32,119,97,121,115,116,97,116,105,111,110,47,119,97,121,115,116,97,116,105,111,110,108,97,119,49,50,46,67,108,117,115,116,101,114,83,116,101,112,115,32,119,97,121,115,116,97,116,105,111,110,47,119,97,121,115,116,97,116,105,111,110,108,97,119,49,50,46,67,108,117,115,116,101,114,77,97,114,107,115,32,119,97,121,115,116,97,116,105,111,110,47,119,97,121,115,116,97,116,105,111,110,108,97,119,49,50,46,67,108,117,115,116,101,114,78,105,108].map Char.ofNat
theorem abk:Tryz.prog.initOrder.toList=abg++Char.ofNat 32::(abh++Char.ofNat 32::(zx++Char.ofNat 32::abj)):=YB (by kernel_rfl)
theorem YC:wordsSigns Tryz.prog.initOrder.toList=abg::abh::zx::wordsSigns abj:=by
 rw[abk,qX _ _ (by decide+kernel),qX _ _ (by decide+kernel),qX _ _ (by decide+kernel)]
theorem U5 (r:List (List Char)):behindMainWord (abg::abh::zx::r)=zx::r:=by kernel_rfl
theorem Dx:behindMainWord (wordsSigns Tryz.prog.initOrder.toList)=zx::wordsSigns abj:=by rw[YC,U5]
theorem ajS : (zx == "gc".toList) = false := by kernel_rfl
theorem abl : (zx == "spec".toList) = false := by kernel_rfl
theorem Oe : (zx == "carried".toList) = false := by kernel_rfl
theorem abm : (zx == "cut".toList) = true := by kernel_rfl
theorem adl (r:List (List Char)):stripLifts liftWords (zx::r)=([],zx::r):=by kernel_rfl
theorem ag1:Tryz.prog.laysLater=false:=by kernel_rfl
theorem ag2:Tryz.prog.bearsReflect=false:=by kernel_rfl
theorem aek:Tryz.prog.doorFits []=true:=by kernel_rfl
theorem PE {P:Program} {c:List Char} {r:List (List Char)} (h:behindMainWord (wordsSigns P.initOrder.toList)=c::r) (hs:stripLifts liftWords (c::r)=([],c::r)):P.headLifts=[]:=by
 unfold Program.headLifts
 rw[h,hs]
 exact ite_self _
theorem Rh {P:Program} {c:List Char} {r:List (List Char)} (h:behindMainWord (wordsSigns P.initOrder.toList)=c::r) (hs:stripLifts liftWords (c::r)=([],c::r))
  (h1 : (c == "gc".toList) = false) (h2 : (c == "spec".toList) = false) (h3 : (c == "carried".toList) = false) (h4 : ((c :: r).head? == some "cut".toList) = true) (h5 : P.laysLater = false) (h6 : P.bearsReflect = false) (h7 : P.doorFits [] = true) : P.mayEnter = true := by
 unfold Program.mayEnter
 rw[h]
 simp only[hs,h1,h2,h3,h4,h5,h6,h7,Bool.or_self,Bool.false_and,Bool.false_or,Bool.not_false,Bool.or_true,Bool.and_self,Bool.true_and,List.contains_nil]
theorem Nj {P:Program} {c:List Char} {r:List (List Char)} (h:behindMainWord (wordsSigns P.initOrder.toList)=c::r) (hl:P.headLifts=[])
  (h3 : ((c :: r).head? == some "carried".toList) = false) : P.liftsFinal = false := by
 unfold Program.liftsFinal
 rw[h,hl]
 simp only[h3,Bool.false_and,Bool.false_or,List.contains_nil]
theorem ael {P:Program} {c:List Char} {r:List (List Char)} (h:behindMainWord (wordsSigns P.initOrder.toList)=c::r)
  (h1 : (c == "gc".toList) = false) (h2 : (c == "spec".toList) = false) (h4 : (c == "cut".toList) = true) : P.make = some .cut := by
 unfold Program.make
 rw[h]
 simp only[h1,h2,h4,Bool.or_self,Bool.true_or,Bool.false_eq_true,if_false,if_true]
theorem aem (r : List (List Char)) : ((zx :: r).head? == some "cut".toList) = true := abm
theorem Ri (r : List (List Char)) : ((zx :: r).head? == some "carried".toList) = false := Oe
theorem Rj:Tryz.prog.headLifts=[]:=PE Dx (adl _)
theorem mayEnter:Tryz.prog.mayEnter=true:=Rh Dx (adl _) ajS abl Oe (aem _) ag1 ag2 aek
theorem liftsFinal:Tryz.prog.liftsFinal=false:=Nj Dx Rj (Ri _)
theorem abn:Tryz.prog.make=some .cut:=ael Dx ajS abl abm
theorem XA:mapsRowed Tryz.prog=true:=by kernel_rfl
theorem XB:(Tryz.prog.stops==[])=true:=by kernel_rfl
theorem IC:(Tryz.prog.stopKnobs==[])=true:=by kernel_rfl
theorem IE:Tryz.prog.plainKeys=false:=by kernel_rfl
theorem FQ:Tryz.prog.stopsHeard=true:=by kernel_rfl
theorem Og {P:Program} {f:FuncId} {fn:Func} {s:ChangeSpec} {c:OpenClaim}
  (k0:(c.wf (OpenSpec.ofChange s))=true)
  (k1:(laidOutB P)=true)
  (k2:(mapsRowed P)=true)
  (k3:(fn.params.all (P.readableRec ·))=true)
  (k4:(namedTie P c.named s.vars)=true)
  (k5:(c.stops==[])=true)
  (k6:(P.stops==[])=true)
  (k7:(c.knobs==[])=true)
  (k8:(P.stopKnobs==[])=true)
  (k9:(c.inPlace==P.inPlace f)=true)
  (k10:(c.unfollowed==P.unfollowed f)=true)
  (k11:(c.recurses==P.recurses f)=true)
  (k12:(c.named==P.varsNamed f)=true)
  (k13:(c.maps==(fn.params.toList++s.plain.varTypes P).any (P.mapsRec ·))=true)
  (k14:(c.ifaces==(fn.params.toList++s.plain.varTypes P).any (P.ifacesRec ·))=true)
  (k15:(c.mapsOut==P.mapsAmong fn.resultTypes.toList)=true)
  (k16:(c.loops==(fn.params.toList++s.plain.varTypes P).any (P.loopsFrom ·))=true)
  (k17:(c.wideKeys==(fn.params.toList++s.plain.varTypes P++fn.resultTypes.toList).any (P.wideKeysFrom ·))=true)
  (k18:(s.vars.all (P.varReadable ·))=true)
  (k19:(fn.resultTypes.all (λt=>P.readableRec t&&decide (t<P.types.size)))=true)
  (k20:(c.ifacesOut==fn.resultTypes.toList.any (P.ifacesRec ·))=true)
  (k21:(c.loopsOut==fn.resultTypes.toList.any (P.loopsFrom ·))=true)
  (k22:(c.plainKeys==P.plainKeys)=true)
  (k23:(c.shortTexts.isNone)=true)
  (k24:(P.stopsHeard)=true)
  (k25:(P.mayEnter)=true)
  (k26:(c.lifted==P.liftsFinal)=true)
  (k27:(P.make==some c.make)=true)
  (k28:(c.kinds==(if c.domain.isEmpty then [] else fn.params.toList.map λt=>match P.underlying t with|some (.int k)=>some k|_=>none))=true)
  (k29:(c.pinned==c.pinnedBy)=true)
  (k30:(c.veiled==(fn.params.toList++s.plain.varTypes P++fn.resultTypes.toList).any (P.veiledRec ·))=true)
  (k31:(c.veiledFits P fn.params.toList (fn.params.toList++s.plain.varTypes P++fn.resultTypes.toList))=true):joinedFacts P f fn s c=true:=by
 unfold joinedFacts
 simp only[Bool.and_eq_true]
 exact⟨⟨⟨⟨⟨⟨⟨⟨⟨⟨⟨⟨⟨⟨⟨⟨⟨⟨⟨⟨⟨⟨⟨⟨⟨⟨⟨⟨⟨⟨⟨k0,k1⟩,k2⟩,k3⟩,k4⟩,k5⟩,k6⟩,k7⟩,k8⟩,k9⟩,k10⟩,k11⟩,k12⟩,k13⟩,k14⟩,k15⟩,k16⟩,k17⟩,k18⟩,k19⟩,k20⟩,k21⟩,k22⟩,k23⟩,k24⟩,k25⟩,k26⟩,k27⟩,k28⟩,k29⟩,k30⟩,k31⟩
end Go.Ws
namespace Go.Ws
open Go Go.RowKit
set_option maxHeartbeats 4000000
set_option maxRecDepth 100000
set_option linter.unusedVariables false
set_option linter.unusedSimpArgs false
def cO (w:World) (b:Nat) (E:TypeId) (n:Nat) (g:Nat→Value):Prop:=∃ cs,w.heap[b]? =some (.cells cs E)∧cs.size=n∧∀ k,k<n→cs[k]? =some (g k)
section
variable {P : Program} {w w' : World} {b n : Nat} {E : TypeId} {g : Nat → Value}
theorem cO.lt (h:cO w b E n g):b<w.heap.size:=by obtain⟨cs,h,_⟩:=h;exact(Array.getElem?_eq_some_iff.1 h).1
theorem cO.cell (h:cO w b E n g) {k:Nat} (hk:k<n):w.cell? ⟨b,k,none⟩=some (g k):=by
 obtain⟨cs,h,hs,hg⟩:=h
 rw[←hg k hk]
 simp[World.cell?,h]
theorem cO.qC (h:cO w b E n g) (hb:w'.heap[b]? =w.heap[b]?):cO w' b E n g:=by
 obtain⟨cs,h,hs,hg⟩:=h
 exact⟨cs,hb.trans h,hs,hg⟩
theorem cO.ah (h:cO w b E n g) (hE:aB w w'):cO w' b E n g:=h.qC (hE.block b h.lt (λh=>h))
theorem cO.aW {F:Nat→Prop} (h:cO w b E n g) (hM:bF F w w') (hb:¬ F b):cO w' b E n g:=h.qC (hM.block b h.lt hb)
theorem cO.congr {g':Nat→Value} (h:cO w b E n g) (hg:∀ k,k<n→g' k=g k):cO w b E n g':=by
 obtain⟨cs,h,hs,hk⟩:=h
 exact⟨cs,h,hs,λk hlt=>by rw[hg k hlt];exact hk k hlt⟩
theorem cO.new {cs:Array Value} (h:w.heap[b]? =some (.cells cs E)):cO w b E cs.size (λk=>cs.getD k undef):=
 ⟨cs,h,rfl,λk hk=>by simp[hk]⟩
theorem bI {F:Nat→Prop} (hM:bF F w w') {k o:Nat} (hk:k<w.heap.size) (hF:¬ F k):w'.cell? ⟨k,o,none⟩=w.cell? ⟨k,o,none⟩:=World.cell?_of_block (hM.block k hk hF)
theorem cO.one {v : Value} (h : w.heap[b]? = some (.cells #[v] E)) : cO w b E 1 (fun _ => v) :=
  ⟨_, h, rfl, fun k hk => by obtain rfl : k = 0 := by omega
                             rfl⟩
def put (g:Nat→Value) (o:Nat) (seg:List Value):Nat→Value:=λk=>if o≤k∧k<o+seg.length then seg.getD (k-o) undef else g k
theorem kZ (g:Nat→Value) (o:Nat) (v:Value) (k:Nat):put g o [v] k=if k=o then v else g k:=by
 unfold put
 by_cases h:k=o
 ·subst h;simp
 ·rw[if_neg (by simp;omega),if_neg h]
theorem oH {g:Nat→Value} {o:Nat} {seg:List Value} {k:Nat} (h:k<o∨o+seg.length≤k):put g o seg k=g k:=by unfold put;rw[if_neg (by omega)]
theorem BZ {g:Nat→Value} {o:Nat} {seg:List Value} {k:Nat} (j:Nat) (hj:j<seg.length) (h:k=o+j):put g o seg k=seg.getD j undef:=by
 unfold put;rw[if_pos (by omega),show k-o=j by omega]
theorem yx (h:cO w b E n g) (t:TypeId) (o:Nat) (v:Value) (hi:(P.info? t).map (·.size)=some v.cells.size) (ho:o+v.cells.size≤n) (h1:v.cells.all (·.oneCell')=true):
  ∃w',(Instr.storeAt t (.pointer (some ⟨b,o,none⟩)) v).run P w=.ok () w'∧bF (· =b) w w'∧cO w' b E n (put g o v.cells.toList):=by
 obtain⟨cs,h,hs,hg⟩:=h
 have qR:=run_storeCells_at P b o E v.cells.toList 0 cs w h (by simp;omega) (λu hu=>(Array.all_eq_true_iff_forall_mem.1 h1) u (by simpa using hu))
 refine⟨w.setRow b (cs.toList.take (o+0)++v.cells.toList++cs.toList.drop (o+0+v.cells.toList.length)).toArray,?_,?_,?_⟩
 ·cases hq:P.info? t with
  | none=>simp[hq]at hi
  | some i=>
   have Kr:v.cells.size=i.size:=by simp[hq]at hi;omega
   simp only[Instr.storeAt,Instr.sureAddr,Sem.run_bind,Sem.run_pure,Result.andThen_ok]
   simp[storeVar,sizeOf,typeInfo,hq,Kr]
   simpa [Kr] using qR
 ·refine⟨rfl,rfl,rfl,by rw[setRow_size];exact Nat.le_refl _,λk hk jm=>setRow_other _ _ _ _ (λe=>jm (by first|exact e|exact e.symm))⟩
 ·refine⟨_,setRow_heap _ _ _ _ _ _ h,by simp;omega,λk hk=>?_⟩
  simp only[Nat.add_zero,List.getElem?_toArray]
  unfold put
  have Fg:cs.toList.length=n:=by simp[hs]
  by_cases h1:k<o
  ·rw[if_neg (by omega),List.append_assoc,List.getElem?_append_left (by simp;omega),List.getElem?_take,if_pos h1,←hg k hk,Array.getElem?_toList]
  ·by_cases h2:k<o+v.cells.toList.length
   ·rw[if_pos ⟨by omega,h2⟩,List.getElem?_append_left (by simp at h2 ⊢;omega),List.getElem?_append_right (by simp;omega)]
    have e:k-(cs.toList.take o).length=k-o:=by simp;omega
    rw[e,List.getD_eq_getElem?_getD]
    have hlt:k-o<v.cells.toList.length:=by omega
    rw[List.getElem?_eq_getElem hlt];rfl
   ·rw[if_neg (by omega),List.getElem?_append_right (by simp at h2 ⊢;omega),List.getElem?_drop,←hg k hk,Array.getElem?_toList]
    congr 1
    simp at h2 ⊢;omega
variable {Q : jo} {A : Act} {fl : List (Nat × Value)} {ops : Array Oper} {o : Oper}
theorem aY {rest:List (Oper×Nat)} {x y:Operand} {t:TypeId} {off:Nat} {v:Value} (hb:cO w b E n g)
  (h:∀ W',bF (· =b) w W'→cO W' b E n (put g off v.cells.toList)→jh P ops Q rest (fr fl A) W')
  (ho:o.op=.store t x y:=by rfl) (hd:o.dst=none:=by rfl) (hg:o.guard=none:=by rfl)
  (hx:Is ((fr fl A).eval x) (.pointer (some ⟨b,off,none⟩)):=by go_simp;exact Is.mk _) (hy:Is ((fr fl A).eval y) v:=by go_simp;exact Is.mk _)
  (hi:(P.info? t).map (·.size)=some v.cells.size:=by kernel_rfl) (Ul:off+v.cells.size≤n:=by simp[Value.cells]<;>omega) (h1:v.cells.all (·.oneCell')=true:=by simp[Value.cells,Value.oneCell']):
  jh P ops Q ((o,2)::rest) (fr fl A) w:=by
 refine X_w (λX K hK=>?_) hd hg
 obtain⟨W',hr,hM,hB⟩:=yx (P:=P) (w:=w.ah X) (hb.ah X.2) t off v hi Ul h1
 unfold uQ execOp
 simp only[ho,hx.eq,hy.eq,Sem.run_bind,hr,Result.andThen_ok,Sem.run_pure]
 exact hK undef W' (h W' (bF.trans X.2 hM (λ_ _ h=>h.elim) (λ_ _ h=>h)) hB)
end
section
variable {κ β : Type} [DecidableEq κ] {P : Program} {t kt et : TypeId} {bZ : κ → Value} {dG : β → Value} {w w' : World} {b : Nat} {f : κ → Option β}
variable {Q : jo} {A : Act} {fl : List (Nat × Value)} {ops : Array Oper} {o : Oper}
theorem eU.ah (h:eU bZ dG w b f) (hE:aB w w'):eU bZ dG w' b f:=h.qC (hE.block b h.lt (λh=>h))
theorem eU.aW {F:Nat→Prop} (h:eU bZ dG w b f) (hM:bF F w w') (hb:¬ F b):eU bZ dG w' b f:=h.qC (hM.block b h.lt hb)
theorem KC {rest:List (Oper×Nat)} {m x y:Operand} (hm:eU bZ dG w b f) (hK:NS P kt bZ) (ht:P.underlying t=some (.map kt et)) (k:κ) (v:β)
  (h:∀ W',bF (· =b) w W'→eU bZ dG W' b (yu f k (some v))→jh P ops Q rest (fr fl A) W')
  (ho:o.op=.mapUpdate t m x y:=by rfl) (hd:o.dst=none:=by rfl) (hg:o.guard=none:=by rfl)
  (BI:Is ((fr fl A).eval m) (.map (some b)):=by go_simp;exact Is.mk _) (hx:Is ((fr fl A).eval x) (bZ k):=by go_simp;exact Is.mk _) (hy:Is ((fr fl A).eval y) (dG v):=by go_simp;exact Is.mk _):
  jh P ops Q ((o,2)::rest) (fr fl A) w:=by
 refine X_w (λX K hKK=>?_) hd hg
 obtain⟨ob,hr,hM⟩:=eU.adi (P:=P) (w:=w.ah X) hK ht (hm.ah X.2) k v
 unfold uQ execOp
 simp only[ho,BI.eq,hx.eq,hy.eq,Sem.run_bind,hr,Result.andThen_ok,Sem.run_pure]
 exact hKK undef _ (h _ (bF.trans X.2 (zH _ _ _) (λ_ _ h=>h.elim) (λ_ _ h=>h)) hM)
theorem abo {rest:List (Oper×Nat)} {m x:Operand} {ts:Array TypeId} (hm:eU bZ dG w b f) (hK:NS P kt bZ) (ht:P.underlying t=some (.map kt et)) (k:κ) (hts:ts[0]? =some t)
  (h:∀ W',bF (· =b) w W'→eU bZ dG W' b (yu f k none)→jh P ops Q rest (fr fl A) W')
  (ho:o.op=.call {callee:=.builtin .delete,args:= #[m,x],argTypes:=ts}:=by rfl) (hd:o.dst=none:=by rfl) (hg:o.guard=none:=by rfl)
  (BI:Is ((fr fl A).eval m) (.map (some b)):=by go_simp;exact Is.mk _) (hx:Is ((fr fl A).eval x) (bZ k):=by go_simp;exact Is.mk _):
  jh P ops Q ((o,2)::rest) (fr fl A) w:=by
 refine X_w (λX K hKK=>?_) hd hg
 obtain⟨ob,hr,hM⟩:=eU.delete (P:=P) (w:=w.ah X) hK ht (hm.ah X.2) k ts hts o.type
 unfold uQ execOp
 simp only[ho,resolve,invoke,builtin,Sem.run_bind,Sem.run_pure,Result.andThen_ok,List.map_toArray,List.map_cons,List.map_nil,BI.eq,hx.eq,hr]
 exact hKK _ _ (h _ (bF.trans X.2 (zH _ _ _) (λ_ _ h=>h.elim) (λ_ _ h=>h)) hM)
theorem KD {m x:Operand} (hm:eU bZ dG w b f) (hK:NS P kt bZ) (ht:P.underlying t=some (.map kt et)) {z:β} (hz:∀ w,(zeroValue et).run P w=.ok (dG z) w) (k:κ) {ok:Bool} {a:Act}
  (ho:o.op=.lookup t m x ok) (BI:a.eval m=.map (some b)) (hx:a.eval x=bZ k) (X:bM w):
  o.quietAt P a (aB (w.ah X)) (w.ah X) (if ok then .tuple #[dG ((f k).getD z),.bool (f k).isSome] else dG ((f k).getD z)):=by
 have e:((f k).map dG).getD (dG z)=dG ((f k).getD z):=by cases f k<;>rfl
 have:=eU.lookup (P:=P) (w:=w.ah X) hK ht (hz (w.ah X)) (hm.ah X.2) k ok
 rw[e]at this
 unfold Oper.quietAt execOp
 simp only[ho,BI,hx,Sem.run_bind,this,Result.andThen_ok,Sem.run_pure,Oper.quietUpon]
 exact⟨trivial,trivial⟩
theorem wM {rest:List (Oper×Nat)} {m x:Operand} {d:Nat} (hm:eU bZ dG w b f) (hK:NS P kt bZ) (ht:P.underlying t=some (.map kt et)) {z:β} (k:κ) {ok:Bool}
  (h:jh P ops Q rest (fr ((d,(if ok then .tuple #[dG ((f k).getD z),.bool (f k).isSome] else dG ((f k).getD z)))::fl) A) w)
  (ho:o.op=.lookup t m x ok:=by rfl) (hd:o.dst=some d:=by rfl) (hg:o.guard=none:=by rfl) (hz:∀ w,(zeroValue et).run P w=.ok (dG z) w:=by intro w;go_simp;first|done|exact rfl)
  (BI:Is ((fr fl A).eval m) (.map (some b)):=by go_simp;exact Is.mk _) (hx:Is ((fr fl A).eval x) (bZ k):=by go_simp;exact Is.mk _):jh P ops Q ((o,0)::rest) (fr fl A) w:=
 aF h hd hg (λX=>KD hm hK ht hz k ho BI.eq hx.eq X)
theorem aen {rest:List (Oper×Nat)} {m x:Operand} {d:Nat} {j tt:Nat} {want gb:Bool} (hm:eU bZ dG w b f) (hK:NS P kt bZ) (ht:P.underlying t=some (.map kt et)) {z:β} (k:κ) {ok:Bool}
  (h:jh P ops Q rest (fr ((d,gv gb (if ok then .tuple #[dG ((f k).getD z),.bool (f k).isSome] else dG ((f k).getD z)))::fl) A) w)
  (ho:o.op=.lookup t m x ok:=by rfl) (hd:o.dst=some d:=by rfl) (hg:o.guard=some (j,want):=by rfl) (htt:(ops[j]?).bind (·.dst)=some tt:=by rfl)
  (rM:Is (gw ((fr fl A).tmps.getD tt undef) want) gb:=by go_simp;exact Is.mk _) (hz:∀ w,(zeroValue et).run P w=.ok (dG z) w:=by intro w;go_simp;first|done|exact rfl)
  (BI:gb=true→Is ((fr fl A).eval m) (.map (some b)):=by intro hb;(try simp only[Bool.and_eq_true,Bool.not_eq_true',Bool.or_eq_true,Bool.or_eq_false_iff]at hb);go_simp;exact Is.mk _)
  (hx:gb=true→Is ((fr fl A).eval x) (bZ k):=by intro hb;(try simp only[Bool.and_eq_true,Bool.not_eq_true',Bool.or_eq_true,Bool.or_eq_false_iff]at hb);go_simp;exact Is.mk _):jh P ops Q ((o,0)::rest) (fr fl A) w:=
 mg h hd hg htt rM (λhb X=>KD hm hK ht hz k ho (BI hb).eq (hx hb).eq X)
end
section
variable {α : Type} {enc : α → List Value} {k : Nat} {E : TypeId} {w w' : World} {v : Value} {xs : List α}
theorem Rk (hk:∀ x,(enc x).length=k):∀ (xs:List α) (q:Nat) (u:Value),(xs.flatMap enc)[q]? =some u→∃ i x j,xs[i]? =some x∧(enc x)[j]? =some u∧q=i *k+j∧j<k
 | [],q,u,h=>by simp at h
 | y::ys,q,u,h=>by
  rw[List.flatMap_cons]at h
  rcases Nat.lt_or_ge q (enc y).length with hq|hq
  ·rw[List.getElem?_append_left hq]at h
   exact⟨0,y,q,rfl,h,by omega,by rw[hk]at hq;exact hq⟩
  ·rw[List.getElem?_append_right hq]at h
   obtain⟨i,x,j,h1,h2,h3,h4⟩:=Rk hk ys _ u h
   rw[hk]at h3 hq
   exact⟨i+1,x,j,h1,h2,by rw[Nat.add_mul];omega,h4⟩
theorem dQ.gy {g n c:Nat} (h:dQ enc k E w (.slice (some ⟨g,0,none⟩) n c) xs):∃ f,cO w g E (c *k) f∧∀ q u,(xs.flatMap enc)[q]? =some u→f q=u:=by
 obtain⟨hl,h⟩:=h
 rcases h with⟨h0,_⟩|⟨g',cap,cur,h0,hb,rM,Hl,jT,vV,ht⟩
 ·cases h0
 ·injection h0 with e1 e2 e3
  injection e1 with e1
  injection e1 with e1
  subst e1 e3
  refine⟨λq=>cur.getD q undef,⟨cur,rM,vV,λq hq=>?_⟩,λq u hu=>?_⟩
  ·rw[Array.getElem?_eq_getElem (by omega)];simp[Array.getD,show q<cur.size by omega]
  ·rw[←ht,List.getElem?_take]at hu
   split at hu
   ·rw[Array.getElem?_toList]at hu
    simp[Array.getD_eq_getD_getElem?,hu]
   ·cases hu
theorem dQ.Rl {g c:Nat} {f:Nat→Value} (hk:∀ x,(enc x).length=k) (hb:cO w g E (c *k) f) (hn:xs.length≤c) (hc:c≤maxLen) (hf:∀ q u,(xs.flatMap enc)[q]? =some u→f q=u):dQ enc k E w (.slice (some ⟨g,0,none⟩) xs.length c) xs:=by
 obtain⟨cs,h1,h2,h3⟩:=hb
 refine⟨eH hk xs,.inr ⟨g,c,cs,rfl,Nat.zero_le _,h1,hn,hc,h2,?_⟩⟩
 have hl:=eH hk xs
 have hle:xs.length *k≤c *k:=Nat.mul_le_mul_right _ hn
 apply List.ext_getElem?
 intro q
 rw[List.getElem?_take]
 split
 ·rename_i hq
  rw[Array.getElem?_toList,h3 q (by omega)]
  obtain⟨u,hu⟩:∃ u,(xs.flatMap enc)[q]? =some u:=⟨_,List.getElem?_eq_getElem (by omega)⟩
  rw[hu,hf q u hu]
 ·rename_i hq
  rw[List.getElem?_eq_none (by omega)]
theorem dQ.at (hk:∀ x,(enc x).length=k) (h:dQ enc k E w v xs) {i:Nat} {x:α} (hx:xs[i]? =some x):∃ g c,v=.slice (some ⟨g,0,none⟩) xs.length c∧xs.length≤c∧c≤9223372036854775807∧g<w.heap.size∧∀ j u,(enc x)[j]? =some u→w.cell? ⟨g,i *k+j,none⟩=some u:=by
 rcases h.G6 with⟨rfl,rfl⟩|⟨g,c,rfl,h1,h2,h3⟩
 ·simp at hx
 ·obtain⟨f,hb,hf⟩:=h.gy
  refine⟨g,c,rfl,h1,h2,h3,λj u hu=>?_⟩
  have h4:=Dn hk xs i x j u hx hu
  have h5:=(Ge h4).1
  rw[eH hk]at h5
  rw[hb.cell (Nat.lt_of_lt_of_le h5 (Nat.mul_le_mul_right _ h1)),hf _ _ h4]
theorem dQ.aiF {g n c i j:Nat} {seg:List Value} {x x':α} {f:Nat→Value} (hk:∀ x,(enc x).length=k) (h:dQ enc k E w (.slice (some ⟨g,0,none⟩) n c) xs) (hf:∀ q u,(xs.flatMap enc)[q]? =some u→f q=u) (hx:xs[i]? =some x)
  (hB:cO w' g E (c *k) (put f (i *k+j) seg)) (hj:j+seg.length≤k) (hs:∀ j' u,(enc x')[j']? =some u→(if j≤j'∧j'<j+seg.length then seg[j'-j]? =some u else(enc x)[j']? =some u)):dQ enc k E w' (.slice (some ⟨g,0,none⟩) n c) (xs.set i x'):=by
 obtain⟨hl,h'⟩:=h
 rcases h' with⟨h0,_⟩|⟨g',cap,cur,h0,hb,rM,Hl,jT,vV,ht⟩
 ·cases h0
 ·injection h0 with e1 e2 e3
  subst e2 e3
  have e:xs.length=(xs.set i x').length:=by rw[List.length_set]
  rw[e]
  refine dQ.Rl hk hB (by rw[List.length_set];exact Hl) jT λq u hu=>?_
  obtain⟨i2,y,j2,h1,h2,rfl,h4⟩:=Rk hk _ q u hu
  by_cases hi:i2=i
  ·subst hi
   have hlt:=(Ge hx).1
   rw[List.getElem?_set_self hlt]at h1
   cases h1
   have h5:=hs j2 u h2
   split at h5
   ·rename_i ou
    rw[BZ (j2-j) (by omega) (by omega),List.getD_eq_getElem?_getD,h5];rfl
   ·rename_i aqj
    rw[oH (by omega)]
    exact hf _ _ (Dn hk xs i2 x j2 u hx h5)
  ·rw[List.getElem?_set_ne (λe=>hi e.symm)]at h1
   have h6:i2 *k+k≤i *k∨i *k+k≤i2 *k:=by
    rcases Nat.lt_or_ge i2 i with h7|h7
    ·left
     have:=Nat.mul_le_mul_right k (show i2+1≤i from h7)
     rw[Nat.add_mul]at this;omega
    ·right
     have:=Nat.mul_le_mul_right k (show i+1≤i2 by omega)
     rw[Nat.add_mul]at this;omega
   rw[oH (by omega)]
   exact hf _ _ (Dn hk xs i2 y j2 u h1 h2)
end
section
variable {P : Program} {Q : jo} {w : World} {A : Act} {fl : List (Nat × Value)} {o : Oper} {ops : Array Oper} {α : Type} {enc : α → List Value} {k : Nat} {E : TypeId} {xs : List α}
theorem kN {rest:List (Oper×Nat)} {x y:Operand} {t:TypeId} {g n c:Nat} {v:Value} (i j:Nat) (r r':α) (nD:dQ enc k E w (.slice (some ⟨g,0,none⟩) n c) xs) (hr:xs[i]? =some r) (hk:∀ x,(enc x).length=k) (hj:j+v.cells.size≤k)
  (hs:∀ j' u,(enc r')[j']? =some u→(if j≤j'∧j'<j+v.cells.toList.length then v.cells.toList[j'-j]? =some u else(enc r)[j']? =some u))
  (h:∀ W',bF (· =g) w W'→dQ enc k E W' (.slice (some ⟨g,0,none⟩) n c) (xs.set i r')→jh P ops Q rest (fr fl A) W')
  (ho:o.op=.store t x y:=by rfl) (hd:o.dst=none:=by rfl) (hg:o.guard=none:=by rfl)
  (hx:Is ((fr fl A).eval x) (.pointer (some ⟨g,i *k+j,none⟩)):=by go_simp;exact Is.mk _) (hy:Is ((fr fl A).eval y) v:=by go_simp;exact Is.mk _)
  (hi:(P.info? t).map (·.size)=some v.cells.size:=by kernel_rfl) (h1:v.cells.all (·.oneCell')=true:=by simp[Value.cells,Value.oneCell']):
  jh P ops Q ((o,2)::rest) (fr fl A) w:=by
 obtain⟨f,hb,hf⟩:=nD.gy
 refine aY (off:=i *k+j) hb (λW' hM hB=>h W' hM (nD.aiF hk hf hr hB (by rw[Array.length_toList];exact hj) hs)) ho hd hg hx hy hi ?_ h1
 have hlt:=(Ge hr).1
 have Hl:xs.length≤c:=by
  rcases nD.G6 with⟨e,_⟩|⟨g',c',e,h2,_⟩
  ·cases e
  ·injection e with _ _ e3;subst e3;exact h2
 have h3:=Nat.mul_le_mul_right k (show i+1≤c by omega)
 rw[Nat.add_mul]at h3
 omega
end
section
variable {P : Program} {w : World}
def ag3 (P:Program) (d:Deferred) (u:FrameMode) (w:World) (u1:FrameMode) (w1:World):Prop:=
 ∃fv cap f args,d.target=.fn fv cap∧(∀W,aB w W→(invoke d.target d.args).run P W=.ok (.enter f args) W)∧
  ∀W,aB w W→CallsDIn (RF none) 0 P f args u W λe u' W'=>(∃v,e=.returned v)∧u'=u1∧aB w1 W'
def Hr (P:Program):List Deferred→FrameMode→World→FrameMode→World→Prop
 | [],u,w,u',w'=>u'=u∧w'=w
 | d::ds,u,w,u',w'=>u≠ .run∧∃ u1 w1,ag3 P d u w u1 w1∧Hr P ds (settle u1) w1 u' w'
theorem qc {fn:Func} {tmps:Array Value} {R:Ending→World→Prop}:∀ (ds:List Deferred) (u:FrameMode) (w:World) (u':FrameMode) (w' W:World),Hr P ds u w u' w'→aB w W→
  (∀W',aB w' W'→LeavesInM (RF none) 0 P fn tmps R [] u' W')→LeavesInM (RF none) 0 P fn tmps R ds u W
 | [],u,w,u',w',W,h,hE,hl=>by obtain⟨rfl,rfl⟩:=h;exact hl W hE
 | d::ds,u,w,u',w',W,h,hE,hl=>by
  obtain⟨hu,u1,w1,⟨fv,cap,f,args,ht,hi,hc⟩,Ui⟩:=h
  refine⟨hu,.inr ⟨λh=>by simp[RF,Fence.wide]at h,fv,cap,f,args,ht,hi W hE,λg _=>trivial,?_⟩⟩
  refine(hc W hE).mono ?_
  rintro e u'' W' ⟨⟨v,rfl⟩,rfl,Ko⟩
  exact qc ds _ w1 u' w' W' Ui Ko hl
def YD (P:Program) (fn:Func) (tmps:Array Value) (R:Hq):FrameMode→World→Prop
 | .returning,w'=>∃ v,(∀x:bM w',(results fn tmps).run P (w'.ah x)=.ok v (w'.ah x))∧R (.returned v) w'
 | .panicking chain,w'=>R (.panicked chain) w'
 | .run,_=>False
def Eb (P:Program) (fn:Func) (R:Hq):jo
 | .normal,a,w|.ret,a,w=>∃ u' w',Hr P a.defers .returning w u' w'∧YD P fn a.tmps R u' w'
 | .panic chain,a,w=>∃ u' w',Hr P a.defers (.panicking chain) w u' w'∧YD P fn a.tmps R u' w'
 | .outgrown,_,w=>R .outgrown w
 | _,_,_=>False
theorem EG {fn:Func} {tmps:Array Value} {R:Hq} {u':FrameMode} {w':World} (h:YD P fn tmps R u' w'):∀ W',aB w' W'→LeavesInM (RF none) 0 P fn tmps (Up R) [] u' W':=by
 intro W' hE
 cases u' with
 | returning=>obtain⟨v,hr,hR⟩:=h;exact⟨v,hr ⟨W',hE⟩,w',hE,hR⟩
 | panicking chain=>exact⟨w',hE,h⟩
 | run=>exact h.elim
theorem aeo {f:FuncId} {fn:Func} {c:Code} {args:Array Value} {R:Hq} (hf:P.funcs[f]? =some fn) (hb:fn.body=some c)
  (h:Wp none P c (Eb P fn R) {tmps:=args++Array.replicate (fn.ntmps-args.size) undef,defers:=[]} w):Fn P f args w R:=Fn.intro λx=>by
 refine(callsIn_wide (n:=0)).1 (callsIn_of_wp_marks (F:=RF none) hf hb trivial (Code.pR (λe a' w' hq=>?_) (h.get x)))
 obtain⟨w0,hE,hq⟩:=hq
 cases e with
 | normal=>obtain⟨u1,w1,hA,hF⟩:=hq;exact qc _ _ _ _ _ _ hA hE (EG hF)
 | ret=>obtain⟨u1,w1,hA,hF⟩:=hq;exact qc _ _ _ _ _ _ hA hE (EG hF)
 | panic chain=>obtain⟨u1,w1,hA,hF⟩:=hq;exact qc _ _ _ _ _ _ hA hE (EG hF)
 | outgrown=>exact⟨w0,hE,hq⟩
 | exit id=>exact hq
 | goto l=>exact hq
theorem uh {f:FuncId} {fn:Func} {c:Code} {vals:List Value} {R:Hq} (hf:P.funcs[f]? =some fn) (hb:fn.body=some c) (hn:vals.length≤fn.ntmps)
  (h:∀ A:Act,A.defers=[]→A.tmps.size=fn.ntmps→Wp none P c (Eb P fn R) (fr (ix 0 vals) A) w):Fn P f vals.toArray w R:=by
 refine aeo hf hb ?_
 have h1:=BR vals [] (fn.ntmps-vals.length)
 simp only[List.nil_append,List.length_nil]at h1
 have h2:vals.toArray++Array.replicate (fn.ntmps-vals.toArray.size) undef=(vals++List.replicate (fn.ntmps-vals.length) undef).toArray:=by
  apply Array.ext';simp
 rw[h2]
 have h3:=h {tmps:=(vals++List.replicate (fn.ntmps-vals.length) undef).toArray,defers:=[]} rfl (by simp;omega)
 unfold fr at h3
 rw[←h1]at h3
 exact h3
theorem AZ {Q:jo} {A:Act} {fl:List (Nat×Value)} {ops:Array Oper} {o:Oper} {rest:List (Oper×Nat)} {f:FuncId} {fn:Func} {la:List Operand} {ats:Array TypeId} {lv yO:List Value} {C:List PanicEntry→World→Prop} (hf:P.funcs[f]? =some fn)
  (hc:Fn P f lv.toArray w (λe w'=>match e with|.panicked c=>C c w'|_=>False)) (h:∀ c w',C c w'→Q (.panic c) (fr fl A) w') (yL:o.op=.call {callee:=.value (.func f),args:=la.toArray,argTypes:=ats}:=by rfl) (hn:iC fn=true:=by kernel_rfl)
  (hg:o.guard=none:=by rfl) (mW:Is (la.map (fr fl A).eval) yO:=by go_simp;exact Is.mk _) (hlv:yO=lv:=by rfl):jh P ops Q ((o,2)::rest) (fr fl A) w:=by
 refine Yz (λx=>?_) hg
 unfold Bz
 rw[o9 hf hn yL,mW.eq,hlv]
 simp only[nH]
 refine Calls.mono (hc.get x) λe w' hR=>?_
 obtain⟨w0,hE,hR⟩:=hR
 cases e with
 | returned v=>exact hR.elim
 | panicked c=>exact⟨w0,hE,h c w0 hR⟩
 | outgrown=>exact hR.elim
theorem aep {Q:jo} {A:Act} {fl:List (Nat×Value)} {ops:Array Oper} {o:Oper} {rest:List (Oper×Nat)} {d:Deferred} (hd:∀ W,aB w W→(execOp (fr fl A).eval o).run P W=.ok (.defer d) W)
  (h:jh P ops Q rest (fr fl {tmps:=A.tmps,defers:=d::A.defers}) w) (aiG:o.dst=none:=by rfl) (hg:o.guard=none:=by rfl):jh P ops Q ((o,2)::rest) (fr fl A) w:=by
 refine Yz (λx=>?_) hg
 unfold Bz
 rw[hd (w.ah x) x.2]
 simp only[nH,aiG]
 have e:({tmps:=(fr fl A).tmps,defers:=d::(fr fl A).defers}:Act).put none undef=fr fl {tmps:=A.tmps,defers:=d::A.defers}:=by
  rw[vY,eF];exact aa9 fl A _ _ rfl
 rw[e]
 exact⟨w,x.2,h⟩
end
section
variable {P : Program} {md : Region.Mode} {ops : Array Oper} {Q : Exit → Act → World → Prop} {last : Nat} {Z : Act → World → Prop}
def wpT (P:Program) (md:Region.Mode) (ops:Array Oper) (last:Nat) (Z:Act→World→Prop):Nat→Array Bool→Act→World→Prop
 | 0,listed,a,w=>Region.ready md ops listed=[last]∧∀ x:bM w,Z a (w.ah x)
 | f+1,listed,a,w=>∀ x:bM w,Region.ready md ops listed≠[]∧
   ∀j∈Region.ready md ops listed,fQ P ops j (λa' w'=>aB (w.ah x) w'∧wpT P md ops last Z f (listed.setIfInBounds j true) a' w') a (w.ah x)
theorem wpT.ah {f:Nat} {listed:Array Bool} {a:Act} {w w':World} (h:wpT P md ops last Z f listed a w) (hE:aB w w'):wpT P md ops last Z f listed a w':=by
 cases f with
 | zero=>exact⟨h.1,λx=>h.2 ⟨w'.ah x,Et hE x.2⟩⟩
 | succ f=>exact λx=>h ⟨w'.ah x,Et hE x.2⟩
theorem FT {ρ:Option Nat} {n:Nat} (hn:ρ= none∨(∀(i:Nat) (o:Oper),ops[i]? =some o→vW o=true)) (abp:∀ a w K,Z a w→wpOpIn (RF ρ) n P ops Q last K a w):∀ (f:Nat) (listed:Array Bool) (a:Act) (w:World),wpT P md ops last Z f listed a w→wpAnyIn (RF ρ) n P md ops Q (f+1) listed a w
 | 0,listed,a,w,h=>by
  obtain⟨h0,h1⟩:=h
  refine⟨(λh=>by rw[h0]at h;cases h),λj hj=>?_⟩
  rw[h0,List.mem_singleton]at hj
  subst hj
  exact abp _ _ _ (h1 ⟨w,aB.refl w⟩)
 | f+1,listed,a,w,h=>by
  obtain⟨h0,h1⟩:=h ⟨w,aB.refl w⟩
  refine⟨λh=>absurd h h0,λj hj=>?_⟩
  exact oZ (hn.imp id (λh=>h j)) (gW (λa' w' h=>FT hn abp f _ a' w' h.2) (h1 j hj))
theorem YE {i:Nat} {oi:Oper} {v:Value} (hi:ops[i]? =some oi) (kF:∀ (j:Nat) (o:Oper) cs b,ops[j]? =some o→o.op≠ .select cs b)
  (lH:Reach md ops i last):
  ∀(f:Nat) (listed:Array Bool) (a:Act) (w:World),uz md ops listed→
   (∀j oj,ops[j]? =some oj→j≠i→listed.getD j true=false→(∀e∈oj.after,Region.binds md e=true→e.on≠i)→oi.apart ops oj=true)→
   i∈Region.ready md ops listed→jC P ops oi v a w→
   wpT P md ops last Z f (listed.setIfInBounds i true) (a.put oi.dst v) w→wpT P md ops last Z (f+1) listed a w:=by
 intro f
 induction f with
 | zero=>
  intro listed a w hc _ hr hy H x
  refine⟨λh=>(by rw[h]at hr;cases hr),λj hj=>?_⟩
  by_cases oM:j=i
  ·subst oM
   exact(hy.ah x.2).fQ hi λw' yI=>⟨yI,H.ah (Et x.2 yI)⟩
  ·have h1:=ready_mono hj oM
   rw[H.1,List.mem_singleton]at h1
   subst h1
   have EC:=(mem_ready.1 hr).1
   have:=lH.listed hc (.inr hj)
   rw[getD_both EC]at this
   cases this
 | succ f ih=>
  intro listed a w hc xB hr hy H x
  refine⟨λh=>(by rw[h]at hr;cases hr),λj hj=>?_⟩
  by_cases oM:j=i
  ·subst oM
   exact(hy.ah x.2).fQ hi λw' yI=>⟨yI,H.ah (Et x.2 yI)⟩
  ·have EC:=(mem_ready.1 hr).1
   have BG:=(mem_ready.1 hj).1
   have h1:=(H x).2 j (ready_mono hj oM)
   obtain⟨BG,oj,JE,jB⟩:=mem_ready.1 hj
   have GY:∀ e∈oj.after,Region.binds md e=true→e.on≠i:=λe he hb heq=>by
    have h1:=jB e he hb
    rw[heq,getD_both EC]at h1
    cases h1
   have yJ:∀ k ok,ops[k]? =some ok→k≠i→(listed.setIfInBounds j true).getD k true=false→
     (∀e∈ok.after,Region.binds md e=true→e.on≠i)→oi.apart ops ok=true:=λk ok hk sZ O5 bT=>by
    refine xB k ok hk sZ ?_ bT
    by_cases UJ:j=k
    ·subst UJ;exact BG
    ·rw[getD_set_ne true UJ]at O5;exact O5
   have h2:=ug JE (xB j oj JE oM BG GY) (λcs b=>kF i oi cs b hi) (λcs b=>kF j oj cs b JE) h1
   refine gW (λa' w' h3=>?_) h2
   obtain⟨⟨he,hw⟩,hE,h4⟩:=h3
   refine⟨hE,ih _ a' w' (hc.set hj) yJ (ready_mono hr (Ne.symm oM)) ((hy.AP he hw).ah (Et x.2 hE)) ?_⟩
   rw[Array.setIfInBounds_comm _ _ oM]
   exact h4
def U6 (md : Region.Mode) (ops : Array Oper) (last : Nat) : List (Nat × Nat) → Array Bool → Bool
  | [], listed => decide (Region.ready md ops listed = [last])
  | (i, k) :: rest, listed =>
    (match k with
     | 0 => (Region.ready md ops listed).contains i && Region.free md ops listed i
     | 1 => decide (Region.ready md ops listed = [i])
     | _ => false) && U6 md ops last rest (listed.setIfInBounds i true)
theorem EH (kF:Region.noSelect ops=true) (hQ:∀ a w,Q .normal a w→Z a w):
  ∀(σ:List (Nat×Nat)) (listed:Array Bool) (a:Act) (w:World),uz md ops listed→U6 md ops last σ listed=true→(∀p∈σ,Reach md ops p.1 last)→
   D9 P ops Q σ a w→wpT P md ops last Z σ.length listed a w
 | [],listed,a,w,_,hB,_,h=>⟨by simpa [U6] using hB,λx=>hQ _ _ (h x)⟩
 | (i,0)::rest,listed,a,w,hc,hB,hh,h=>by
  simp only[U6,Bool.and_eq_true]at hB
  obtain⟨⟨hr,hf⟩,GZ⟩:=hB
  obtain⟨v,o,ho,hy,Ui⟩:=h
  have tC:i∈Region.ready md ops listed:=by simpa using hr
  exact YE ho (Region.noSelect_spec kF) (hh (i,0) (by simp)) rest.length listed a w hc (Region.free_spec ho hf) tC hy
   (EH kF hQ rest _ _ w (hc.set tC) GZ (λp hp=>hh p (by simp[hp])) Ui)
 | (i,1)::rest,listed,a,w,hc,hB,hh,h=>by
  simp only[U6,Bool.and_eq_true,decide_eq_true_eq]at hB
  intro x
  refine⟨λh0=>(by rw[hB.1]at h0;cases h0),λj hj=>?_⟩
  have AQ:=hj
  rw[hB.1]at AQ
  obtain rfl:j=i:=by simpa using AQ
  exact gW (λa' w' h'=>⟨h'.1,EH kF hQ rest _ _ w' (hc.set hj) hB.2 (λp hp=>hh p (by simp[hp])) h'.2⟩) (h x)
 | (i,k+2)::rest,listed,a,w,hc,hB,hh,h=>by
  simp[U6]at hB
def af2 (ops:Array Oper) (σ:List (Nat×Nat)) (last:Nat):Bool:=
 Region.noSelect ops&&decide (σ.length+1=ops.size)&&(σ.all λp=>((Region.before ops).getD last 0).testBit p.1&&decide (p.1<ops.size))&&U6 .any ops last σ (Array.replicate ops.size false)
end
section
variable {P : Program} {Q : jo} {w : World} {a : Act}
def adn (P:Program) (ops:Array Oper) (last:Nat) (Q:jo) (a:Act) (w:World):Prop:=∃ o,ops[last]? =some o∧Region.wanted o (yielded ops a.tmps)=true∧∀ x:bM w,Bz P o a (w.ah x) (λ_ _=>False) (QJ Q)
theorem Ec {id:Nat} {l:List Oper} (σ:List (Nat×Nat)) (last:Nat) (hm:P.follows .mixedOrders=true) (hB:af2 l.toArray σ last=true)
  (h:jh P l.toArray (Xa (λ_ a w=>adn P l.toArray last Q a w)) (σ.map λp=>(l.getD p.1 default,p.2)) a w):Wp none P (.region id l.toArray true) Q a w:=Wp.intro λx=>by
 simp only[af2,Bool.and_eq_true,decide_eq_true_eq]at hB
 obtain⟨⟨⟨kF,iR⟩,lH⟩,UY⟩:=hB
 refine wpIn_region_any hm ?_
 have hz:∀ p∈(σ.map λp=>(l.getD p.1 default,p.2)).zip σ,l.toArray[p.2.1]? =some p.1.1∧p.1.2=p.2.2:=by
  intro p hp
  have:∀ (τ:List (Nat×Nat)),(∀q∈τ,q.1<l.toArray.size)→p∈(τ.map λq=>(l.getD q.1 default,q.2)).zip τ→l.toArray[p.2.1]? =some p.1.1∧p.1.2=p.2.2:=by
   intro τ
   induction τ with
   | nil=>intro _ h;simp at h
   | cons q τ ih=>
    intro hq h
    simp only[List.map_cons,List.zip_cons_cons,List.mem_cons]at h
    rcases h with rfl|h
    ·have:=hq q (by simp)
     simp only[List.size_toArray]at this
     refine⟨?_,rfl⟩
     simp[this]
    ·exact ih (λr hr=>hq r (by simp[hr])) h
  exact this σ (λq hq=>by have:=List.all_eq_true.1 lH q hq;simp only[Bool.and_eq_true,decide_eq_true_eq]at this;exact this.2) hp
 have h1:=lN _ σ a w hz (by simp) h
 have h2:=EH (P:=P) (md:=.any) (ops:=l.toArray) (last:=last) (Z:=λa w=>∃ w0,aB w0 w∧adn P l.toArray last Q a w0) kF (λa w h=>by
  obtain⟨w0,hE,h⟩:=h;exact⟨w0,hE,h⟩) σ (Array.replicate l.toArray.size false) a ((w.ah x).drew) (λj oj _ hl=>(by rw[getD_replicate_false]at hl;cases hl)) UY (λp hp=>lM l.toArray p.1 last (by have:=List.all_eq_true.1 lH p hp;simp only[Bool.and_eq_true]at this;exact this.1)) (h1.ah (Et x.2 (aB.drew _)))
 have h3:=FT (ρ:=none) (n:=0) (Q:=QJ Q) (.inl rfl) (λa w K hZ=>by
  obtain⟨w0,hE,o,ho,hw,hd⟩:=hZ
  unfold wpOpIn
  simp only[ho,hw,if_true]
  have hd':=hd ⟨w,hE⟩
  exact wH (.inl rfl) (hd'.mono (λ_ _ h=>h.elim) (λ_ _ _ h=>h))) _ _ _ _ h2
 rw[iR]at h3
 exact h3
theorem mM {A:Act} {fl:List (Nat×Value)} {ops:Array Oper} {last:Nat} {o:Oper} {f:FuncId} {fn:Func} {la:List Operand} {ats:Array TypeId} {lv yO:List Value} {C:List PanicEntry→World→Prop} (hf:P.funcs[f]? =some fn)
  (hc:Fn P f lv.toArray w (λe w'=>match e with|.panicked c=>C c w'|_=>False)) (h:∀ c w',C c w'→Q (.panic c) (fr fl A) w') (ho:ops[last]? =some o:=by rfl) (yL:o.op=.call {callee:=.value (.func f),args:=la.toArray,argTypes:=ats}:=by rfl) (hn:iC fn=true:=by kernel_rfl)
  (hg:o.guard=none:=by rfl) (mW:Is (la.map (fr fl A).eval) yO:=by go_simp;exact Is.mk _) (hlv:yO=lv:=by rfl):adn P ops last Q (fr fl A) w:=by
 refine⟨o,ho,by simp[Region.wanted,hg],λx=>?_⟩
 unfold Bz
 rw[o9 hf hn yL,mW.eq,hlv]
 simp only[nH]
 refine Calls.mono (hc.get x) λe w' hR=>?_
 obtain⟨w0,hE,hR⟩:=hR
 cases e with
 | returned v=>exact hR.elim
 | panicked c=>exact⟨w0,hE,h c w0 hR⟩
 | outgrown=>exact hR.elim
end
section
variable {P : Program} {w : World} {Q : jo} {A : Act} {a : Act} {fl : List (Nat × Value)} {ops : Array Oper} {o : Oper}
theorem XC {rest:List (Oper×Nat)}:jh P ops Q ((o,1)::rest) a w=(∀x:bM w,if Region.wanted o (yielded ops a.tmps)=true
   then Bz P o a (w.ah x) (λa' w'=>aB (w.ah x) w'∧∃ w0,aB w0 w'∧jh P ops Q rest a' w0) (λ_ _ _=>False)
   else ∃w0,aB w0 (w.ah x)∧jh P ops Q rest (a.put o.dst undef) w0):=by with_unfolding_all rfl
theorem fF {rest:List (Oper×Nat)} {f:FuncId} {fn:Func} {la:List Operand} {ats:Array TypeId} {lv yO:List Value} {R:World→Value→World→Prop} {d:Nat} (hf:P.funcs[f]? =some fn)
  (hc:∀ x:bM w,gK P f lv.toArray (w.ah x) (R (w.ah x))) (h:∀ (x:bM w) v w',R (w.ah x) v w'→aB (w.ah x) w'∧jh P ops Q rest (fr ((d,v)::fl) A) w') (hd:o.dst=some d:=by rfl) (yL:o.op=.call {callee:=.value (.func f),args:=la.toArray,argTypes:=ats}:=by rfl) (hn:iC fn=true:=by kernel_rfl)
  (hg:o.guard=none:=by rfl) (mW:Is (la.map (fr fl A).eval) yO:=by go_simp;exact Is.mk _) (hlv:yO=lv:=by rfl):jh P ops Q ((o,1)::rest) (fr fl A) w:=by
 rw[XC]
 intro x
 rw[if_pos (by simp[Region.wanted,hg])]
 unfold Bz
 rw[o9 hf hn yL,mW.eq,hlv]
 simp only[nH]
 refine Calls.mono (Fn.Dj (hc x)) λe w' hR=>?_
 obtain⟨w0,hE,hR⟩:=hR
 cases e with
 | returned v=>
  obtain⟨h1,h2⟩:=h x v w0 hR
  exact⟨Et h1 hE,w0,hE,by rw[hd,lW];exact h2⟩
 | panicked c=>exact hR.elim
 | outgrown=>exact hR.elim
end
section
variable {P : Program} {fn : Func} {R : Hq} {e : Exit} {t b : Nat} {ty : TypeId} {td : TypeDesc} {cs : List Value} {w : World} {l : List (Nat × Value)} {A : Act} {g : Nat → Value} {E : TypeId}
theorem EI (hb:cO w b E cs.length g) (hg:∀ k,k<cs.length→cs[k]? =some (g k)) (x:bM w):(w.ah x).heap[b]? =some (.cells cs.toArray E):=by
 obtain⟨arr,h,hs,hk⟩:=hb.ah (w':=w.ah x) x.2
 have:arr=cs.toArray:=by
  apply Array.ext
  ·simpa using hs
  ·intro k h1 h2
   have h3:=hk k (by omega)
   have h4:=hg k (by omega)
   rw[←h4]at h3
   simpa [h1,List.getElem?_eq_getElem (show k<cs.length by omega)] using h3
 rw[h,this]
theorem jH (hd:A.defers=[]) (hR:R (.returned (.agg cs.toArray)) w) (hb:cO w b E cs.length g) (hg:∀ k,k<cs.length→cs[k]? =some (g k))
  (hu:P.underlying ty=some td) (hr:fn.results= #[.cell t ty]:=by rfl) (Xd:(match td with|.struct _|.array _ _=>true|_=>false)=true:=by rfl) (hi:(P.info? ty).map (·.size)=some cs.length:=by kernel_rfl)
  (he:e=.ret∨e=.normal:=by first|exact .inl rfl|exact .inr rfl) (hv:Is ((fr l A).tmps.getD t undef) (.pointer (some ⟨b,0,none⟩)):=by go_simp;exact Is.mk _):zo P fn R e (fr l A) w:=by
 have key:∀ x:bM w,(results fn (fr l A).tmps).run P (w.ah x)=.ok (.agg cs.toArray) (w.ah x):=by
  intro x
  have h1:=EI hb hg x
  have h2:(fr l A).tmps[t]?.getD undef=.pointer (some ⟨b,0,none⟩):=by simpa using hv.eq
  simp[results,hr,h2,asAddr,run_loadVar_row (P:=P) (w.ah x) b E ty cs.toArray (0,0) td h1 hu Xd (by simpa using hi)]
 unfold zo
 rcases he with rfl|rfl<;>exact⟨w,by rw[eF,hd];rfl,_,key,hR⟩
theorem yB {u:Tmp} {v2:Value} (hd:A.defers=[]) (hR:R (.returned (.tuple #[.agg cs.toArray,v2])) w) (hb:cO w b E cs.length g) (hg:∀ k,k<cs.length→cs[k]? =some (g k))
  (hu:P.underlying ty=some td) (hr:fn.results= #[.cell t ty,.tmp u]:=by rfl) (Xd:(match td with|.struct _|.array _ _=>true|_=>false)=true:=by rfl) (hi:(P.info? ty).map (·.size)=some cs.length:=by kernel_rfl)
  (he:e=.ret∨e=.normal:=by first|exact .inl rfl|exact .inr rfl) (hv:Is ((fr l A).tmps.getD t undef) (.pointer (some ⟨b,0,none⟩)):=by go_simp;exact Is.mk _) (hv2:Is ((fr l A).tmps.getD u undef) v2:=by go_simp;exact Is.mk _):zo P fn R e (fr l A) w:=by
 have key:∀ x:bM w,(results fn (fr l A).tmps).run P (w.ah x)=.ok (.tuple #[.agg cs.toArray,v2]) (w.ah x):=by
  intro x
  have h1:=EI hb hg x
  have h2:(fr l A).tmps[t]?.getD undef=.pointer (some ⟨b,0,none⟩):=by simpa using hv.eq
  have h3:(fr l A).tmps[u]?.getD undef=v2:=by simpa using hv2.eq
  simp[results,hr,h2,h3,asAddr,run_loadVar_row (P:=P) (w.ah x) b E ty cs.toArray (0,0) td h1 hu Xd (by simpa using hi)]
 unfold zo
 rcases he with rfl|rfl<;>exact⟨w,by rw[eF,hd];rfl,_,key,hR⟩
end
section
variable {P : Program} {ops : Array Oper} {o : Oper} {Q : jo} {fl : List (Nat × Value)} {A : Act} {w : World}
theorem pq {rest:List (Oper×Nat)} {d:Nat} {j t m:Nat} {want:Bool} (h:jh P ops Q rest (fr ((d,undef)::fl) A) w) (hd:o.dst=some d:=by rfl) (hg:o.guard=some (j,want):=by rfl) (ht:(ops[j]?).bind (·.dst)=some t:=by rfl)
  (rM:Is (gw ((fr fl A).tmps.getD t undef) want) false:=by go_simp;exact Is.mk _) (hm:m=1∨m=2:=by first|exact .inl rfl|exact .inr rfl):jh P ops Q ((o,m)::rest) (fr fl A) w:=by
 rcases hm with rfl|rfl
 ·rw[XC]
  intro x
  rw[jA hg ht,rM.eq]
  exact⟨w,x.2,by rw[hd,lW];exact h⟩
 ·exact ajQ (g:=false) (λh=>by cases h) (λ_=>by rw[hd,lW];exact h) hg ht rM
end
end Go.Ws
namespace Go.Ws
open Go Go.RowKit Go.Proofs
set_option maxHeartbeats 4000000
set_option maxRecDepth 100000
set_option linter.unusedVariables false
set_option linter.unusedSimpArgs false
abbrev Rn (why:Int):Value:=.iface 271 (.agg #[.int .i64 why])
abbrev FU (why:Int):List PanicEntry:=[{v:=Rn why,recovered:=false}]
section
variable {P : Program} {Q : jo} {A : Act} {fl : List (Nat × Value)} {ops : Array Oper} {o : Oper} {w : World}
theorem aer {rest:List (Oper×Nat)} {x:Operand} {T:TypeId} {u:Value} (h:Q (.panic [{v:=.iface T u,recovered:=false}]) (fr fl A) w) (yL:o.op=.panic x:=by rfl) (hg:o.guard=none:=by rfl) (hx:Is ((fr fl A).eval x) (.iface T u):=by go_simp;exact Is.mk _):jh P ops Q ((o,2)::rest) (fr fl A) w:=by
 refine Yz (λX=>?_) hg
 have he:(execOp (fr fl A).eval o).run P (w.ah X)=.halt (.panic (.iface T u)) (w.ah X):=by
  unfold execOp
  simp only[yL,hx.eq]
  simp only[Sem.run_bind]
  rw[show Sem.run P (Instr.panic (Value.iface T u)) (w.ah X)=.halt (.panic (.iface T u)) (w.ah X) from rfl]
  rfl
 unfold Bz
 rw[he]
 exact⟨w,X.2,h⟩
end
theorem dZ {w:World} (why:Int):Pure Tryz.prog 161 #[.bool true,.int .i64 why] w (.tuple #[]):=by
 refine Fi (n:=9) Tryz.func161 ?_;intro A hd hA;simp only[ix,Nat.reduceAdd]
 repeat'(first|refine aF ?_|refine au ?_|refine ak (λK hK=>?_)|refine aj ?_|refine aG ?_|refine bJ ?_|go_step)
 exact iL hd ⟨rfl,by simp⟩
theorem jD {w:World} (why:Int):Fn Tryz.prog 161 #[.bool false,.int .i64 why] w (λe w'=>match e with|.panicked c=>c=FU why∧aB w w'|_=>False):=by
 refine Fi (n:=9) Tryz.func161 ?_;intro A hd hA;simp only[ix,Nat.reduceAdd]
 repeat'(first|refine aF ?_|refine au ?_|refine ak (λK hK=>?_)|refine aj ?_|refine bH ?_|go_step)
 refine aer (T:=271) (u:=.agg #[.int .i64 why]) ?_
 unfold zo
 exact⟨w,by rw[eF,hd];rfl,rfl,by simp⟩
end Go.Ws
namespace Go.Ws
open Go Go.RowKit
set_option maxHeartbeats 4000000
set_option maxRecDepth 100000
set_option linter.unusedVariables false
set_option linter.unusedSimpArgs false
theorem XD (N:Nat):∀ (ss:List Nat) (a:Act),fr (ss.zip (ss.map λs=>a.tmps.getD s undef)) a=a:=by
 intro ss a
 have e:∀ L:List (Nat×Value),fr L a={tmps:=kX L a.tmps,defers:=a.defers}:=λL=>by
  have h1:=vY L a
  have h2:=eF L a
  generalize fr L a=b at *
  cases b;simp only at h1 h2;rw[h1,h2]
 rw[e]
 have:kX (ss.zip (ss.map λs=>a.tmps.getD s undef)) a.tmps=a.tmps:=by
  induction ss with
  | nil=>simp[kX]
  | cons s ss ih=>
   simp only[List.map_cons,List.zip_cons_cons,kX]
   rw[ih]
   apply Array.ext
   ·simp
   ·intro i h1 h2
    rw[Array.getElem_setIfInBounds]
    split
    ·rename_i e;subst e;simp[h2]
    ·rfl
 rw[this]
theorem A8 {ρ:Option Nat} {P:Program} {Q:jo} {c:Code} {l:List (Nat×Value)} {A:Act} {w:World} {N:Nat} {ds:List Deferred} (ss:List Nat) (I:List Value→World→Prop) (hd:A.defers=ds) (hA:A.tmps.size=N) (hs:∀ s∈ss,s<N)
  (h1:Wp ρ P c (λe a' w'=>e=.normal∧∃ (l':List (Nat×Value)) (B':Act),a'=fr l' B'∧B'.defers=ds∧B'.tmps.size=N∧I (ss.map λs=>jW s l' B') w') (fr l A) w)
  (h2:∀ (vs:List Value) (B:Act) (w':World),B.defers=ds→B.tmps.size=N→I vs w'→Q .normal (fr (ss.zip vs) B) w'):Wp ρ P c Q (fr l A) w:=by
 refine U0 h1 ?_
 rintro e a w' ⟨rfl,l',B',rfl,hd',hA',hI⟩
 have h:=h2 _ (fr l' B') w' (by rw[eF];exact hd') (by rw[vY,Iz];exact hA') hI
 have hm:(ss.map λs=>jW s l' B')=ss.map λs=>(fr l' B').tmps.getD s undef:=List.map_congr_left λs zq=>(abb l' B' s (by rw[hA'];exact hs s zq)).symm
 rw[hm,XD N]at h
 exact h
section
variable {P : Program} {Q : jo} {A : Act} {fl : List (Nat × Value)} {ops : Array Oper} {o : Oper} {hs : List Nat} {f : Nat} {listed : Array Bool} {w : World} {b n : Nat} {E : TypeId} {g : Nat → Value}
theorem mF {i:Nat} {x y:Operand} {t:TypeId} {off:Nat} {v:Value} (hb:cO w b E n g)
  (h:∀ W',bF (· =b) w W'→cO W' b E n (put g off v.cells.toList)→Ju P ops hs Q f (listed.setIfInBounds i true) (fr fl A) W') (QC:ops[i]? =some o:=by rfl) (hh:hs.contains i=true:=by rfl)
  (ho:o.op=.store t x y:=by rfl) (hd:o.dst=none:=by rfl) (hg:o.guard=none:=by rfl)
  (hx:Is ((fr fl A).eval x) (.pointer (some ⟨b,off,none⟩)):=by go_simp;exact Is.mk _) (hy:Is ((fr fl A).eval y) v:=by go_simp;exact Is.mk _)
  (hi:(P.info? t).map (·.size)=some v.cells.size:=by kernel_rfl) (Ul:off+v.cells.size≤n:=by simp[Value.cells]<;>omega) (h1:v.cells.all (·.oneCell')=true:=by simp[Value.cells,Value.oneCell']):
  Rf P ops hs Q f listed (fr fl A) w i:=by
 refine S_w (λX K hK=>?_) QC hh hd hg
 obtain⟨W',hr,hM,hB⟩:=yx (P:=P) (w:=w.ah X) (hb.ah X.2) t off v hi Ul h1
 unfold uQ execOp
 simp only[ho,hx.eq,hy.eq,Sem.run_bind,hr,Result.andThen_ok,Sem.run_pure]
 exact hK undef W' (h W' (bF.trans X.2 hM (λ_ _ h=>h.elim) (λ_ _ h=>h)) hB)
end
end Go.Ws
namespace Go.Ws
open Go Go.RowKit Go.Proofs
set_option maxHeartbeats 4000000
set_option maxRecDepth 100000
set_option linter.unusedVariables false
set_option linter.unusedSimpArgs false
theorem KE {P:Program} {c:Code} {Q Q0:jo} {a:Act} {W:World} (h:Wp none P c Q0 a W) (hq:∀ e a w0 w',Q0 e a w0→aB w0 w'→Q e a w'):c.wpIn (RF none) 0 P Q a W:=
 Code.pR (λe a w' ⟨w0,hE,hQ⟩=>hq e a w0 w' hQ hE) (h.get ⟨W,aB.refl W⟩)
theorem af4 {P:Program} {c:Code} {Q:jo} {a:Act} {W:World} (l:List (Nat×Value)) (hl:∀ p∈l,a.tmps.getD p.1 undef=p.2) (h:Wp none P c Q (fr l a) W):Wp none P c Q a W:=by
 have h1:=XD 0 (l.map (·.1)) a
 have h2:(l.map (·.1)).zip ((l.map (·.1)).map λs=>a.tmps.getD s undef)=l:=by
  rw[List.map_map,List.zip_map',]
  clear h h1
  induction l with
  | nil=>rfl
  | cons p l ih=>
   rw[List.map_cons,ih (λq hq=>hl q (by simp[hq]))]
   simp only[Function.comp]
   rw[hl p (by simp)]
 rw[h2]at h1
 rwa [h1]at h
def aiH (W1:World):jo:=λe a w0=>(e=.normal∨e=.ret)∧a.defers=[]∧aB W1 w0
theorem Oh {fn:Func} (hfn:fn.results= #[]) {c₀:Frame} {cs:List Frame} {u:FrameMode} {W1:World} {e:Exit} {a:Act} {w0 w':World} (h:aiH W1 e a w0) (hE:aB w0 w') {P:Program} (hu:c₀.mode=u∨True):
  bodyPostS P fn c₀ cs (λe u' W'=>(∃v,e=.returned v)∧u'=u∧aB W1 W') e a ({c₀ with mode:=u}::cs) w':=by
 obtain⟨he,hd,ny⟩:=h
 rcases he with rfl|rfl<;>exact⟨hd,u,rfl,.tuple #[],results_none hfn _ _ _,⟨_,rfl⟩,rfl,Et ny hE⟩
theorem Ro {W:World} (be:Nat):CallsDIn (RF none) 0 Tryz.prog 160 #[.pointer (some ⟨be,0,none⟩)] .returning W λe u' W'=>(∃v,e=.returned v)∧u'=.returning∧aB W W':=by
 refine callsDIn_of_wpSIn Tryz.func160 rfl trivial λc₀ cs hu=>?_
 apply wpSIn_seq
 apply wpSIn_region
 simp[wpOpsSIn,go_sem,recoverD,hu,Tryz.ntmps160,Exit.thenS]
 refine wpSIn_of_wpIn rfl ?_
 refine KE (Q0:=aiH W) ?_ (λe a w0 w' h hE=>by
  have:=Oh (P:=Tryz.prog) (fn:=Tryz.f160) rfl (c₀:=c₀) (cs:=cs) (u:=.returning) h hE (.inr trivial)
  have hc:({c₀ with mode:=FrameMode.returning}:Frame)=c₀:=by cases c₀;simp only at hu;rw[hu]
  rwa [hc]at this)
 refine af4 [(0,.pointer (some ⟨be,0,none⟩)),(5,.nilIface)] (by simp) ?_
 generalize hAA:({tmps:=_,defers:=[]}:Act)=AA
 have hd:AA.defers=[]:=by rw[←hAA]
 have hA:AA.tmps.size=15:=by rw[←hAA];simp
 clear hAA
 repeat'(first|refine aF ?_|refine au ?_|refine ak (λK hK=>?_)|refine aj ?_|refine aJ ?_|refine bH ?_|go_step)
 exact⟨.inl rfl,by rw[eF,hd],by simp⟩
theorem aB.abq {W W1 W2 W':World} {b n:Nat} {E:TypeId} {g:Nat→Value} (fM:bF (· =b) W W1) (nU:cO W1 b E n g) (hE:aB W W2) (hM:bF (· =b) W2 W') (hB:cO W' b E n g) (Kr:W1.heap.size=W.heap.size):aB W1 W':=by
 obtain⟨cs,h1,h2,h3⟩:=nU
 obtain⟨cs',MZ,Yd,Ye⟩:=hB
 have vV:cs'=cs:=by
  apply Array.ext
  ·omega
  ·intro k k1 k2
   have a:=h3 k (by omega)
   have c:=Ye k (by omega)
   rw[←a]at c
   simpa [k1,k2] using c
 refine⟨hM.os.trans (hE.os.trans fM.os.symm),hM.tape.trans (hE.tape.trans fM.tape.symm),hM.output.trans (hE.output.trans fM.output.symm),by have:=hM.size;have:=hE.size;omega,λk hk _=>?_⟩
 by_cases O7:k=b
 ·subst O7;rw[MZ,vV,h1]
 ·have hkw:k<W.heap.size:=by omega
  rw[hM.block k (Nat.lt_of_lt_of_le hkw hE.size) O7,hE.block k hkw (λh=>h),fM.block k hkw O7]
theorem U7 (v:Value) (xT:TypeId) (w:World):(Instr.typeAssert (.iface 271 v) xT 271 true).run Tryz.prog w=.ok (.tuple #[v,.bool true]) w:=by
 unfold Instr.typeAssert
 simp only[Sem.run_bind,run_underlying Tryz.underlying271,Result.andThen_ok]
 simp[Sem.run]
theorem PG {w W W1:World} {be:Nat} {E:TypeId} {x why:Int} (hw:aB w W) (UL:cO w be E 1 (λ_=>.int .i64 x)) (fM:bF (· =be) w W1) (nU:cO W1 be E 1 (λ_=>.int .i64 why)) (Kr:W1.heap.size=w.heap.size):
  CallsDIn (RF none) 0 Tryz.prog 160 #[.pointer (some ⟨be,0,none⟩)] (.panicking (FU why)) W λe u' W'=>(∃v,e=.returned v)∧u'=.panicking [{v:=Rn why,recovered:=true}]∧aB W1 W':=by
 refine callsDIn_of_wpSIn Tryz.func160 rfl trivial λc₀ cs hu=>?_
 apply wpSIn_seq
 apply wpSIn_region
 simp[wpOpsSIn,go_sem,recoverD,hu,Tryz.ntmps160,Exit.thenS]
 refine wpSIn_of_wpIn rfl ?_
 refine KE (Q0:=aiH W1) ?_ (λe a w0 w' h hE=>Oh (P:=Tryz.prog) (fn:=Tryz.f160) rfl (c₀:=c₀) (cs:=cs) (u:=.panicking [{v:=Rn why,recovered:=true}]) h hE (.inr trivial))
 refine af4 [(0,.pointer (some ⟨be,0,none⟩)),(5,Rn why)] (by simp) ?_
 generalize hAA:({tmps:=_,defers:=[]}:Act)=AA
 have hd:AA.defers=[]:=by rw[←hAA]
 have hA:AA.tmps.size=15:=by rw[←hAA];simp
 clear hAA
 have hB:=UL.ah hw
 have hlt:=hB.lt
 have HB:=Zh hB
 clear hB
 have hta:=U7 (.agg #[.int .i64 why])
 repeat'(first|refine aF ?_|refine au ?_|(refine jr (λyn bn aU bD bC bG aS=>?_))|refine ak (λK hK=>?_)|refine aj ?_|refine aJ ?_|refine bH ?_|refine bJ ?_|go_step)
 refine aY (off:=0) (HB.out.ah yn.2) (λW2 kL Fh=>?_)
 have ru:cO W2 be E 1 (λ_=>.int .i64 why):=Fh.congr (λk hk=>by
  obtain rfl:k=0:=by omega
  simp[kZ,Value.cells])
 have hE:=aB.abq fM nU (Et hw yn.2) kL ru Kr
 repeat'(first|refine au ?_|go_step)
 exact⟨.inl rfl,by rw[eF,hd],hE⟩
def gI (be:Nat):Deferred:={target:=.fn (.func 160) #[],args:= #[.pointer (some ⟨be,0,none⟩)]}
theorem Cb (be:Nat) (W:World):(invoke (gI be).target (gI be).args).run Tryz.prog W=.ok (.enter 160 #[.pointer (some ⟨be,0,none⟩)]) W:=by
 unfold gI
 simp[go_sem]
theorem YF (be:Nat) (w:World):ag3 Tryz.prog (gI be) .returning w .returning w:=
 ⟨.func 160,#[],_,_,rfl,λW _=>Cb be W,λW hE=>(Ro be).mono λe u' W' ⟨h1,h2,h3⟩=>⟨h1,h2,Et hE h3⟩⟩
theorem EJ (be:Nat) (w:World):Hr Tryz.prog [gI be] .returning w .returning w:=
 ⟨by simp,.returning,w,YF be w,rfl,rfl⟩
theorem U8 {w W1:World} {be:Nat} {E:TypeId} {x why:Int} (hB:cO w be E 1 (λ_=>.int .i64 x)) (fM:bF (· =be) w W1) (nU:cO W1 be E 1 (λ_=>.int .i64 why)) (Kr:W1.heap.size=w.heap.size):
  ag3 Tryz.prog (gI be) (.panicking (FU why)) w (.panicking [{v:=Rn why,recovered:=true}]) W1:=by
 refine⟨.func 160,#[],_,_,rfl,λW _=>Cb be W,λW hE=>?_⟩
 exact(PG hE hB fM nU Kr).mono λe u' W' ⟨h1,h2,h3⟩=>⟨h1,h2,h3⟩
theorem Cc {w W1:World} {be:Nat} {E:TypeId} {x why:Int} (hB:cO w be E 1 (λ_=>.int .i64 x)) (fM:bF (· =be) w W1) (nU:cO W1 be E 1 (λ_=>.int .i64 why)) (Kr:W1.heap.size=w.heap.size):
  Hr Tryz.prog [gI be] (.panicking (FU why)) w .returning W1:=
 ⟨by simp,_,W1,U8 hB fM nU Kr,rfl,rfl⟩
theorem PI {w:World} {be:Nat} {E:TypeId} {x:Int} (why:Int) (hB:cO w be E 1 (λ_=>.int .i64 x)):∃ W1,bF (· =be) w W1∧cO W1 be E 1 (λ_=>.int .i64 why)∧W1.heap.size=w.heap.size:=by
 refine⟨w.setCell ⟨be,0,none⟩ (.int .i64 why),⟨rfl,rfl,rfl,by simp,λk hk jm=>heap_setCell_other _ _ _ _ jm⟩,?_,by simp⟩
 obtain⟨cs,h,hs,hg⟩:=hB
 refine⟨cs.setIfInBounds 0 (.int .i64 why),heap_setCell_same w be 0 cs E _ h,by simp[hs],λk hk=>?_⟩
 obtain rfl:k=0:=by omega
 simp[hs]
section
variable {P : Program} {fn : Func} {R : Hq} {e : Exit} {t b be tx bx : Nat} {ty : TypeId} {w : World} {l : List (Nat × Value)} {A : Act} {E : TypeId} {v vx : Value} {x why : Int}
theorem wI {W:World} (Yf:∀ w,(isAgg ty).run P w=.ok false w) (hc:W.cell? ⟨b,0,none⟩=some v):(loadVar ty ⟨b,0,none⟩).run P W=.ok v W:=by
 simp[loadVar,Yf,Go.load,Sem.run_bind,Sem.run,hc]
theorem abr {W:World} {td:TypeDesc} {cs:List Value} {g:Nat→Value} (hb:cO W b E cs.length g) (hg:∀ k,k<cs.length→cs[k]? =some (g k))
  (hu:P.underlying ty=some td) (Xd:(match td with|.struct _|.array _ _=>true|_=>false)=true:=by rfl) (hi:(P.info? ty).map (·.size)=some cs.length:=by kernel_rfl):(loadVar ty ⟨b,0,none⟩).run P W=.ok (.agg cs.toArray) W:=
 run_loadVar_row (P:=P) W b E ty cs.toArray (0,0) td (EI hb hg ⟨W,aB.refl W⟩) hu Xd (by simpa using hi)
theorem Yg {W:World} {tmps:Array Value} (hr:fn.results= #[.cell t ty]) (ht:tmps.getD t undef=.pointer (some ⟨b,0,none⟩)) (hl:(loadVar ty ⟨b,0,none⟩).run P W=.ok v W):(results fn tmps).run P W=.ok v W:=by
 have h2:tmps[t]?.getD undef=.pointer (some ⟨b,0,none⟩):=by simpa using ht
 simp[results,hr,h2,asAddr,hl]
theorem XE {W:World} {tmps:Array Value} {te:Nat} {tye:TypeId} (hr:fn.results= #[.cell t ty,.cell te tye]) (ht:tmps.getD t undef=.pointer (some ⟨b,0,none⟩)) (hl:(loadVar ty ⟨b,0,none⟩).run P W=.ok v W)
  (hte:tmps.getD te undef=.pointer (some ⟨be,0,none⟩)) (hle:(loadVar tye ⟨be,0,none⟩).run P W=.ok vx W):(results fn tmps).run P W=.ok (.tuple #[v,vx]) W:=by
 have h2:tmps[t]?.getD undef=.pointer (some ⟨b,0,none⟩):=by simpa using ht
 have h3:tmps[te]?.getD undef=.pointer (some ⟨be,0,none⟩):=by simpa using hte
 simp[results,hr,h2,h3,asAddr,hl,hle]
end
section
variable {fn : Func} {R : Hq} {e : Exit} {t te bx be : Nat} {ty : TypeId} {w : World} {l : List (Nat × Value)} {A : Act} {E E' : TypeId} {v : Value} {x why : Int}
theorem xW (hd:A.defers=[gI be]) (hB:cO w be E 1 (λ_=>.int .i64 x)) (hR:∀ W1,bF (· =be) w W1→R (.returned (.int .i64 why)) W1) (hr:fn.results= #[.cell te 28]:=by rfl)
  (hv:Is ((fr l A).tmps.getD te undef) (.pointer (some ⟨be,0,none⟩)):=by go_simp;exact Is.mk _):Eb Tryz.prog fn R (.panic (FU why)) (fr l A) w:=by
 obtain⟨W1,h1,h2,h3⟩:=PI why hB
 refine⟨.returning,W1,by rw[eF,hd];exact Cc hB h1 h2 h3,.int .i64 why,λX=>?_,hR W1 h1⟩
 exact Yg hr hv.eq (wI Tryz.isAgg28 ((h2.ah X.2).cell (k:=0) (by omega)))
theorem zJ (hd:A.defers=[gI be]) (hB:cO w be E 1 (λ_=>.int .i64 x)) (hR:R (.returned (.int .i64 x)) w) (hr:fn.results= #[.cell te 28]:=by rfl) (he:e=.ret∨e=.normal:=by first|exact .inl rfl|exact .inr rfl)
  (hv:Is ((fr l A).tmps.getD te undef) (.pointer (some ⟨be,0,none⟩)):=by go_simp;exact Is.mk _):Eb Tryz.prog fn R e (fr l A) w:=by
 have h:YD Tryz.prog fn (fr l A).tmps R .returning w:=⟨.int .i64 x,λX=>Yg hr hv.eq (wI Tryz.isAgg28 ((hB.ah X.2).cell (k:=0) (by omega))),hR⟩
 rcases he with rfl|rfl<;>exact⟨.returning,w,by rw[eF,hd];exact EJ be w,h⟩
theorem aes (hd:A.defers=[gI be]) (hB:cO w be E 1 (λ_=>.int .i64 x)) (hx:∀ W,(∀k,k≠be→k<w.heap.size→W.heap[k]? =w.heap[k]?)→(loadVar ty ⟨bx,0,none⟩).run Tryz.prog W=.ok v W) (hR:∀ W1,bF (· =be) w W1→R (.returned (.tuple #[v,.int .i64 why])) W1) (hr:fn.results= #[.cell t ty,.cell te 28]:=by rfl)
  (hv:Is ((fr l A).tmps.getD te undef) (.pointer (some ⟨be,0,none⟩)):=by go_simp;exact Is.mk _) (hvx:Is ((fr l A).tmps.getD t undef) (.pointer (some ⟨bx,0,none⟩)):=by go_simp;exact Is.mk _):Eb Tryz.prog fn R (.panic (FU why)) (fr l A) w:=by
 obtain⟨W1,h1,h2,h3⟩:=PI why hB
 refine⟨.returning,W1,by rw[eF,hd];exact Cc hB h1 h2 h3,.tuple #[v,.int .i64 why],λX=>?_,hR W1 h1⟩
 exact XE hr hvx.eq (hx _ (λk hk hkw=>(X.2.block k (by omega) (λh=>h)).trans (h1.block k hkw hk))) hv.eq (wI Tryz.isAgg28 ((h2.ah X.2).cell (k:=0) (by omega)))
theorem aeu (hd:A.defers=[gI be]) (hB:cO w be E 1 (λ_=>.int .i64 x)) (hx:∀ W,(∀k,k<w.heap.size→W.heap[k]? =w.heap[k]?)→(loadVar ty ⟨bx,0,none⟩).run Tryz.prog W=.ok v W) (hR:R (.returned (.tuple #[v,.int .i64 x])) w) (hr:fn.results= #[.cell t ty,.cell te 28]:=by rfl) (he:e=.ret∨e=.normal:=by first|exact .inl rfl|exact .inr rfl)
  (hv:Is ((fr l A).tmps.getD te undef) (.pointer (some ⟨be,0,none⟩)):=by go_simp;exact Is.mk _) (hvx:Is ((fr l A).tmps.getD t undef) (.pointer (some ⟨bx,0,none⟩)):=by go_simp;exact Is.mk _):Eb Tryz.prog fn R e (fr l A) w:=by
 have h:YD Tryz.prog fn (fr l A).tmps R .returning w:=⟨.tuple #[v,.int .i64 x],λX=>XE hr hvx.eq (hx _ (λk hkw=>X.2.block k hkw (λh=>h))) hv.eq (wI Tryz.isAgg28 ((hB.ah X.2).cell (k:=0) (by omega))),hR⟩
 rcases he with rfl|rfl<;>exact⟨.returning,w,by rw[eF,hd];exact EJ be w,h⟩
theorem um {N:Nat} {Q:jo} {fl:List (Nat×Value)} {ops:Array Oper} {o:Oper} {rest:List (Oper×Nat)} (hd0:A.defers=[]) (hA:A.tmps.size=N) (hd:∀ W,aB w W→(execOp (fr fl A).eval o).run Tryz.prog W=.ok (.defer (gI be)) W)
  (h:∀ A':Act,A'.defers=[gI be]→A'.tmps.size=N→jh Tryz.prog ops Q rest (fr fl A') w) (aiG:o.dst=none:=by rfl) (hg:o.guard=none:=by rfl):jh Tryz.prog ops Q ((o,2)::rest) (fr fl A) w:=
 aep hd (h _ (by simp[hd0]) hA) aiG hg
end
def rZ (n a b:Int):Bool:=decide (a≤n)&&decide (n≤b)
def fJ (e:cZ):Bool:=
 rZ e.ep 1 2147483647&&decide (1≤e.kind)&&decide (e.kind≤3)&&rZ e.id (-1) 3&& !(decide (1<e.kind)&&decide (e.id<0))&&
 !(decide (e.id<0)&&(decide (e.num≠0)||decide (e.seq≠0)))&& !(decide (0≤e.id)&& !rZ e.num 1 2147483647)&&
 !(decide (1<e.kind)&&(decide (e.seq≠0)||decide (e.val≠0)))&&rZ e.seq 0 2147483647&&rZ e.val (-2147483648) 2147483647
def nK (l:List cZ) (id num:Int):Bool:=l.any λe=>(e.id==id)&&(e.num==num)&&decide (1<e.kind)
def KF (l:List cZ) (id:Int) (out:List Opn) (i:Nat) (e:cZ):List Opn:=
 if(e.id != id||e.kind != 1||nK l id e.num)=true then out else if(out.any λo=>o.num==e.num)=true then out else out++[⟨e.num,i⟩]
def uH (l:List cZ) (id:Int):Nat→List cZ→List Opn→List Opn
 | _,[],out=>out
 | i,e::es,out=>uH l id (i+1) es (KF l id out i e)
def Ht (l:List cZ) (id:Int):List Opn:=uH l id 0 l []
theorem FV (l:List cZ) (id:Int) (e:cZ):∀ (es:List cZ) (i:Nat) (out:List Opn),uH l id i (es++[e]) out=KF l id (uH l id i es out) (i+es.length) e
 | [],i,out=>by simp[uH]
 | x::es,i,out=>by
  simp only[List.cons_append,uH,List.length_cons]
  rw[FV l id e es];congr 1;omega
def vk (l:List cZ) (e:cZ):Bool:=match l.getLast? with|some x=>decide (e.ep<x.ep)|none=>false
def bY (l:List cZ) (e:cZ):Int:=if fJ e=false then 2 else if 4096≤l.length then 3 else if vk l e=true then 180 else 0
theorem U9 {l:List cZ} {e x:cZ} {i:Nat} (h:l[i]? =some x) (hi:i+1=l.length):vk l e=decide (e.ep<x.ep):=by
 have:l.getLast? =some x:=by rw[List.getLast?_eq_getElem?];rw[show l.length-1=i by omega];exact h
 simp[vk,this]
end Go.Ws
