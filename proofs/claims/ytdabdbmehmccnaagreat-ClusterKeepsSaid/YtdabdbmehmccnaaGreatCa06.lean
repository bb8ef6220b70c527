/- Lemmas for the statements of this layer (joined texts); no condition. -/
import Derived.Test.YtdabdbmehmccnaaGreatCa01
import Derived.Test.YtdabdbmehmccnaaGreatCa03
import Derived.Test.YtdabdbmehmccnaaGreatCa05
namespace Go.Ws
open Go Go.RowKit Go.Proofs
set_option maxHeartbeats 4000000
set_option maxRecDepth 100000
set_option linter.unusedVariables false
set_option linter.unusedSimpArgs false
abbrev Pm (x:dL×Value):List Value:=[.int .i64 x.1.leader,.int .i64 x.1.epoch,.int .i64 x.1.version,x.2]
abbrev Za (x:bW×Value):List Value:=[.int .i64 x.1.session,.int .i64 x.1.num,.int .i64 x.1.state,x.2,.int .i64 x.1.offset,.int .i64 x.1.next]
abbrev UQ (x:Bool):List Value:=[.bool x]
def xR (f:gB) (uL uV uW:Value):Nat→Value
 | 0=>.int .i64 f.aK
 | 1=>.int .i64 f.parts
 | 2=>.int .i64 f.ids
 | 3=>uL
 | 4=>uV
 | _=>uW
structure yg where
 uL:Value
 uV:Value
 uW:Value
 vs:List (dL×Value)
 ws:List (bW×Value)
 T:Nat→Nat
structure fZ (w:World) (b:Nat) (a:yg) (m:aH):Prop where
 gy:cO w b 121 6 (xR m.form a.uL a.uV a.uW)
 lives:dQ UQ 1 4 w a.uL m.lives
 views:dQ Pm 4 45 w a.uV a.vs
 lu:dQ Za 6 148 w a.uW a.ws
 vm:a.vs.map (·.1)=m.views
 wm:a.ws.map (·.1)=m.eY
 isr:∀ i x,a.vs[i]? =some x→ig w x.2 x.1.isr∧∀ k,x.2.ownBlock=some k→a.T k=8+i
 parts:∀ i x,a.ws[i]? =some x→ig w x.2 x.1.parts∧∀ k,x.2.ownBlock=some k→a.T k=16+i
 tb:a.T b=1
 tL:∀ k,a.uL.ownBlock=some k→a.T k=2
 tV:∀ k,a.uV.ownBlock=some k→a.T k=3
 tW:∀ k,a.uW.ownBlock=some k→a.T k=4
 lt:∀ k,a.T k≠0→k<w.heap.size
 bU:m.dH
def gX (w:World) (b:Nat) (F:Nat→Prop) (m:aH):Prop:=∃ a,fZ w b a m∧∀ k,a.T k≠0→F k
section
variable {w w' : World} {b : Nat} {a : yg} {m : aH} {F G : Nat → Prop}
theorem fZ.aW (h:fZ w b a m) (hM:bF G w w') (hG:∀ k,a.T k≠0→¬ G k):fZ w' b a m:=
 ⟨h.gy.aW hM (hG _ (by rw[h.tb];decide)),h.lives.aW hM (λk hk=>hG _ (by rw[h.tL k hk];decide)),h.views.aW hM (λk hk=>hG _ (by rw[h.tV k hk];decide)),h.lu.aW hM (λk hk=>hG _ (by rw[h.tW k hk];decide)),h.vm,h.wm,
  λi x hx=>⟨(h.isr i x hx).1.aW hM (λk hk=>hG _ (by rw[(h.isr i x hx).2 k hk];omega)),(h.isr i x hx).2⟩,
  λi x hx=>⟨(h.parts i x hx).1.aW hM (λk hk=>hG _ (by rw[(h.parts i x hx).2 k hk];omega)),(h.parts i x hx).2⟩,h.tb,h.tL,h.tV,h.tW,λk hk=>Nat.lt_of_lt_of_le (h.lt k hk) hM.size,h.bU⟩
theorem fZ.ah (h:fZ w b a m) (hE:aB w w'):fZ w' b a m:=h.aW hE (λ_ _ h=>h)
theorem gX.aW (h:gX w b F m) (hM:bF G w w') (hG:∀ k,F k→¬ G k):gX w' b F m:=by
 obtain⟨a,h,hF⟩:=h
 exact⟨a,h.aW hM (λk hk=>hG k (hF k hk)),hF⟩
theorem gX.ah (h:gX w b F m) (hE:aB w w'):gX w' b F m:=h.aW hE (λ_ _ h=>h)
theorem gX.mono (h:gX w b F m) (hF:∀ k,F k→G k):gX w b G m:=by
 obtain⟨a,h,h2⟩:=h
 exact⟨a,h,λk hk=>hF k (h2 k hk)⟩
theorem gX.Fp (h:gX w b F m):gX w b (λk=>F k∧k<w.heap.size) m:=by
 obtain⟨a,h,h2⟩:=h
 exact⟨a,h,λk hk=>⟨h2 k hk,h.lt k hk⟩⟩
theorem gX.bU (h:gX w b F m):m.dH:=by obtain⟨a,h,-⟩:=h;exact h.bU
theorem fZ.cells (h:fZ w b a m):b<w.heap.size∧w.cell? ⟨b,0,none⟩=some (.int .i64 m.form.aK)∧w.cell? ⟨b,1,none⟩=some (.int .i64 m.form.parts)∧w.cell? ⟨b,2,none⟩=some (.int .i64 m.form.ids)∧
  w.cell? ⟨b,3,none⟩=some a.uL∧w.cell? ⟨b,4,none⟩=some a.uV∧w.cell? ⟨b,5,none⟩=some a.uW:=
 ⟨h.gy.lt,h.gy.cell (by omega),h.gy.cell (by omega),h.gy.cell (by omega),h.gy.cell (by omega),h.gy.cell (by omega),h.gy.cell (by omega)⟩
theorem gX.cells (h:gX w b F m):b<w.heap.size∧w.cell? ⟨b,0,none⟩=some (.int .i64 m.form.aK)∧w.cell? ⟨b,1,none⟩=some (.int .i64 m.form.parts)∧w.cell? ⟨b,2,none⟩=some (.int .i64 m.form.ids):=by
 obtain⟨a,h,-⟩:=h
 obtain⟨h1,h2,h3,h4,-⟩:=h.cells
 exact⟨h1,h2,h3,h4⟩
theorem fZ.xQ (h:fZ w b a m):a.vs.length=m.form.parts.toNat:=by rw[←h.bU.xQ,←h.vm,List.length_map]
theorem fZ.DT (h:fZ w b a m):a.ws.length=m.form.ids.toNat:=by rw[←h.bU.DT,←h.wm,List.length_map]
theorem fZ.view (h:fZ w b a m) {p:Int} (hp:m.part p=true):∃ u,a.vs[p.toNat]? =some (m.view p,u):=by
 have h1:=fV hp
 have h2:=h.xQ
 obtain⟨x,hx⟩:∃ x,a.vs[p.toNat]? =some x:=⟨_,List.getElem?_eq_getElem (by omega)⟩
 refine⟨x.2,?_⟩
 have:m.view p=x.1:=by
  show m.views.getD p.toNat dL.zero=x.1
  rw[List.getD_eq_getElem?_getD,←h.vm,List.getElem?_map,hx];rfl
 rw[this];exact hx
theorem fZ.ay (h:fZ w b a m) {i:Int} (hi:m.id i=true):∃ u,a.ws[i.toNat]? =some (m.ay i,u):=by
 have h1:0≤i∧i<m.form.ids:=by simpa [aH.id] using hi
 have h2:=h.DT
 obtain⟨x,hx⟩:∃ x,a.ws[i.toNat]? =some x:=⟨_,List.getElem?_eq_getElem (by omega)⟩
 refine⟨x.2,?_⟩
 have:m.ay i=x.1:=by
  show m.eY.getD i.toNat bW.zero=x.1
  rw[List.getD_eq_getElem?_getD,←h.wm,List.getElem?_map,hx];rfl
 rw[this];exact hx
def yg.aky (a:yg) (i:Nat) (x:dL×Value) (T:Nat→Nat):yg:={a with vs:=a.vs.set i x,T:=T}
def yg.akz (a:yg) (i:Nat) (x:bW×Value) (T:Nat→Nat):yg:={a with ws:=a.ws.set i x,T:=T}
def oP (T:Nat→Nat) (u:Value) (t:Nat):Nat→Nat:=λk=>if u.ownBlock=some k then t else T k
theorem sH {T:Nat→Nat} {u:Value} {t k:Nat} (h:u.ownBlock=some k):oP T u t k=t:=if_pos h
theorem iW {T:Nat→Nat} {u:Value} {t k:Nat} (h:u.ownBlock≠some k):oP T u t k=T k:=if_neg h
theorem fZ.Sj (h:fZ w b a m) {p:Int} (hp:m.part p=true) {v:dL} {u:Value} {T:Nat→Nat} (hv:rJ m.form v) (hM:bF G w w') (hG:∀ k,a.T k≠0→a.T k≠3→a.T k≠8+p.toNat→¬ G k)
  (hV:dQ Pm 4 45 w' a.uV (a.vs.set p.toNat (v,u))) (hu:ig w' u v.isr) (hT:∀ k,a.T k≠0→T k=a.T k) (hTu:∀ k,u.ownBlock=some k→T k=8+p.toNat) (hTl:∀ k,T k≠0→k<w'.heap.size):
  fZ w' b (a.aky p.toNat (v,u) T) (m.nP p v):=by
 have vK:∀ {k t},a.T k=t→t≠0→T k=t:=λh1 h2=>by rw[hT _ (by rw[h1];exact h2),h1]
 refine⟨h.gy.aW hM (hG _ (by rw[h.tb];decide) (by rw[h.tb];decide) (by rw[h.tb];omega)),h.lives.aW hM (λk hk=>by have:=h.tL k hk;exact hG _ (by omega) (by omega) (by omega)),hV,h.lu.aW hM (λk hk=>by have:=h.tW k hk;exact hG _ (by omega) (by omega) (by omega)),?_,h.wm,?_,?_,
  vK h.tb (by decide),λk hk=>vK (h.tL k hk) (by decide),λk hk=>vK (h.tV k hk) (by decide),λk hk=>vK (h.tW k hk) (by decide),hTl,h.bU.nP p hv⟩
 ·show (a.vs.set p.toNat (v,u)).map (·.1)=m.views.set p.toNat v
  rw[List.map_set,h.vm]
 ·intro i x hx
  have DK:(a.vs.set p.toNat (v,u))[i]? =some x:=hx
  by_cases hi:i=p.toNat
  ·subst hi
   have hlt:p.toNat<a.vs.length:=by have:=(Ge DK).1;rwa [List.length_set]at this
   rw[List.getElem?_set_self hlt]at DK
   cases DK
   exact⟨hu,hTu⟩
  ·rw[List.getElem?_set_ne (λe=>hi e.symm)]at DK
   obtain⟨h1,h2⟩:=h.isr i x DK
   exact⟨h1.aW hM (λk hk=>by have:=h2 k hk;exact hG _ (by omega) (by omega) (by omega)),λk hk=>vK (h2 k hk) (by omega)⟩
 ·intro i x hx
  obtain⟨h1,h2⟩:=h.parts i x hx
  have h3:=h.xQ
  have h4:=fV hp
  have h5:=gB.dX h.bU.right
  exact⟨h1.aW hM (λk hk=>by have:=h2 k hk;exact hG _ (by omega) (by omega) (by omega)),λk hk=>vK (h2 k hk) (by omega)⟩
theorem fZ.afL (h:fZ w b a m) {i:Int} (hi:m.id i=true) {v:bW} {u:Value} {T:Nat→Nat} (hv:kU m.form v) (hM:bF G w w') (hG:∀ k,a.T k≠0→a.T k≠4→a.T k≠16+i.toNat→¬ G k)
  (hV:dQ Za 6 148 w' a.uW (a.ws.set i.toNat (v,u))) (hu:ig w' u v.parts) (hT:∀ k,a.T k≠0→T k=a.T k) (hTu:∀ k,u.ownBlock=some k→T k=16+i.toNat) (hTl:∀ k,T k≠0→k<w'.heap.size):
  fZ w' b (a.akz i.toNat (v,u) T) (m.kC i v):=by
 have vK:∀ {k t},a.T k=t→t≠0→T k=t:=λh1 h2=>by rw[hT _ (by rw[h1];exact h2),h1]
 refine⟨h.gy.aW hM (hG _ (by rw[h.tb];decide) (by rw[h.tb];decide) (by rw[h.tb];omega)),h.lives.aW hM (λk hk=>by have:=h.tL k hk;exact hG _ (by omega) (by omega) (by omega)),h.views.aW hM (λk hk=>by have:=h.tV k hk;exact hG _ (by omega) (by omega) (by omega)),hV,h.vm,?_,?_,?_,
  vK h.tb (by decide),λk hk=>vK (h.tL k hk) (by decide),λk hk=>vK (h.tV k hk) (by decide),λk hk=>vK (h.tW k hk) (by decide),hTl,h.bU.kC i hv⟩
 ·show (a.ws.set i.toNat (v,u)).map (·.1)=m.eY.set i.toNat v
  rw[List.map_set,h.wm]
 ·intro j x hx
  obtain⟨h1,h2⟩:=h.isr j x hx
  have h3:=h.xQ
  have h4:j<a.vs.length:=(Ge hx).1
  have h5:=gB.dX h.bU.right
  exact⟨h1.aW hM (λk hk=>by have:=h2 k hk;exact hG _ (by omega) (by omega) (by omega)),λk hk=>vK (h2 k hk) (by omega)⟩
 ·intro j x hx
  have DK:(a.ws.set i.toNat (v,u))[j]? =some x:=hx
  by_cases hj:j=i.toNat
  ·subst hj
   have hlt:i.toNat<a.ws.length:=by have:=(Ge DK).1;rwa [List.length_set]at this
   rw[List.getElem?_set_self hlt]at DK
   cases DK
   exact⟨hu,hTu⟩
  ·rw[List.getElem?_set_ne (λe=>hj e.symm)]at DK
   obtain⟨h1,h2⟩:=h.parts j x DK
   exact⟨h1.aW hM (λk hk=>by have:=h2 k hk;exact hG _ (by omega) (by omega) (by omega)),λk hk=>vK (h2 k hk) (by omega)⟩
theorem fZ.akB (h:fZ w b a m) {p:Int} (hp:m.part p=true) {v:dL} {u:Value} (hv:rJ m.form v) (hM:bF G w w') (hG:∀ k,G k→a.uV.ownBlock=some k)
  (hV:dQ Pm 4 45 w' a.uV (a.vs.set p.toNat (v,u))) (hx:a.vs[p.toNat]? =some (m.view p,u)) (hi:v.isr=(m.view p).isr):fZ w' b (a.aky p.toNat (v,u) a.T) (m.nP p v):=by
 obtain⟨h1,h2⟩:=h.isr _ _ hx
 refine h.Sj hp hv hM (λk _ h4 _ hg=>h4 (h.tV k (hG k hg))) hV (by rw[hi];exact h1.aW hM (λk hk hg=>by have:=h2 k hk;have:=h.tV k (hG k hg);omega)) (λ_ _=>rfl) h2 (λk hk=>Nat.lt_of_lt_of_le (h.lt k hk) hM.size)
theorem fZ.agd (h:fZ w b a m) {i:Int} (hi:m.id i=true) {v:bW} {u:Value} (hv:kU m.form v) (hM:bF G w w') (hG:∀ k,G k→a.uW.ownBlock=some k)
  (hV:dQ Za 6 148 w' a.uW (a.ws.set i.toNat (v,u))) (hx:a.ws[i.toNat]? =some (m.ay i,u)) (he:v.parts=(m.ay i).parts):fZ w' b (a.akz i.toNat (v,u) a.T) (m.kC i v):=by
 obtain⟨h1,h2⟩:=h.parts _ _ hx
 refine h.afL hi hv hM (λk _ h4 _ hg=>h4 (h.tW k (hG k hg))) hV (by rw[he];exact h1.aW hM (λk hk hg=>by have:=h2 k hk;have:=h.tW k (hG k hg);omega)) (λ_ _=>rfl) h2 (λk hk=>Nat.lt_of_lt_of_le (h.lt k hk) hM.size)
end
theorem Ns {g:Nat→Value} {cs:List Value} (k:Nat) (hk:k<cs.length):cs[k]? =some (put g 0 cs k):=by
 rw[BZ k hk (by omega)];simp[List.getD_eq_getElem?_getD,List.getElem?_eq_getElem hk]
def qZ (w:World) (v:Value) (c:Bool):Prop:=∃ fk first cap fn,v=.func (.func fk) first cap∧Tryz.prog.funcs[fk]? =some fn∧iC fn=true∧∀ w',aB w w'→Pure Tryz.prog fk (first++([]:List Value).toArray++cap) w' (.bool c)
theorem qZ.ah {w w':World} {v:Value} {c:Bool} (h:qZ w v c) (hE:aB w w'):qZ w' v c:=by
 obtain⟨fk,first,cap,fn,h1,h2,h3,h4⟩:=h
 exact⟨fk,first,cap,fn,h1,h2,h3,λw2 h=>h4 w2 (Et hE h)⟩
abbrev ccs (x:Value×Bool×Int):List Value:=[x.1,.int .i64 x.2.2]
def fA:List (Value×Bool×Int)→Int
 | []=>0
 | x::xs=>if x.2.1=true then x.2.2 else fA xs
theorem Rd.chk {w:World} {v:Value} {l:List (Value×Bool×Int)} (h:Rd ccs 2 w v l):∃ A c,v=.slice A l.length c∧l.length≤c∧c≤9223372036854775807∧
  Hid (∀i,i<l.length→∃ e b o,Hid (l[i]? =some e)∧A=some ⟨b,o,none⟩∧b<w.heap.size∧w.cell? ⟨b,o+i *2,none⟩=some e.1∧w.cell? ⟨b,o+i *2+1,none⟩=some (.int .i64 e.2.2)):=by
 obtain⟨A,c,h1,h2,h3,h4⟩:=h
 refine⟨A,c,h1,h2,h3,λi hi=>?_⟩
 have he:l[i]? =some l[i]:=by simp[hi]
 rcases h4 with⟨_,rfl⟩|⟨b,o,hA,hb,hr⟩
 ·simp at hi
 ·exact⟨l[i],b,o,he,hA,hb,hr i _ he 0 _ rfl,hr i _ he 1 _ rfl⟩
theorem P7 {w:World} {v:Value} {xs:List (Value×Bool×Int)} (hv:Rd ccs 2 w v xs) (hch:∀ x∈xs,qZ w x.1 x.2.1):Pure Tryz.prog 62 #[v] w (.int .i64 (fA xs)):=by
 obtain⟨A0,c,rfl,hc,jT,HR⟩:=hv.chk
 have HC:=Zh hch
 clear hv hch
 refine Fi (n:=17) Tryz.func62 ?_;intro A hd hA;simp only[ix,Nat.reduceAdd]
 repeat'(first|refine aF ?_|refine au ?_|refine ak (λK hK=>?_)|refine aj ?_|refine aJ ?_|go_step)
 refine dJ [5,6,7] (λn vs w'=>∃ k:Nat,aB w w'∧k+n=xs.length∧vs=[.slice A0 xs.length c,.int .i64 xs.length,.int .i64 k]∧fA (xs.drop k)=fA xs) xs.length hd hA (by decide) ⟨0,by simp,by omega,by simp,rfl⟩ ?_
 clear hd hA A;intro n vs B w' hd hA _ ⟨k,hE,hk,jk,hm⟩;subst jk
 obtain⟨y,rfl⟩:=hE.get
 clear hE
 simp only[List.zip_cons_cons,List.zip_nil_right,List.zip_nil_left]
 by_cases hlt:k<xs.length
 ·obtain⟨x,b,o,HX,rfl,hb,c0,c1⟩:=HR k hlt
  have sZ:(k:Int)<xs.length:=by omega
  have MK:xs.drop k=x::xs.drop (k+1):=by
   rw[List.drop_eq_getElem_cons hlt]
   have Ru:=HX.out
   rw[List.getElem?_eq_getElem hlt]at Ru
   cases Ru;rfl
  rw[MK]at hm
  obtain⟨fk,first,cap,fn,hfx,NW,Ph,MN⟩:=HC.out x (zI HX.out)
  obtain⟨xv,xb,xn⟩:=x
  simp only at hfx c0 c1 MN
  subst hfx
  have HF:=Zh MN
  clear MK MN
  cases xb
  ·have HM:Hid (fA (xs.drop (k+1))=fA xs):=Zh (by simpa [fA] using hm)
   clear hm
   repeat'(first|refine aF ?_|refine au ?_|(refine jr (λyn bn aU bD bC bG aS=>?_))|refine ak (λK hK=>?_)|refine aj ?_|refine aG ?_|refine aJ ?_|refine bH ?_|go_step)
   refine dM (lv:=[]) (first:=first) (captured:=cap) (R:=λv' w'=>v'=.bool false∧aB _ w') NW (HF.out _ (by simp)) (λv' w' hR=>?_) rfl rfl Ph
   obtain⟨rfl,hE⟩:=hR
   obtain⟨y',rfl⟩:=hE.get
   clear hE
   repeat'(first|refine aF ?_|refine au ?_|refine aj ?_|refine aG ?_|refine bJ ?_|go_step)
   exact⟨_,_,rfl,hd,hA,n-1,by omega,k+1,by simp,by omega,by simp,HM.out⟩
  ·have HM:Hid (xn=fA xs):=Zh (by simpa [fA] using hm)
   clear hm
   repeat'(first|refine aF ?_|refine au ?_|(refine jr (λyn bn aU bD bC bG aS=>?_))|refine ak (λK hK=>?_)|refine aj ?_|refine aG ?_|refine aJ ?_|refine bH ?_|go_step)
   refine dM (lv:=[]) (first:=first) (captured:=cap) (R:=λv' w'=>v'=.bool true∧aB _ w') NW (HF.out _ (by simp)) (λv' w' hR=>?_) rfl rfl Ph
   obtain⟨rfl,hE⟩:=hR
   obtain⟨y',rfl⟩:=hE.get
   clear hE
   repeat'(first|refine aF ?_|refine au ?_|refine ak (λK hK=>?_)|refine aj ?_|refine aC ?_|refine bH ?_|go_step)
   exact aA hd ⟨by rw[←HM.out],by simp⟩
 ·obtain rfl:k=xs.length:=by omega
  rw[List.drop_length]at hm
  have HM:Hid (0=fA xs):=Zh hm
  clear hm
  repeat'(first|refine aF ?_|refine au ?_|refine ak (λK hK=>?_)|refine aj ?_|refine aC ?_|refine dS ?_|refine bJ ?_|go_step)
  exact aA hd ⟨by rw[←HM.out],by simp⟩
theorem dW {w:World} {b:Nat} {cs:Array Value} (xs:List (Value×Bool×Int)) (hb:Hid (w.heap[b]? =some (.cells cs 117))) (vV:cs.toList=xs.flatMap ccs) (hm:xs.length≤maxLen):Rd ccs 2 w (.slice (some ⟨b,0,none⟩) xs.length xs.length) xs:=by
 have h:dQ ccs 2 117 w (.slice (some ⟨b,0,none⟩) xs.length xs.length) xs:=by
  refine⟨eH (enc:=ccs) (k:=2) (λ_=>rfl) xs,.inr ⟨b,xs.length,cs,rfl,Nat.zero_le _,hb.out,Nat.le_refl _,hm,?_,?_⟩⟩
  ·rw[←Array.length_toList,vV,eH (enc:=ccs) (k:=2) (λ_=>rfl)]
  ·rw[vV,←eH (enc:=ccs) (k:=2) (λ_=>rfl) xs];exact List.take_length
 exact dQ.rd (enc:=ccs) (k:=2) (λ_=>rfl) h
theorem Sm {w:World} {b:Nat} {f:gB} {uL uW:Value} {X:Option Addr} {n c:Nat} (hb:cO w b 121 6 (xR f uL (.slice X n c) uW)):Pure Tryz.prog 121 #[.pointer (some ⟨b,0,none⟩)] w (.bool ((n:Int)==0)):=by
 have c4:=hb.cell (k:=4) (by omega)
 have hlt:=hb.lt
 clear hb
 simp only[xR]at c4
 refine Fi (n:=13) Tryz.func121 ?_;intro A hd hA;simp only[ix,Nat.reduceAdd]
 repeat'(first|refine dw ?_|refine aF ?_|refine au ?_|refine ak (λK hK=>?_)|refine aj ?_|refine aC ?_|go_step)
 exact aA hd ⟨rfl,by simp⟩
theorem gX.some {w:World} {b:Nat} {F:Nat→Prop} {m:aH} (h:gX w b F m):Pure Tryz.prog 121 #[.pointer (some ⟨b,0,none⟩)] w (.bool false):=by
 obtain⟨a,h,-⟩:=h
 have h1:=h.xQ
 have h2:=gB.dX h.bU.right
 have hb:=h.gy
 rcases h.views.G6 with⟨h3,h4⟩|⟨g,c,h3,h4,-⟩
 ·rw[h4]at h1;simp at h1;omega
 ·rw[h3]at hb
  have e:(((a.vs.length:Nat):Int)==0)=false:=by
   rw[beq_eq_false_iff_ne];omega
  rw[←e]
  exact Sm hb
theorem dK {w:World} {v:Value} {c:Bool} (hn:∀ w',aB w w'→Pure Tryz.prog 121 #[v] w' (.bool c)):gK Tryz.prog 63 #[v] w λr w'=>aB w w'∧∃ f,r=.agg #[f,.int .i64 1]∧qZ w' f c:=by
 have HN:=Zh hn
 clear hn
 refine Fi (n:=6) Tryz.func63 ?_;intro A hd hA;simp only[ix,Nat.reduceAdd]
 (repeat'(first|refine ak (λK hK=>?_)|refine aj ?_|fail));(refine dI (λx K hK=>?_);go_simp;refine hK _ _ (aB.alloc _ _) ?_;clear hK K;refine aZ x ?_;generalize (World.ah _ x).heap.size=bc;intro yn aU bD bC bG aS;clear x);have Lh:=Zh (cO.new aS.out);have Lj:=Zh yn.ext;have ab3:(World.heap w).size≤bc:=aU;generalize World.ah w yn=W at *;clear aU bD bC bG aS yn
 repeat'(first|refine aF ?_|refine au ?_|refine ak (λK hK=>?_)|refine aj ?_|go_step)
 refine aY (off:=0) Lh.out (λW1 fM nU=>?_)
 have qO:=Zh (aB.bK Lj.out fM (λk hk=>by subst hk;omega))
 have jO:=Zh nU
 clear fM nU
 repeat'(first|refine au ?_|refine aC ?_|go_step)
 exact jH (cs:=[.func (.func 121) #[v] #[],.int .i64 1]) hd ⟨qO.out,_,rfl,_,_,_,_,rfl,Tryz.func121,by kernel_rfl,λw' hE=>HN.out _ (Et qO.out hE)⟩ jO.out (λk hk=>Ns k hk) Tryz.underlying117
def kH (w:World) (b:Nat) (v:Value):Prop:=b<w.heap.size∧w.cell? ⟨b,0,none⟩=some v
theorem kH.ah {w w':World} {b:Nat} {v:Value} (h:kH w b v) (hE:aB w w'):kH w' b v:=⟨Nat.lt_of_lt_of_le h.1 hE.size,by rw[bI hE h.1 (λh=>h)];exact h.2⟩
theorem kH.aW {w w':World} {b:Nat} {v:Value} {F:Nat→Prop} (h:kH w b v) (hM:bF F w w') (hF:¬ F b):kH w' b v:=⟨Nat.lt_of_lt_of_le h.1 hM.size,by rw[bI hM h.1 hF];exact h.2⟩
theorem kH.of {w:World} {b:Nat} {E:TypeId} {n:Nat} {g:Nat→Value} {v:Value} (h:cO w b E n g) (hn:0<n) (hg:g 0=v):kH w b v:=⟨h.lt,by rw[←hg];exact h.cell hn⟩
theorem Nu {w:World} {b b0 b1:Nat} {F:Nat→Prop} {m:aH} {p:Int} (h:gX w b F m) (h0:kH w b0 (.int .i64 p)) (h1:kH w b1 (.pointer (some ⟨b,0,none⟩))):Pure Tryz.prog 212 #[.pointer (some ⟨b0,0,none⟩),.pointer (some ⟨b1,0,none⟩)] w (.bool (!m.aV p)):=by
 obtain⟨hlt,c0,c1,c2⟩:=h.cells
 obtain⟨l0,x0⟩:=h0
 obtain⟨l1,x1⟩:=h1
 clear h
 by_cases q1:p<0
 ·have hv:(!m.aV p)=true:=by simp[aH.aV];omega
  rw[hv]
  refine Fi (n:=14) Tryz.func212 ?_;intro A hd hA;simp only[ix,Nat.reduceAdd]
  repeat'(first|refine aF ?_|refine au ?_|refine ak (λK hK=>?_)|refine aj ?_|go_step)
  refine dA (by kernel_rfl) (by kernel_rfl) ?_
  repeat'(first|refine aF ?_|refine mg ?_|refine jF ?_|refine aQ ?_|refine aC ?_|go_step)
  exact aA hd ⟨rfl,by simp⟩
 ·by_cases q2:m.form.aK≤p
  ·have hv:(!m.aV p)=true:=by simp[aH.aV];omega
   rw[hv]
   refine Fi (n:=14) Tryz.func212 ?_;intro A hd hA;simp only[ix,Nat.reduceAdd]
   repeat'(first|refine aF ?_|refine au ?_|refine ak (λK hK=>?_)|refine aj ?_|go_step)
   refine dA (by kernel_rfl) (by kernel_rfl) ?_
   repeat'(first|refine dw ?_|refine aF ?_|refine aQ ?_|refine aC ?_|go_step)
   exact aA hd ⟨rfl,by simp⟩
  ·have hv:(!m.aV p)=false:=by simp[aH.aV];omega
   rw[hv]
   refine Fi (n:=14) Tryz.func212 ?_;intro A hd hA;simp only[ix,Nat.reduceAdd]
   repeat'(first|refine aF ?_|refine au ?_|refine ak (λK hK=>?_)|refine aj ?_|go_step)
   refine dA (by kernel_rfl) (by kernel_rfl) ?_
   repeat'(first|refine dw ?_|refine aF ?_|refine aQ ?_|refine aC ?_|go_step)
   exact aA hd ⟨rfl,by simp⟩
theorem iw {w:World} {b:Nat} {F:Nat→Prop} {m:aH} (p:Int) (h:gX w b F m):gK Tryz.prog 155 #[.pointer (some ⟨b,0,none⟩),.int .i64 p] w λr w'=>aB w w'∧∃ f,r=.agg #[f,.int .i64 2]∧qZ w' f (!m.aV p):=by
 have HH:=Zh h
 clear h
 refine Fi (n:=7) Tryz.func155 ?_;intro A hd hA;simp only[ix,Nat.reduceAdd]
 (repeat'(first|refine ak (λK hK=>?_)|refine aj ?_|fail));(refine dI (λx K hK=>?_);go_simp;refine hK _ _ (aB.alloc _ _) ?_;clear hK K;refine aZ x ?_;generalize (World.ah _ x).heap.size=b0;intro yn aU bD bC bG aS;clear x);have P8:=Zh (cO.new aS.out);have zT:=Zh yn.ext;have afM:(World.heap w).size≤b0:=aU;generalize World.ah w yn=W0 at *;clear aU bD bC bG aS yn
 (skip);(refine dI (λx K hK=>?_);go_simp;refine hK _ _ (aB.alloc _ _) ?_;clear hK K;refine aZ x ?_;generalize (World.ah _ x).heap.size=b1;intro yn aU bD bC bG aS;clear x);have iy:=Zh (cO.new aS.out);have lS:=Zh yn.ext;have yG:(World.heap W0).size≤b1:=aU;generalize World.ah W0 yn=W1 at *;clear aU bD bC bG aS yn
 (skip);(refine dI (λx K hK=>?_);go_simp;refine hK _ _ (aB.alloc _ _) ?_;clear hK K;refine aZ x ?_;generalize (World.ah _ x).heap.size=bc;intro yn aU bD bC bG aS;clear x);have Lh:=Zh (cO.new aS.out);have Lj:=Zh yn.ext;have ab3:(World.heap W1).size≤bc:=aU;generalize World.ah W1 yn=W2 at *;clear aU bD bC bG aS yn
 repeat'(first|refine aF ?_|refine au ?_|refine ak (λK hK=>?_)|refine aj ?_|go_step)
 refine aY (off:=0) Lh.out (λW3 jd ru=>?_)
 have s0:=zT.out.size
 have s1:=lS.out.size
 have qO:=Zh (aB.bK Lj.out jd (λk hk=>by subst hk;omega))
 have jO:=Zh ru
 clear jd ru
 repeat'(first|refine au ?_|refine aC ?_|go_step)
 have BD:=Et lS.out qO.out
 refine jH (cs:=[.func (.func 212) #[] #[.pointer (some ⟨b1,0,none⟩),.pointer (some ⟨b0,0,none⟩)],.int .i64 2]) hd ⟨Et zT.out BD,_,rfl,_,_,_,_,rfl,Tryz.func212,by kernel_rfl,λw' hE=>?_⟩ jO.out (λk hk=>Ns k hk) Tryz.underlying117
 exact Nu (HH.out.ah (Et zT.out (Et BD hE))) ((kH.of iy.out Nat.zero_lt_one rfl).ah (Et qO.out hE)) ((kH.of P8.out Nat.zero_lt_one rfl).ah (Et BD hE))
theorem Sr {w:World} {b b0 b1:Nat} {F:Nat→Prop} {m:aH} {p:Int} (h:gX w b F m) (h0:kH w b0 (.int .i64 p)) (h1:kH w b1 (.pointer (some ⟨b,0,none⟩))):Pure Tryz.prog 123 #[.pointer (some ⟨b0,0,none⟩),.pointer (some ⟨b1,0,none⟩)] w (.bool (!m.part p)):=by
 obtain⟨hlt,c0,c1,c2⟩:=h.cells
 obtain⟨l0,x0⟩:=h0
 obtain⟨l1,x1⟩:=h1
 clear h
 by_cases q1:p<0
 ·have hv:(!m.part p)=true:=by simp[aH.part];omega
  rw[hv]
  refine Fi (n:=14) Tryz.func123 ?_;intro A hd hA;simp only[ix,Nat.reduceAdd]
  repeat'(first|refine aF ?_|refine au ?_|refine ak (λK hK=>?_)|refine aj ?_|go_step)
  refine dA (by kernel_rfl) (by kernel_rfl) ?_
  repeat'(first|refine aF ?_|refine mg ?_|refine jF ?_|refine aQ ?_|refine aC ?_|go_step)
  exact aA hd ⟨rfl,by simp⟩
 ·by_cases q2:m.form.parts≤p
  ·have hv:(!m.part p)=true:=by simp[aH.part];omega
   rw[hv]
   refine Fi (n:=14) Tryz.func123 ?_;intro A hd hA;simp only[ix,Nat.reduceAdd]
   repeat'(first|refine aF ?_|refine au ?_|refine ak (λK hK=>?_)|refine aj ?_|go_step)
   refine dA (by kernel_rfl) (by kernel_rfl) ?_
   repeat'(first|refine dw ?_|refine aF ?_|refine aQ ?_|refine aC ?_|go_step)
   exact aA hd ⟨rfl,by simp⟩
  ·have hv:(!m.part p)=false:=by simp[aH.part];omega
   rw[hv]
   refine Fi (n:=14) Tryz.func123 ?_;intro A hd hA;simp only[ix,Nat.reduceAdd]
   repeat'(first|refine aF ?_|refine au ?_|refine ak (λK hK=>?_)|refine aj ?_|go_step)
   refine dA (by kernel_rfl) (by kernel_rfl) ?_
   repeat'(first|refine dw ?_|refine aF ?_|refine aQ ?_|refine aC ?_|go_step)
   exact aA hd ⟨rfl,by simp⟩
theorem iF {w:World} {b:Nat} {F:Nat→Prop} {m:aH} (p:Int) (h:gX w b F m):gK Tryz.prog 64 #[.pointer (some ⟨b,0,none⟩),.int .i64 p] w λr w'=>aB w w'∧∃ f,r=.agg #[f,.int .i64 2]∧qZ w' f (!m.part p):=by
 have HH:=Zh h
 clear h
 refine Fi (n:=7) Tryz.func64 ?_;intro A hd hA;simp only[ix,Nat.reduceAdd]
 (repeat'(first|refine ak (λK hK=>?_)|refine aj ?_|fail));(refine dI (λx K hK=>?_);go_simp;refine hK _ _ (aB.alloc _ _) ?_;clear hK K;refine aZ x ?_;generalize (World.ah _ x).heap.size=b0;intro yn aU bD bC bG aS;clear x);have P8:=Zh (cO.new aS.out);have zT:=Zh yn.ext;have afM:(World.heap w).size≤b0:=aU;generalize World.ah w yn=W0 at *;clear aU bD bC bG aS yn
 (skip);(refine dI (λx K hK=>?_);go_simp;refine hK _ _ (aB.alloc _ _) ?_;clear hK K;refine aZ x ?_;generalize (World.ah _ x).heap.size=b1;intro yn aU bD bC bG aS;clear x);have iy:=Zh (cO.new aS.out);have lS:=Zh yn.ext;have yG:(World.heap W0).size≤b1:=aU;generalize World.ah W0 yn=W1 at *;clear aU bD bC bG aS yn
 (skip);(refine dI (λx K hK=>?_);go_simp;refine hK _ _ (aB.alloc _ _) ?_;clear hK K;refine aZ x ?_;generalize (World.ah _ x).heap.size=bc;intro yn aU bD bC bG aS;clear x);have Lh:=Zh (cO.new aS.out);have Lj:=Zh yn.ext;have ab3:(World.heap W1).size≤bc:=aU;generalize World.ah W1 yn=W2 at *;clear aU bD bC bG aS yn
 repeat'(first|refine aF ?_|refine au ?_|refine ak (λK hK=>?_)|refine aj ?_|go_step)
 refine aY (off:=0) Lh.out (λW3 jd ru=>?_)
 have s0:=zT.out.size
 have s1:=lS.out.size
 have qO:=Zh (aB.bK Lj.out jd (λk hk=>by subst hk;omega))
 have jO:=Zh ru
 clear jd ru
 repeat'(first|refine au ?_|refine aC ?_|go_step)
 have BD:=Et lS.out qO.out
 refine jH (cs:=[.func (.func 123) #[] #[.pointer (some ⟨b1,0,none⟩),.pointer (some ⟨b0,0,none⟩)],.int .i64 2]) hd ⟨Et zT.out BD,_,rfl,_,_,_,_,rfl,Tryz.func123,by kernel_rfl,λw' hE=>?_⟩ jO.out (λk hk=>Ns k hk) Tryz.underlying117
 exact Sr (HH.out.ah (Et zT.out (Et BD hE))) ((kH.of iy.out Nat.zero_lt_one rfl).ah (Et qO.out hE)) ((kH.of P8.out Nat.zero_lt_one rfl).ah (Et BD hE))
theorem Zb {w:World} {b b0 b1:Nat} {F:Nat→Prop} {m:aH} {p:Int} (h:gX w b F m) (h0:kH w b0 (.int .i64 p)) (h1:kH w b1 (.pointer (some ⟨b,0,none⟩))):Pure Tryz.prog 194 #[.pointer (some ⟨b0,0,none⟩),.pointer (some ⟨b1,0,none⟩)] w (.bool (!m.id p)):=by
 obtain⟨hlt,c0,c1,c2⟩:=h.cells
 obtain⟨l0,x0⟩:=h0
 obtain⟨l1,x1⟩:=h1
 clear h
 by_cases q1:p<0
 ·have hv:(!m.id p)=true:=by simp[aH.id];omega
  rw[hv]
  refine Fi (n:=14) Tryz.func194 ?_;intro A hd hA;simp only[ix,Nat.reduceAdd]
  repeat'(first|refine aF ?_|refine au ?_|refine ak (λK hK=>?_)|refine aj ?_|go_step)
  refine dA (by kernel_rfl) (by kernel_rfl) ?_
  repeat'(first|refine aF ?_|refine mg ?_|refine jF ?_|refine aQ ?_|refine aC ?_|go_step)
  exact aA hd ⟨rfl,by simp⟩
 ·by_cases q2:m.form.ids≤p
  ·have hv:(!m.id p)=true:=by simp[aH.id];omega
   rw[hv]
   refine Fi (n:=14) Tryz.func194 ?_;intro A hd hA;simp only[ix,Nat.reduceAdd]
   repeat'(first|refine aF ?_|refine au ?_|refine ak (λK hK=>?_)|refine aj ?_|go_step)
   refine dA (by kernel_rfl) (by kernel_rfl) ?_
   repeat'(first|refine dw ?_|refine aF ?_|refine aQ ?_|refine aC ?_|go_step)
   exact aA hd ⟨rfl,by simp⟩
  ·have hv:(!m.id p)=false:=by simp[aH.id];omega
   rw[hv]
   refine Fi (n:=14) Tryz.func194 ?_;intro A hd hA;simp only[ix,Nat.reduceAdd]
   repeat'(first|refine aF ?_|refine au ?_|refine ak (λK hK=>?_)|refine aj ?_|go_step)
   refine dA (by kernel_rfl) (by kernel_rfl) ?_
   repeat'(first|refine dw ?_|refine aF ?_|refine aQ ?_|refine aC ?_|go_step)
   exact aA hd ⟨rfl,by simp⟩
theorem kD {w:World} {b:Nat} {F:Nat→Prop} {m:aH} (p:Int) (h:gX w b F m):gK Tryz.prog 136 #[.pointer (some ⟨b,0,none⟩),.int .i64 p] w λr w'=>aB w w'∧∃ f,r=.agg #[f,.int .i64 2]∧qZ w' f (!m.id p):=by
 have HH:=Zh h
 clear h
 refine Fi (n:=7) Tryz.func136 ?_;intro A hd hA;simp only[ix,Nat.reduceAdd]
 (repeat'(first|refine ak (λK hK=>?_)|refine aj ?_|fail));(refine dI (λx K hK=>?_);go_simp;refine hK _ _ (aB.alloc _ _) ?_;clear hK K;refine aZ x ?_;generalize (World.ah _ x).heap.size=b0;intro yn aU bD bC bG aS;clear x);have P8:=Zh (cO.new aS.out);have zT:=Zh yn.ext;have afM:(World.heap w).size≤b0:=aU;generalize World.ah w yn=W0 at *;clear aU bD bC bG aS yn
 (skip);(refine dI (λx K hK=>?_);go_simp;refine hK _ _ (aB.alloc _ _) ?_;clear hK K;refine aZ x ?_;generalize (World.ah _ x).heap.size=b1;intro yn aU bD bC bG aS;clear x);have iy:=Zh (cO.new aS.out);have lS:=Zh yn.ext;have yG:(World.heap W0).size≤b1:=aU;generalize World.ah W0 yn=W1 at *;clear aU bD bC bG aS yn
 (skip);(refine dI (λx K hK=>?_);go_simp;refine hK _ _ (aB.alloc _ _) ?_;clear hK K;refine aZ x ?_;generalize (World.ah _ x).heap.size=bc;intro yn aU bD bC bG aS;clear x);have Lh:=Zh (cO.new aS.out);have Lj:=Zh yn.ext;have ab3:(World.heap W1).size≤bc:=aU;generalize World.ah W1 yn=W2 at *;clear aU bD bC bG aS yn
 repeat'(first|refine aF ?_|refine au ?_|refine ak (λK hK=>?_)|refine aj ?_|go_step)
 refine aY (off:=0) Lh.out (λW3 jd ru=>?_)
 have s0:=zT.out.size
 have s1:=lS.out.size
 have qO:=Zh (aB.bK Lj.out jd (λk hk=>by subst hk;omega))
 have jO:=Zh ru
 clear jd ru
 repeat'(first|refine au ?_|refine aC ?_|go_step)
 have BD:=Et lS.out qO.out
 refine jH (cs:=[.func (.func 194) #[] #[.pointer (some ⟨b1,0,none⟩),.pointer (some ⟨b0,0,none⟩)],.int .i64 2]) hd ⟨Et zT.out BD,_,rfl,_,_,_,_,rfl,Tryz.func194,by kernel_rfl,λw' hE=>?_⟩ jO.out (λk hk=>Ns k hk) Tryz.underlying117
 exact Zb (HH.out.ah (Et zT.out (Et BD hE))) ((kH.of iy.out Nat.zero_lt_one rfl).ah (Et qO.out hE)) ((kH.of P8.out Nat.zero_lt_one rfl).ah (Et BD hE))
abbrev Hz (x:Value×Bool):List Value:=[x.1]
def zU (w:World) (v:Value) (xs:List (Value×Bool)):Prop:=∃ fk first cap fn,v=.func (.func fk) first cap∧Tryz.prog.funcs[fk]? =some fn∧iC fn=true∧∀ x∈xs,∀w',aB w w'→Pure Tryz.prog fk (first++[x.1].toArray++cap) w' (.bool x.2)
theorem zU.ah {w w':World} {v:Value} {xs:List (Value×Bool)} (h:zU w v xs) (hE:aB w w'):zU w' v xs:=by
 obtain⟨fk,first,cap,fn,h1,h2,h3,h4⟩:=h
 exact⟨fk,first,cap,fn,h1,h2,h3,λx hx w2 h=>h4 x hx w2 (Et hE h)⟩
theorem Rd.Hz {w:World} {v:Value} {l:List (Value×Bool)} (h:Rd Hz 1 w v l):∃ A c,v=.slice A l.length c∧l.length≤c∧c≤9223372036854775807∧
  Hid (∀i,i<l.length→∃ e b o,Hid (l[i]? =some e)∧A=some ⟨b,o,none⟩∧b<w.heap.size∧w.cell? ⟨b,o+i,none⟩=some e.1):=by
 obtain⟨A,c,h1,h2,h3,h4⟩:=h
 refine⟨A,c,h1,h2,h3,λi hi=>?_⟩
 have he:l[i]? =some l[i]:=by simp[hi]
 rcases h4 with⟨_,rfl⟩|⟨b,o,hA,hb,hr⟩
 ·simp at hi
 ·have:=hr i _ he 0 _ rfl
  rw[Nat.mul_one,Nat.add_zero]at this
  exact⟨l[i],b,o,he,hA,hb,this⟩
theorem Nv {w:World} {v f:Value} {xs:List (Value×Bool)} (hv:Rd Hz 1 w v xs) (hf:zU w f xs):gK Tryz.prog 260 #[v,f] w λr w'=>aB w w'∧∃ i:Int,r=.int .i64 i∧(decide (0≤i)=xs.any (·.2)):=by
 obtain⟨A0,c,rfl,hc,jT,HR⟩:=hv.Hz
 obtain⟨fk,first,cap,fn,rfl,NW,Ph,MN⟩:=hf
 have HF:=Zh MN
 clear hv MN
 refine Fi (n:=19) Tryz.func260 ?_;intro A hd hA;simp only[ix,Nat.reduceAdd]
 repeat'(first|refine aF ?_|refine au ?_|refine ak (λK hK=>?_)|refine aj ?_|refine aJ ?_|go_step)
 refine dJ [0,1,6,7,8] (λn vs w'=>∃ k:Nat,aB w w'∧k+n=xs.length∧vs=[.slice A0 xs.length c,.func (.func fk) first cap,.slice A0 xs.length c,.int .i64 xs.length,.int .i64 k]∧(xs.drop k).any (·.2)=xs.any (·.2)) xs.length hd hA (by decide) ⟨0,by simp,by omega,by simp,rfl⟩ ?_
 clear hd hA A;intro n vs B w' hd hA _ ⟨k,hE,hk,jk,hm⟩;subst jk
 obtain⟨y,rfl⟩:=hE.get
 clear hE
 simp only[List.zip_cons_cons,List.zip_nil_right,List.zip_nil_left]
 by_cases hlt:k<xs.length
 ·obtain⟨x,b,o,HX,rfl,hb,c0⟩:=HR k hlt
  have sZ:(k:Int)<xs.length:=by omega
  have MK:xs.drop k=x::xs.drop (k+1):=by
   rw[List.drop_eq_getElem_cons hlt]
   have Ru:=HX.out
   rw[List.getElem?_eq_getElem hlt]at Ru
   cases Ru;rfl
  rw[MK,List.any_cons]at hm
  obtain⟨xv,xb⟩:=x
  have hx:=HF.out _ (zI HX.out)
  simp only at c0 hx hm
  have HXF:=Zh hx
  clear MK hx
  cases xb
  ·have HM:Hid ((xs.drop (k+1)).any (·.2)=xs.any (·.2)):=Zh (by simpa using hm)
   clear hm
   repeat'(first|refine aF ?_|refine au ?_|refine ak (λK hK=>?_)|refine aj ?_|refine aG ?_|refine aJ ?_|refine bH ?_|go_step)
   refine dM (lv:=[xv]) (first:=first) (captured:=cap) (R:=λv' w'=>v'=.bool false∧aB _ w') NW (HXF.out _ (by simp)) (λv' w' hR=>?_) rfl rfl Ph
   obtain⟨rfl,hE⟩:=hR
   obtain⟨y',rfl⟩:=hE.get
   clear hE
   repeat'(first|refine aF ?_|refine au ?_|refine aj ?_|refine aG ?_|refine bJ ?_|go_step)
   exact⟨_,_,rfl,hd,hA,n-1,by omega,k+1,by simp,by omega,by simp,HM.out⟩
  ·have HM:Hid (xs.any (·.2)=true):=Zh (by simpa using hm.symm)
   clear hm
   repeat'(first|refine aF ?_|refine au ?_|refine ak (λK hK=>?_)|refine aj ?_|refine aG ?_|refine aJ ?_|refine bH ?_|go_step)
   refine dM (lv:=[xv]) (first:=first) (captured:=cap) (R:=λv' w'=>v'=.bool true∧aB _ w') NW (HXF.out _ (by simp)) (λv' w' hR=>?_) rfl rfl Ph
   obtain⟨rfl,hE⟩:=hR
   obtain⟨y',rfl⟩:=hE.get
   clear hE
   repeat'(first|refine aF ?_|refine au ?_|refine ak (λK hK=>?_)|refine aj ?_|refine aC ?_|refine bH ?_|go_step)
   exact aA hd ⟨by simp,(k:Int),rfl,by rw[HM.out];simp⟩
 ·obtain rfl:k=xs.length:=by omega
  rw[List.drop_length]at hm
  have HM:Hid (xs.any (·.2)=false):=Zh (by rw[←hm];rfl)
  clear hm
  repeat'(first|refine aF ?_|refine au ?_|refine ak (λK hK=>?_)|refine aj ?_|refine aC ?_|refine dS ?_|refine bJ ?_|go_step)
  exact aA hd ⟨by simp,(-1:Int),rfl,by rw[HM.out];rfl⟩
theorem H9 {w:World} {v f:Value} {xs:List (Value×Bool)} (hv:Rd Hz 1 w v xs) (hf:zU w f xs):Pure Tryz.prog 228 #[v,f] w (.bool (xs.any (·.2))):=by
 have HV:=Zh hv
 have HF:=Zh hf
 clear hv hf
 refine Fi (n:=9) Tryz.func228 ?_;intro A hd hA;simp only[ix,Nat.reduceAdd]
 repeat'(first|refine aF ?_|refine au ?_|refine ak (λK hK=>?_)|refine aj ?_|go_step)
 refine aX Tryz.func260 (Nv (HV.out.ah (by simp)) (HF.out.ah (by simp))) (λv' w' hR=>?_)
 obtain⟨hE,i,rfl,hi⟩:=hR
 obtain⟨y,rfl⟩:=hE.get
 have HI:=Zh hi
 clear hE hi
 by_cases h0:0≤i
 ·have e:xs.any (·.2)=true:=by rw[←HI.out];simpa using h0
  rw[e]
  repeat'(first|refine aF ?_|refine au ?_|refine aC ?_|go_step)
  exact aA hd ⟨rfl,by simp⟩
 ·have e:xs.any (·.2)=false:=by rw[←HI.out];simpa using h0
  rw[e]
  repeat'(first|refine aF ?_|refine au ?_|refine aC ?_|go_step)
  exact aA hd ⟨rfl,by simp⟩
theorem Nw {w:World} {v f:Value} {xs:List (Value×Bool)} (hv:Rd Hz 1 w v xs) (hf:zU w f xs):gK Tryz.prog 241 #[v,f] w λr w'=>aB w w'∧∃ i:Int,r=.int .i64 i∧(decide (0≤i)=xs.any (·.2)):=by
 obtain⟨A0,c,rfl,hc,jT,HR⟩:=hv.Hz
 obtain⟨fk,first,cap,fn,rfl,NW,Ph,MN⟩:=hf
 have HF:=Zh MN
 clear hv MN
 refine Fi (n:=19) Tryz.func241 ?_;intro A hd hA;simp only[ix,Nat.reduceAdd]
 repeat'(first|refine aF ?_|refine au ?_|refine ak (λK hK=>?_)|refine aj ?_|refine aJ ?_|go_step)
 refine dJ [0,1,6,7,8] (λn vs w'=>∃ k:Nat,aB w w'∧k+n=xs.length∧vs=[.slice A0 xs.length c,.func (.func fk) first cap,.slice A0 xs.length c,.int .i64 xs.length,.int .i64 k]∧(xs.drop k).any (·.2)=xs.any (·.2)) xs.length hd hA (by decide) ⟨0,by simp,by omega,by simp,rfl⟩ ?_
 clear hd hA A;intro n vs B w' hd hA _ ⟨k,hE,hk,jk,hm⟩;subst jk
 obtain⟨y,rfl⟩:=hE.get
 clear hE
 simp only[List.zip_cons_cons,List.zip_nil_right,List.zip_nil_left]
 by_cases hlt:k<xs.length
 ·obtain⟨x,b,o,HX,rfl,hb,c0⟩:=HR k hlt
  have sZ:(k:Int)<xs.length:=by omega
  have MK:xs.drop k=x::xs.drop (k+1):=by
   rw[List.drop_eq_getElem_cons hlt]
   have Ru:=HX.out
   rw[List.getElem?_eq_getElem hlt]at Ru
   cases Ru;rfl
  rw[MK,List.any_cons]at hm
  obtain⟨xv,xb⟩:=x
  have hx:=HF.out _ (zI HX.out)
  simp only at c0 hx hm
  have HXF:=Zh hx
  clear MK hx
  cases xb
  ·have HM:Hid ((xs.drop (k+1)).any (·.2)=xs.any (·.2)):=Zh (by simpa using hm)
   clear hm
   repeat'(first|refine aF ?_|refine au ?_|refine ak (λK hK=>?_)|refine aj ?_|refine aG ?_|refine aJ ?_|refine bH ?_|go_step)
   refine dM (lv:=[xv]) (first:=first) (captured:=cap) (R:=λv' w'=>v'=.bool false∧aB _ w') NW (HXF.out _ (by simp)) (λv' w' hR=>?_) rfl rfl Ph
   obtain⟨rfl,hE⟩:=hR
   obtain⟨y',rfl⟩:=hE.get
   clear hE
   repeat'(first|refine aF ?_|refine au ?_|refine aj ?_|refine aG ?_|refine bJ ?_|go_step)
   exact⟨_,_,rfl,hd,hA,n-1,by omega,k+1,by simp,by omega,by simp,HM.out⟩
  ·have HM:Hid (xs.any (·.2)=true):=Zh (by simpa using hm.symm)
   clear hm
   repeat'(first|refine aF ?_|refine au ?_|refine ak (λK hK=>?_)|refine aj ?_|refine aG ?_|refine aJ ?_|refine bH ?_|go_step)
   refine dM (lv:=[xv]) (first:=first) (captured:=cap) (R:=λv' w'=>v'=.bool true∧aB _ w') NW (HXF.out _ (by simp)) (λv' w' hR=>?_) rfl rfl Ph
   obtain⟨rfl,hE⟩:=hR
   obtain⟨y',rfl⟩:=hE.get
   clear hE
   repeat'(first|refine aF ?_|refine au ?_|refine ak (λK hK=>?_)|refine aj ?_|refine aC ?_|refine bH ?_|go_step)
   exact aA hd ⟨by simp,(k:Int),rfl,by rw[HM.out];simp⟩
 ·obtain rfl:k=xs.length:=by omega
  rw[List.drop_length]at hm
  have HM:Hid (xs.any (·.2)=false):=Zh (by rw[←hm];rfl)
  clear hm
  repeat'(first|refine aF ?_|refine au ?_|refine ak (λK hK=>?_)|refine aj ?_|refine aC ?_|refine dS ?_|refine bJ ?_|go_step)
  exact aA hd ⟨by simp,(-1:Int),rfl,by rw[HM.out];rfl⟩
theorem Ia {w:World} {v f:Value} {xs:List (Value×Bool)} (hv:Rd Hz 1 w v xs) (hf:zU w f xs):Pure Tryz.prog 198 #[v,f] w (.bool (xs.any (·.2))):=by
 have HV:=Zh hv
 have HF:=Zh hf
 clear hv hf
 refine Fi (n:=9) Tryz.func198 ?_;intro A hd hA;simp only[ix,Nat.reduceAdd]
 repeat'(first|refine aF ?_|refine au ?_|refine ak (λK hK=>?_)|refine aj ?_|go_step)
 refine aX Tryz.func241 (Nw (HV.out.ah (by simp)) (HF.out.ah (by simp))) (λv' w' hR=>?_)
 obtain⟨hE,i,rfl,hi⟩:=hR
 obtain⟨y,rfl⟩:=hE.get
 have HI:=Zh hi
 clear hE hi
 by_cases h0:0≤i
 ·have e:xs.any (·.2)=true:=by rw[←HI.out];simpa using h0
  rw[e]
  repeat'(first|refine aF ?_|refine au ?_|refine aC ?_|go_step)
  exact aA hd ⟨rfl,by simp⟩
 ·have e:xs.any (·.2)=false:=by rw[←HI.out];simpa using h0
  rw[e]
  repeat'(first|refine aF ?_|refine au ?_|refine aC ?_|go_step)
  exact aA hd ⟨rfl,by simp⟩
theorem Sv {w:World} {g o:Nat} {n:Int} (hb:g<w.heap.size) (hc:w.cell? ⟨g,o,none⟩=some (.int .i64 n)):Pure Tryz.prog 199 #[.pointer (some ⟨g,o,none⟩)] w (.bool (decide (bQ≤n))):=by
 by_cases q:2147483647≤n
 ·have e:decide (bQ≤n)=true:=by simpa using q
  rw[e]
  refine Fi (n:=7) Tryz.func199 ?_;intro A hd hA;simp only[ix,Nat.reduceAdd]
  repeat'(first|refine aF ?_|refine au ?_|refine ak (λK hK=>?_)|refine aj ?_|refine aC ?_|go_step)
  exact aA hd ⟨rfl,by simp⟩
 ·have e:decide (bQ≤n)=false:=by simpa using q
  rw[e]
  refine Fi (n:=7) Tryz.func199 ?_;intro A hd hA;simp only[ix,Nat.reduceAdd]
  repeat'(first|refine aF ?_|refine au ?_|refine ak (λK hK=>?_)|refine aj ?_|refine aC ?_|go_step)
  exact aA hd ⟨rfl,by simp⟩
def tJ (w:World) (xs:List (Addr×Int)):Prop:=∀ x∈xs,∃g o,x.1=⟨g,o,none⟩∧g<w.heap.size∧w.cell? ⟨g,o,none⟩=some (.int .i64 x.2)
theorem tJ.ah {w w':World} {xs:List (Addr×Int)} (h:tJ w xs) (hE:aB w w'):tJ w' xs:=λx hx=>by
 obtain⟨g,o,h1,h2,h3⟩:=h x hx
 exact⟨g,o,h1,Nat.lt_of_lt_of_le h2 hE.size,by rw[bI hE h2 (λh=>h)];exact h3⟩
def qG (xs:List (Addr×Int)):List (Value×Bool):=xs.map λx=>(.pointer (some x.1),decide (bQ≤x.2))
theorem tJ.chk {w:World} {xs:List (Addr×Int)} (h:tJ w xs):zU w (.func (.func 199) #[] #[]) (qG xs):=by
 refine⟨_,_,_,_,rfl,Tryz.func199,by kernel_rfl,λy hy w' hE=>?_⟩
 obtain⟨x,hx,rfl⟩:=List.mem_map.1 hy
 obtain⟨g,o,h1,h2,h3⟩:=h.ah hE x hx
 rw[h1]
 exact Sv h2 h3
theorem VG {w:World} {b:Nat} {v:Value} {xs:List (Addr×Int)} (hb:kH w b v) (hv:Rd Hz 1 w v (qG xs)) (hn:tJ w xs):Pure Tryz.prog 197 #[.pointer (some ⟨b,0,none⟩)] w (.bool (xs.any λx=>decide (bQ≤x.2))):=by
 obtain⟨l0,x0⟩:=hb
 have HV:=Zh hv
 have HN:=Zh hn
 clear hv hn
 have e:(xs.any λx=>decide (bQ≤x.2))=(qG xs).any (·.2):=by unfold qG;rw[List.any_map];rfl
 rw[e]
 clear e
 refine Fi (n:=4) Tryz.func197 ?_;intro A hd hA;simp only[ix,Nat.reduceAdd]
 repeat'(first|refine aN Tryz.func198 (Ia (HV.out.ah (by simp)) (HN.out.ah (by simp)).chk) ?_|refine aF ?_|refine au ?_|refine ak (λK hK=>?_)|refine aj ?_|refine aC ?_|go_step)
 exact aA hd ⟨rfl,by simp⟩
theorem je {w:World} {v:Value} {xs:List (Addr×Int)} (hv:Rd Hz 1 w v (qG xs)) (hn:tJ w xs):gK Tryz.prog 146 #[v] w λr w'=>aB w w'∧∃ f,r=.agg #[f,.int .i64 204]∧qZ w' f (xs.any λx=>decide (bQ≤x.2)):=by
 obtain⟨A1,c1,rfl,-⟩:=hv.Hz
 have HV:=Zh hv
 have HN:=Zh hn
 clear hv hn
 refine Fi (n:=5) Tryz.func146 ?_;intro A hd hA;simp only[ix,Nat.reduceAdd]
 (repeat'(first|refine ak (λK hK=>?_)|refine aj ?_|fail));(refine dI (λx K hK=>?_);go_simp;refine hK _ _ (aB.alloc _ _) ?_;clear hK K;refine aZ x ?_;generalize (World.ah _ x).heap.size=b0;intro yn aU bD bC bG aS;clear x);have P8:=Zh (cO.new aS.out);have zT:=Zh yn.ext;have afM:(World.heap w).size≤b0:=aU;generalize World.ah w yn=W0 at *;clear aU bD bC bG aS yn
 (skip);(refine dI (λx K hK=>?_);go_simp;refine hK _ _ (aB.alloc _ _) ?_;clear hK K;refine aZ x ?_;generalize (World.ah _ x).heap.size=bc;intro yn aU bD bC bG aS;clear x);have Lh:=Zh (cO.new aS.out);have Lj:=Zh yn.ext;have ab3:(World.heap W0).size≤bc:=aU;generalize World.ah W0 yn=W2 at *;clear aU bD bC bG aS yn
 repeat'(first|refine aF ?_|refine au ?_|refine ak (λK hK=>?_)|refine aj ?_|go_step)
 refine aY (off:=0) Lh.out (λW3 jd ru=>?_)
 have s0:=zT.out.size
 have qO:=Zh (aB.bK Lj.out jd (λk hk=>by subst hk;omega))
 have jO:=Zh ru
 clear jd ru
 repeat'(first|refine au ?_|refine aC ?_|go_step)
 refine jH (cs:=[.func (.func 197) #[] #[.pointer (some ⟨b0,0,none⟩)],.int .i64 204]) hd ⟨Et zT.out qO.out,_,rfl,_,_,_,_,rfl,Tryz.func197,by kernel_rfl,λw' hE=>?_⟩ jO.out (λk hk=>Ns k hk) Tryz.underlying117
 have Ko:=Et zT.out (Et qO.out hE)
 exact VG ((kH.of P8.out Nat.zero_lt_one rfl).ah (Et qO.out hE)) (HV.out.ah Ko) (HN.out.ah Ko)
structure WAt (w:World) (g o:Nat) (x:bW) (u:Value):Prop where
 lt:g<w.heap.size
 c0:w.cell? ⟨g,o,none⟩=some (.int .i64 x.session)
 c1:w.cell? ⟨g,o+1,none⟩=some (.int .i64 x.num)
 c2:w.cell? ⟨g,o+2,none⟩=some (.int .i64 x.state)
 c3:w.cell? ⟨g,o+3,none⟩=some u
 c4:w.cell? ⟨g,o+4,none⟩=some (.int .i64 x.offset)
 c5:w.cell? ⟨g,o+5,none⟩=some (.int .i64 x.next)
theorem WAt.aW {F:Nat→Prop} {w w':World} {g o:Nat} {x:bW} {u:Value} (h:WAt w g o x u) (hM:bF F w w') (hF:¬ F g):WAt w' g o x u:=by
 have e:∀ k,w'.cell? ⟨g,k,none⟩=w.cell? ⟨g,k,none⟩:=λk=>bI hM h.lt hF
 exact⟨Nat.lt_of_lt_of_le h.lt hM.size,by rw[e];exact h.c0,by rw[e];exact h.c1,by rw[e];exact h.c2,by rw[e];exact h.c3,by rw[e];exact h.c4,by rw[e];exact h.c5⟩
theorem WAt.ah {w w':World} {g o:Nat} {x:bW} {u:Value} (h:WAt w g o x u) (hE:aB w w'):WAt w' g o x u:=h.aW hE (λh=>h)
structure VAt (w:World) (g o:Nat) (x:dL) (u:Value):Prop where
 lt:g<w.heap.size
 c0:w.cell? ⟨g,o,none⟩=some (.int .i64 x.leader)
 c1:w.cell? ⟨g,o+1,none⟩=some (.int .i64 x.epoch)
 c2:w.cell? ⟨g,o+2,none⟩=some (.int .i64 x.version)
 c3:w.cell? ⟨g,o+3,none⟩=some u
theorem VAt.aW {F:Nat→Prop} {w w':World} {g o:Nat} {x:dL} {u:Value} (h:VAt w g o x u) (hM:bF F w w') (hF:¬ F g):VAt w' g o x u:=by
 have e:∀ k,w'.cell? ⟨g,k,none⟩=w.cell? ⟨g,k,none⟩:=λk=>bI hM h.lt hF
 exact⟨Nat.lt_of_lt_of_le h.lt hM.size,by rw[e];exact h.c0,by rw[e];exact h.c1,by rw[e];exact h.c2,by rw[e];exact h.c3⟩
theorem VAt.ah {w w':World} {g o:Nat} {x:dL} {u:Value} (h:VAt w g o x u) (hE:aB w w'):VAt w' g o x u:=h.aW hE (λh=>h)
theorem dQ.Bd {w:World} {v:Value} {ws:List (bW×Value)} {i:Nat} {x:bW×Value} (h:dQ Za 6 148 w v ws) (hx:ws[i]? =some x):∃ g c,v=.slice (some ⟨g,0,none⟩) ws.length c∧ws.length≤c∧c≤9223372036854775807∧WAt w g (i *6) x.1 x.2:=by
 obtain⟨g,c,h1,h2,h3,h4,h5⟩:=dQ.at (enc:=Za) (k:=6) (λ_=>rfl) h hx
 exact⟨g,c,h1,h2,h3,⟨h4,h5 0 _ rfl,h5 1 _ rfl,h5 2 _ rfl,h5 3 _ rfl,h5 4 _ rfl,h5 5 _ rfl⟩⟩
theorem dQ.Bf {w:World} {v:Value} {vs:List (dL×Value)} {i:Nat} {x:dL×Value} (h:dQ Pm 4 45 w v vs) (hx:vs[i]? =some x):∃ g c,v=.slice (some ⟨g,0,none⟩) vs.length c∧vs.length≤c∧c≤9223372036854775807∧VAt w g (i *4) x.1 x.2:=by
 obtain⟨g,c,h1,h2,h3,h4,h5⟩:=dQ.at (enc:=Pm) (k:=4) (λ_=>rfl) h hx
 exact⟨g,c,h1,h2,h3,⟨h4,h5 0 _ rfl,h5 1 _ rfl,h5 2 _ rfl,h5 3 _ rfl⟩⟩
theorem Sz {w:World} {b g o:Nat} {x:bW} {u:Value} (hb:kH w b (.pointer (some ⟨g,o,none⟩))) (hx:WAt w g o x u):Pure Tryz.prog 196 #[.pointer (some ⟨b,0,none⟩)] w (.bool (x.state==3||x.state==4)):=by
 obtain⟨l0,x0⟩:=hb
 obtain⟨lt,c0,c1,c2,c3,c4,c5⟩:=hx
 by_cases q1:x.state=3
 ·have e:(x.state==3||x.state==4)=true:=by simp[q1]
  rw[e]
  have e1:(x.state==3)=true:=by simp[q1]
  refine Fi (n:=14) Tryz.func196 ?_;intro A hd hA;simp only[ix,Nat.reduceAdd]
  repeat'(first|refine aF ?_|refine mg ?_|refine jF ?_|refine au ?_|refine ak (λK hK=>?_)|refine aj ?_|refine aC ?_|go_step)
  exact aA hd ⟨rfl,by simp⟩
 ·by_cases q2:x.state=4
  ·have e:(x.state==3||x.state==4)=true:=by simp[q2]
   rw[e]
   have e1:(x.state==3)=false:=by simp[q1]
   have e2:(x.state==4)=true:=by simp[q2]
   refine Fi (n:=14) Tryz.func196 ?_;intro A hd hA;simp only[ix,Nat.reduceAdd]
   repeat'(first|refine dw ?_|refine aF ?_|refine au ?_|refine ak (λK hK=>?_)|refine aj ?_|refine aC ?_|go_step)
   exact aA hd ⟨rfl,by simp⟩
  ·have e:(x.state==3||x.state==4)=false:=by simp[q1,q2]
   rw[e]
   have e1:(x.state==3)=false:=by simp[q1]
   have e2:(x.state==4)=false:=by simp[q2]
   refine Fi (n:=14) Tryz.func196 ?_;intro A hd hA;simp only[ix,Nat.reduceAdd]
   repeat'(first|refine dw ?_|refine aF ?_|refine au ?_|refine ak (λK hK=>?_)|refine aj ?_|refine aC ?_|go_step)
   exact aA hd ⟨rfl,by simp⟩
theorem jL {w:World} {g o:Nat} {x:bW} {u:Value} (hx:WAt w g o x u):gK Tryz.prog 145 #[.pointer (some ⟨g,o,none⟩)] w λr w'=>aB w w'∧∃ f,r=.agg #[f,.int .i64 203]∧qZ w' f (x.state==3||x.state==4):=by
 have HX:=Zh hx
 clear hx
 refine Fi (n:=5) Tryz.func145 ?_;intro A hd hA;simp only[ix,Nat.reduceAdd]
 (repeat'(first|refine ak (λK hK=>?_)|refine aj ?_|fail));(refine dI (λx K hK=>?_);go_simp;refine hK _ _ (aB.alloc _ _) ?_;clear hK K;refine aZ x ?_;generalize (World.ah _ x).heap.size=b0;intro yn aU bD bC bG aS;clear x);have P8:=Zh (cO.new aS.out);have zT:=Zh yn.ext;have afM:(World.heap w).size≤b0:=aU;generalize World.ah w yn=W0 at *;clear aU bD bC bG aS yn
 (skip);(refine dI (λx K hK=>?_);go_simp;refine hK _ _ (aB.alloc _ _) ?_;clear hK K;refine aZ x ?_;generalize (World.ah _ x).heap.size=bc;intro yn aU bD bC bG aS;clear x);have Lh:=Zh (cO.new aS.out);have Lj:=Zh yn.ext;have ab3:(World.heap W0).size≤bc:=aU;generalize World.ah W0 yn=W2 at *;clear aU bD bC bG aS yn
 repeat'(first|refine aF ?_|refine au ?_|refine ak (λK hK=>?_)|refine aj ?_|go_step)
 refine aY (off:=0) Lh.out (λW3 jd ru=>?_)
 have s0:=zT.out.size
 have qO:=Zh (aB.bK Lj.out jd (λk hk=>by subst hk;omega))
 have jO:=Zh ru
 clear jd ru
 repeat'(first|refine au ?_|refine aC ?_|go_step)
 refine jH (cs:=[.func (.func 196) #[] #[.pointer (some ⟨b0,0,none⟩)],.int .i64 203]) hd ⟨Et zT.out qO.out,_,rfl,_,_,_,_,rfl,Tryz.func196,by kernel_rfl,λw' hE=>?_⟩ jO.out (λk hk=>Ns k hk) Tryz.underlying117
 exact Sz ((kH.of P8.out Nat.zero_lt_one rfl).ah (Et qO.out hE)) (HX.out.ah (Et zT.out (Et qO.out hE)))
def dF (w:World) (xs:List (Value×Bool×Int)):Prop:=∀ x∈xs,qZ w x.1 x.2.1
theorem dF.nil {w:World}:dF w []:=λx h=>by cases h
theorem dF.cons {w:World} {f:Value} {c:Bool} {n:Int} {xs:List (Value×Bool×Int)} (h:qZ w f c) (ht:dF w xs):dF w ((f,c,n)::xs):=λx hx=>by
 rcases List.mem_cons.1 hx with rfl|hx
 ·exact h
 ·exact ht x hx
theorem gJ {w w':World} (h:aB w w'):w.heap.size≤w'.heap.size:=h.size
theorem Gj {n:Int}:∀ (l:List Int) (k:Int),(∀b∈l,k≤b∧b<n)→l.Pairwise (· < ·)→(l.length:Int)≤n-k∨l=[]:=by
 intro l
 induction l with
 | nil=>intro k _ _;exact .inr rfl
 | cons a l ih=>
  intro k h1 h2
  obtain⟨h3,h4⟩:=List.pairwise_cons.1 h2
  have ha:=h1 a (by simp)
  rcases ih (a+1) (λb hb=>by have:=h3 b hb;have:=(h1 b (by simp[hb])).2;omega) h4 with h5|rfl
  ·left;rw[List.length_cons];push_cast;omega
  ·left;simp;omega
theorem rJ.MO {f:gB} {v:dL} (h:rJ f v) (hf:(1≤f.aK∧f.aK≤4)∧(1≤f.parts∧f.parts≤4)∧(1≤f.ids∧f.ids≤4)):v.isr.length≤4:=by
 rcases Gj v.isr 0 h.isr h.rise with h1|h1
 ·omega
 ·rw[h1];simp
theorem kU.MO {f:gB} {v:bW} (h:kU f v) (hf:(1≤f.aK∧f.aK≤4)∧(1≤f.parts∧f.parts≤4)∧(1≤f.ids∧f.ids≤4)):v.parts.length≤4:=by
 rcases Gj v.parts 0 h.parts h.rise with h1|h1
 ·omega
 ·rw[h1];simp
theorem dD {w:World} {v:Value} {xs:List (Value×Bool×Int)} {n:Int} (hv:Rd ccs 2 w v xs) (hch:dF w xs) (hn:fA xs=n):Pure Tryz.prog 62 #[v] w (.int .i64 n):=hn▸P7 hv hch
theorem zV {w:World} {b:Nat} {F:Nat→Prop} {m:aH} {p:Int} (h:gX w b F m) (hp:m.id p=false):gK Tryz.prog 89 #[.pointer (some ⟨b,0,none⟩),.int .i64 p] w λr w'=>aB w w'∧r=.tuple #[.agg #[.int .i64 0,.int .i64 0,.int .i64 0,.slice none 0 0,.int .i64 0,.int .i64 0],.int .i64 2]:=by
 have HH:=Zh h
 have HP:=Zh hp
 clear h hp
 refine Fi (n:=31) Tryz.func89 ?_;intro A hd hA;simp only[ix,Nat.reduceAdd]
 (repeat'(first|refine ak (λK hK=>?_)|refine aj ?_|fail));(refine dI (λx K hK=>?_);go_simp;refine hK _ _ (aB.alloc _ _) ?_;clear hK K;refine aZ x ?_;generalize (World.ah _ x).heap.size=b4;intro yn aU bD bC bG aS;clear x);have uq:=Zh (cO.new aS.out);have wB:=Zh yn.ext;have Ll:(World.heap w).size≤b4:=aU;generalize World.ah w yn=W0 at *;clear aU bD bC bG aS yn
 have HB:=uq
 clear uq
 have HE:=Zh (wB.out)
 repeat'(first|refine aF ?_|refine au ?_|refine ak (λK hK=>?_)|refine aj ?_|go_step)
 refine aX Tryz.func63 (dK (c:=false) (λw' hE=>(HH.out.ah (Et HE.out hE)).some)) (λr w1 hR=>?_)
 obtain⟨hE,f1,rfl,hC⟩:=hR
 replace HE:=Zh (Et HE.out hE)
 replace HB:=Zh (HB.out.ah hE)
 have gY:=Zh hC
 clear hE hC
 repeat'(first|refine aF ?_|fail)
 refine aX Tryz.func136 (kD p (HH.out.ah HE.out)) (λr w1 hR=>?_)
 obtain⟨hE,f2,rfl,hC⟩:=hR
 replace HE:=Zh (Et HE.out hE)
 replace HB:=Zh (HB.out.ah hE)
 replace gY:=Zh (gY.out.ah hE)
 have kG:=Zh hC
 clear hE hC
 repeat'(first|refine aN Tryz.func62 (dD (xs:=[(f1,false,1),(f2,!m.id p,2)]) (n:=2) (dW _ aS rfl (by unfold maxLen;simp)) (dF.cons (gY.out.ah (by simp)) (dF.cons (kG.out.ah (by simp)) dF.nil)) (by simp[fA,HP.out])) ?_|refine aF ?_|refine au ?_|refine ak (λK hK=>?_)|refine aj ?_|(refine dI (λx K hK=>?_);go_simp;refine hK _ _ (aB.alloc _ _) ?_;clear hK K;refine aZ x ?_;generalize (World.ah _ x).heap.size=bn;intro yn aU bD bC bG aS;clear x)|refine bH ?_|go_step)
 clear gY kG
 refine aY (off:=0) (HB.out.ah (by simp)) (λW1 fM nU=>?_)
 replace HE:=Zh (aB.bK (Et HE.out yn.ext) fM (λk hk=>by subst hk;omega))
 have jO:=Zh nU
 clear fM nU aU bD bC bG aS HB
 repeat'(first|refine aF ?_|refine au ?_|refine aC ?_|go_step)
 exact yB (cs:=[.int .i64 0,.int .i64 0,.int .i64 0,.slice none 0 0,.int .i64 0,.int .i64 0]) hd ⟨HE.out,rfl⟩ jO.out (λk hk=>Ns k hk) Tryz.underlying148
theorem Gl {w:World} {b:Nat} {F:Nat→Prop} {m:aH} {p:Int} (h:gX w b F m) (hp:m.part p=true):gK Tryz.prog 17 #[.pointer (some ⟨b,0,none⟩),.int .i64 p] w λr w'=>aB w w'∧∃ u,r=.tuple #[.agg (Pm (m.view p,u)).toArray,.int .i64 0]∧ig w' u (m.view p).isr∧∀ k,u.ownBlock=some k→w.heap.size≤k:=by
 have HH:=Zh h
 obtain⟨k,rfl⟩:∃ k:Nat,p=k:=⟨p.toNat,by simp only[aH.part,Bool.and_eq_true,decide_eq_true_eq]at hp;omega⟩
 have HP:=Zh hp
 clear h hp
 refine Fi (n:=31) Tryz.func17 ?_;intro A hd hA;simp only[ix,Nat.reduceAdd]
 (repeat'(first|refine ak (λK hK=>?_)|refine aj ?_|fail));(refine dI (λx K hK=>?_);go_simp;refine hK _ _ (aB.alloc _ _) ?_;clear hK K;refine aZ x ?_;generalize (World.ah _ x).heap.size=b4;intro yn aU bD bC bG aS;clear x);have uq:=Zh (cO.new aS.out);have wB:=Zh yn.ext;have Ll:(World.heap w).size≤b4:=aU;generalize World.ah w yn=W0 at *;clear aU bD bC bG aS yn
 have HB:=uq
 clear uq
 have HE:=Zh (wB.out)
 repeat'(first|refine aF ?_|refine au ?_|refine ak (λK hK=>?_)|refine aj ?_|go_step)
 refine aX Tryz.func63 (dK (c:=false) (λw' hE=>(HH.out.ah (Et HE.out hE)).some)) (λr w1 hR=>?_)
 obtain⟨hE,f1,rfl,hC⟩:=hR
 replace HE:=Zh (Et HE.out hE)
 replace HB:=Zh (HB.out.ah hE)
 have gY:=Zh hC
 clear hE hC
 repeat'(first|refine aF ?_|fail)
 refine aX Tryz.func64 (iF (k:Int) (HH.out.ah HE.out)) (λr w1 hR=>?_)
 obtain⟨hE,f2,rfl,hC⟩:=hR
 replace HE:=Zh (Et HE.out hE)
 replace HB:=Zh (HB.out.ah hE)
 replace gY:=Zh (gY.out.ah hE)
 have kG:=Zh hC
 clear hE hC
 obtain⟨a,jg,hF⟩:=HH.out.ah HE.out
 obtain⟨u,hu⟩:=jg.view HP.out
 rw[Int.toNat_natCast]at hu
 obtain⟨g,c,iZ,Dq,jT,hv⟩:=jg.views.Bf hu
 obtain⟨hlt,-,-,-,-,c4,-⟩:=jg.cells
 rw[iZ]at c4
 have HI:=Zh (jg.isr _ _ hu).1
 obtain⟨A3,m3,c3,rfl⟩:=aT (jg.isr _ _ hu).1
 obtain⟨lg,d0,d1,d2,d3⟩:=hv
 have kS:k<a.vs.length:=(Ge hu).1
 have sZ:(k:Int)<a.vs.length:=by omega
 have Uu:=(jg.bU.view HP.out)
 have iR:(m.view k).isr.length≤1000000:=by have:=Uu.MO (gB.dX jg.bU.right);omega
 simp only at d0 d1 d2 d3 HI
 clear jg hF iZ hu Uu
 repeat'(first|refine aN Tryz.func62 (dD (xs:=[(f1,false,1),(f2,!m.part (k:Int),2)]) (n:=0) (dW _ aS rfl (by unfold maxLen;simp)) (dF.cons (gY.out.ah (by simp)) (dF.cons (kG.out.ah (by simp)) dF.nil)) (by simp[fA,HP.out])) ?_|refine aF ?_|refine au ?_|(refine jr (λyn bn aU bD bC bG aS=>?_))|refine ak (λK hK=>?_)|refine aj ?_|refine aG ?_|(refine dI (λx K hK=>?_);go_simp;refine hK _ _ (aB.alloc _ _) ?_;clear hK K;refine aZ x ?_;generalize (World.ah _ x).heap.size=bn;intro yn aU bD bC bG aS;clear x)|refine bJ ?_|go_step)
 clear gY kG
 refine aX Tryz.func65 (fH ((dQ.Oj HI.out).rd.ah (by simp)) iR) (λr w3 hR=>?_)
 obtain⟨hE,hO,Kq⟩:=hR
 have HV:=Zh ((cO.new aS.out).ah hE)
 have NT:b4<bn:=Nat.lt_of_lt_of_le HB.out.lt (Nat.le_trans (gJ (by simp)) aU)
 replace HB:=Zh ((HB.out.ah (by simp)).ah hE)
 have HF:=Zh (λk hk=>Nat.le_trans (Et HE.out (Et (by simp) (aB.refl _))).size (Kq k hk))
 have hbu:r.ownBlock≠some bn:=λh=>by have:=Kq _ h;omega
 have ahx:r.ownBlock≠some b4:=λh=>by have:=Kq _ h;omega
 have aou:w.heap.size≤b4:=Ll
 have iU:=Et HE.out (Et (by simp) hE)
 replace HE:=Zh iU
 have HO:=Zh hO
 obtain⟨A4,m4,QL,rfl⟩:=aT hO
 have hwb:w.heap.size≤bn:=by omega
 clear hE hO Kq iU aU bD bC bG aS
 repeat'(first|refine aF ?_|fail)
 refine aY (off:=3) HV.out (λW4 hM hB=>?_)
 replace HE:=Zh (aB.bK HE.out hM (λk hk=>by subst hk;omega))
 replace HB:=Zh (HB.out.aW hM (λh=>by omega))
 replace HO:=Zh (HO.out.aW hM (λk hk h=>by subst h;exact hbu hk))
 replace HV:=Zh hB
 clear hM hB
 have v0:=HV.out.cell (k:=0) (by simp)
 have v1:=HV.out.cell (k:=1) (by simp)
 have v2:=HV.out.cell (k:=2) (by simp)
 have v3:=HV.out.cell (k:=3) (by simp)
 simp[put,Value.cells]at v0 v1 v2 v3
 have hlv:=HV.out.lt
 repeat'(first|refine aF ?_|refine au ?_|refine ak (λK hK=>?_)|refine aj ?_|go_step)
 refine aY (off:=0) HB.out (λW5 hM hB=>?_)
 replace HE:=Zh (aB.bK HE.out hM (λk hk=>by subst hk;omega))
 replace HO:=Zh (HO.out.aW hM (λk hk h=>by subst h;exact ahx hk))
 replace HB:=Zh hB
 clear hM hB
 repeat'(first|refine aF ?_|refine au ?_|refine aC ?_|go_step)
 exact yB (cs:=Pm (m.view k,.slice A4 m4 QL)) hd ⟨HE.out,_,rfl,HO.out,HF.out⟩ HB.out (λk hk=>Ns k hk) Tryz.underlying45
theorem lY {w:World} {b:Nat} {F:Nat→Prop} {m:aH} {p:Int} (h:gX w b F m) (hp:m.id p=true):gK Tryz.prog 89 #[.pointer (some ⟨b,0,none⟩),.int .i64 p] w λr w'=>aB w w'∧∃ u,r=.tuple #[.agg (Za (m.ay p,u)).toArray,.int .i64 0]∧ig w' u (m.ay p).parts∧∀ k,u.ownBlock=some k→w.heap.size≤k:=by
 have HH:=Zh h
 obtain⟨k,rfl⟩:∃ k:Nat,p=k:=⟨p.toNat,by simp only[aH.id,Bool.and_eq_true,decide_eq_true_eq]at hp;omega⟩
 have HP:=Zh hp
 clear h hp
 refine Fi (n:=31) Tryz.func89 ?_;intro A hd hA;simp only[ix,Nat.reduceAdd]
 (repeat'(first|refine ak (λK hK=>?_)|refine aj ?_|fail));(refine dI (λx K hK=>?_);go_simp;refine hK _ _ (aB.alloc _ _) ?_;clear hK K;refine aZ x ?_;generalize (World.ah _ x).heap.size=b4;intro yn aU bD bC bG aS;clear x);have uq:=Zh (cO.new aS.out);have wB:=Zh yn.ext;have Ll:(World.heap w).size≤b4:=aU;generalize World.ah w yn=W0 at *;clear aU bD bC bG aS yn
 have HB:=uq
 clear uq
 have HE:=Zh (wB.out)
 repeat'(first|refine aF ?_|refine au ?_|refine ak (λK hK=>?_)|refine aj ?_|go_step)
 refine aX Tryz.func63 (dK (c:=false) (λw' hE=>(HH.out.ah (Et HE.out hE)).some)) (λr w1 hR=>?_)
 obtain⟨hE,f1,rfl,hC⟩:=hR
 replace HE:=Zh (Et HE.out hE)
 replace HB:=Zh (HB.out.ah hE)
 have gY:=Zh hC
 clear hE hC
 repeat'(first|refine aF ?_|fail)
 refine aX Tryz.func136 (kD (k:Int) (HH.out.ah HE.out)) (λr w1 hR=>?_)
 obtain⟨hE,f2,rfl,hC⟩:=hR
 replace HE:=Zh (Et HE.out hE)
 replace HB:=Zh (HB.out.ah hE)
 replace gY:=Zh (gY.out.ah hE)
 have kG:=Zh hC
 clear hE hC
 obtain⟨a,jg,hF⟩:=HH.out.ah HE.out
 obtain⟨u,hu⟩:=jg.ay HP.out
 rw[Int.toNat_natCast]at hu
 obtain⟨g,c,iZ,Dq,jT,hv⟩:=jg.lu.Bd hu
 obtain⟨hlt,-,-,-,-,-,c4⟩:=jg.cells
 rw[iZ]at c4
 have HI:=Zh (jg.parts _ _ hu).1
 obtain⟨A3,m3,c3,rfl⟩:=aT (jg.parts _ _ hu).1
 obtain⟨lg,d0,d1,d2,d3,d4,d5⟩:=hv
 have kS:k<a.ws.length:=(Ge hu).1
 have sZ:(k:Int)<a.ws.length:=by omega
 have Uu:=(jg.bU.ay HP.out)
 have iR:(m.ay k).parts.length≤1000000:=by have:=Uu.MO (gB.dX jg.bU.right);omega
 simp only at d0 d1 d2 d3 d4 d5 HI
 clear jg hF iZ hu Uu
 repeat'(first|refine aN Tryz.func62 (dD (xs:=[(f1,false,1),(f2,!m.id (k:Int),2)]) (n:=0) (dW _ aS rfl (by unfold maxLen;simp)) (dF.cons (gY.out.ah (by simp)) (dF.cons (kG.out.ah (by simp)) dF.nil)) (by simp[fA,HP.out])) ?_|refine aF ?_|refine au ?_|(refine jr (λyn bn aU bD bC bG aS=>?_))|refine ak (λK hK=>?_)|refine aj ?_|refine aG ?_|(refine dI (λx K hK=>?_);go_simp;refine hK _ _ (aB.alloc _ _) ?_;clear hK K;refine aZ x ?_;generalize (World.ah _ x).heap.size=bn;intro yn aU bD bC bG aS;clear x)|refine bJ ?_|go_step)
 clear gY kG
 refine aX Tryz.func65 (fH ((dQ.Oj HI.out).rd.ah (by simp)) iR) (λr w3 hR=>?_)
 obtain⟨hE,hO,Kq⟩:=hR
 have HV:=Zh ((cO.new aS.out).ah hE)
 have NT:b4<bn:=Nat.lt_of_lt_of_le HB.out.lt (Nat.le_trans (gJ (by simp)) aU)
 replace HB:=Zh ((HB.out.ah (by simp)).ah hE)
 have HF:=Zh (λk hk=>Nat.le_trans (Et HE.out (Et (by simp) (aB.refl _))).size (Kq k hk))
 have hbu:r.ownBlock≠some bn:=λh=>by have:=Kq _ h;omega
 have ahx:r.ownBlock≠some b4:=λh=>by have:=Kq _ h;omega
 have aou:w.heap.size≤b4:=Ll
 have iU:=Et HE.out (Et (by simp) hE)
 replace HE:=Zh iU
 have HO:=Zh hO
 obtain⟨A4,m4,QL,rfl⟩:=aT hO
 have hwb:w.heap.size≤bn:=by omega
 clear hE hO Kq iU aU bD bC bG aS
 repeat'(first|refine aF ?_|fail)
 refine aY (off:=3) HV.out (λW4 hM hB=>?_)
 replace HE:=Zh (aB.bK HE.out hM (λk hk=>by subst hk;omega))
 replace HB:=Zh (HB.out.aW hM (λh=>by omega))
 replace HO:=Zh (HO.out.aW hM (λk hk h=>by subst h;exact hbu hk))
 replace HV:=Zh hB
 clear hM hB
 have v0:=HV.out.cell (k:=0) (by simp)
 have v1:=HV.out.cell (k:=1) (by simp)
 have v2:=HV.out.cell (k:=2) (by simp)
 have v3:=HV.out.cell (k:=3) (by simp)
 have v4:=HV.out.cell (k:=4) (by simp)
 have v5:=HV.out.cell (k:=5) (by simp)
 simp[put,Value.cells]at v0 v1 v2 v3 v4 v5
 have hlv:=HV.out.lt
 repeat'(first|refine aF ?_|refine au ?_|refine ak (λK hK=>?_)|refine aj ?_|go_step)
 refine aY (off:=0) HB.out (λW5 hM hB=>?_)
 replace HE:=Zh (aB.bK HE.out hM (λk hk=>by subst hk;omega))
 replace HO:=Zh (HO.out.aW hM (λk hk h=>by subst h;exact ahx hk))
 replace HB:=Zh hB
 clear hM hB
 repeat'(first|refine aF ?_|refine au ?_|refine aC ?_|go_step)
 exact yB (cs:=Za (m.ay k,.slice A4 m4 QL)) hd ⟨HE.out,_,rfl,HO.out,HF.out⟩ HB.out (λk hk=>Ns k hk) Tryz.underlying148
def wS (w:World) (b:Nat) (F:Nat→Prop) (m':aH) (w':World):Prop:=bF F w w'∧gX w' b (λk=>F k∨w.heap.size≤k) m'
section
variable {w w' : World} {b : Nat} {a : yg} {m : aH} {F G : Nat → Prop}
theorem gX.jc (h:gX w b F m) (hE:aB w w'):wS w b F m w':=⟨hE.aW,(h.ah hE).mono λ_ h=>.inl h⟩
theorem fZ.to {m':aH} {a':yg} {w1:World} (h:fZ w' b a' m') (hE:aB w w1) (hM:bF G w1 w') (hG:∀ k,k<w.heap.size→G k→F k) (hT:∀ k,a'.T k≠0→F k∨w.heap.size≤k):wS w b F m' w':=
 ⟨bF.trans hE hM (λ_ _ h=>h.elim) hG,a',h,hT⟩
theorem fZ.aov (h:fZ w b a m) (x:Int) (is:Bool) (hM:bF G w w') (hG:∀ k,G k→a.uL.ownBlock=some k) (hL:dQ UQ 1 4 w' a.uL (m.lives.set x.toNat is)):fZ w' b a (m.qo x is):=by
 have bT:∀ k t,a.T k=t→t≠2→¬ G k:=λk t h1 h2 hg=>by have:=h.tL k (hG k hg);omega
 exact⟨h.gy.aW hM (bT _ _ h.tb (by decide)),hL,h.views.aW hM (λk hk=>bT _ _ (h.tV k hk) (by decide)),h.lu.aW hM (λk hk=>bT _ _ (h.tW k hk) (by decide)),h.vm,h.wm,
  λi y hy=>⟨(h.isr i y hy).1.aW hM (λk hk=>bT _ _ ((h.isr i y hy).2 k hk) (by omega)),(h.isr i y hy).2⟩,λi y hy=>⟨(h.parts i y hy).1.aW hM (λk hk=>bT _ _ ((h.parts i y hy).2 k hk) (by omega)),(h.parts i y hy).2⟩,
  h.tb,h.tL,h.tV,h.tW,λk hk=>Nat.lt_of_lt_of_le (h.lt k hk) hM.size,h.bU.qo x is⟩
theorem fZ.sG (h:fZ w b a m) {x:Int} (hx:m.aV x=true):m.lives[x.toNat]? =some (m.sG x):=by
 have h1:=dV hx
 have h2:=h.bU.lives
 obtain⟨y,hy⟩:∃ y,m.lives[x.toNat]? =some y:=⟨_,List.getElem?_eq_getElem (by omega)⟩
 have:m.sG x=y:=by
  show m.lives.getD x.toNat false=y
  rw[List.getD_eq_getElem?_getD,hy];rfl
 rw[this];exact hy
end
section
variable {P : Program} {Q : jo} {w : World} {A : Act} {fl : List (Nat × Value)} {o : Oper} {ops : Array Oper} {α : Type} {enc : α → List Value} {E : TypeId} {xs : List α}
theorem ab4 {rest:List (Oper×Nat)} {x y:Operand} {t:TypeId} {g n c:Nat} {v:Value} (i:Nat) (r r':α) (nD:dQ enc 1 E w (.slice (some ⟨g,0,none⟩) n c) xs) (hr:xs[i]? =some r) (hk:∀ x,(enc x).length=1) (hv:enc r'=[v]) (h1:v.oneCell'=true)
  (h:∀ W',bF (· =g) w W'→dQ enc 1 E W' (.slice (some ⟨g,0,none⟩) n c) (xs.set i r')→jh P ops Q rest (fr fl A) W')
  (ho:o.op=.store t x y:=by rfl) (hd:o.dst=none:=by rfl) (hg:o.guard=none:=by rfl)
  (hx:Is ((fr fl A).eval x) (.pointer (some ⟨g,i,none⟩)):=by go_simp;exact Is.mk _) (hy:Is ((fr fl A).eval y) v:=by go_simp;exact Is.mk _)
  (hi:(P.info? t).map (·.size)=some v.cells.size:=by kernel_rfl) (hc:v.cells= #[v]:=by rfl):
  jh P ops Q ((o,2)::rest) (fr fl A) w:=by
 refine kN (v:=v) (g:=g) (n:=n) (c:=c) i 0 r r' nD hr hk (by rw[hc];exact Nat.le_refl _) ?_ h ho hd hg (by rw[Nat.mul_one,Nat.add_zero];exact hx) hy hi (by rw[hc];simp[h1])
 intro j' u hu
 have hj:j'=0:=by
  have:=(Ge hu).1
  rw[hk]at this;omega
 subst hj
 rw[hc,if_pos ⟨Nat.le_refl _,by simp⟩]
 rw[hv]at hu
 simpa using hu
end
theorem qw {w:World} {b:Nat} {E:TypeId} {cs:Array Value} (xs:List (Addr×Int)) (hb:Hid (w.heap[b]? =some (.cells cs E))) (vV:cs.toList=(qG xs).flatMap Hz) (hm:xs.length≤maxLen):Rd Hz 1 w (.slice (some ⟨b,0,none⟩) xs.length xs.length) (qG xs):=by
 have hl:(qG xs).length=xs.length:=by simp[qG]
 have h:dQ Hz 1 E w (.slice (some ⟨b,0,none⟩) (qG xs).length (qG xs).length) (qG xs):=by
  refine⟨eH (enc:=Hz) (k:=1) (λ_=>rfl) _,.inr ⟨b,(qG xs).length,cs,rfl,Nat.zero_le _,hb.out,Nat.le_refl _,by omega,?_,?_⟩⟩
  ·rw[←Array.length_toList,vV,eH (enc:=Hz) (k:=1) (λ_=>rfl)]
  ·rw[vV,←eH (enc:=Hz) (k:=1) (λ_=>rfl) (qG xs)];exact List.take_length
 rw[hl]at h
 exact dQ.rd (enc:=Hz) (k:=1) (λ_=>rfl) h
theorem Ny {w:World} {b:Nat} {F:Nat→Prop} {m:aH} (x:Int) (h:gX w b F m):gK Tryz.prog 110 #[.pointer (some ⟨b,0,none⟩),.int .i64 x] w λr w'=>r=.int .i64 (m.nR x)∧wS w b F (m.lV x) w':=by
 have HH:=Zh h
 by_cases hp:m.aV x=true
 ·have HP:=Zh hp
  have bT:m.nR x=0:=by simp[aH.nR,hp]
  have bP:m.lV x=m.qo x true:=by simp[aH.lV,bT]
  rw[bT,bP]
  obtain⟨k,rfl⟩:∃ k:Nat,x=k:=⟨x.toNat,by simp only[aH.aV,Bool.and_eq_true,decide_eq_true_eq]at hp;omega⟩
  clear bT bP hp h
  refine Fi (n:=22) Tryz.func110 ?_;intro A hd hA;simp only[ix,Nat.reduceAdd]
  repeat'(first|refine aF ?_|refine au ?_|refine ak (λK hK=>?_)|refine aj ?_|go_step)
  refine aX Tryz.func63 (dK (c:=false) (λw' hE=>(HH.out.ah (Et (aB.refl _) hE)).some)) (λr w1 hR=>?_)
  obtain⟨hE,f1,rfl,hC⟩:=hR
  have HE:=Zh (hE)
  have gY:=Zh hC
  clear hE hC
  repeat'(first|refine aF ?_|fail)
  refine aX Tryz.func155 (iw (k:Int) (HH.out.ah HE.out)) (λr w1 hR=>?_)
  obtain⟨hE,f2,rfl,hC⟩:=hR
  replace HE:=Zh (Et HE.out hE)
  replace gY:=Zh (gY.out.ah hE)
  have kG:=Zh hC
  clear hE hC
  obtain⟨a,jg,hF⟩:=HH.out.ah HE.out
  have hlv:=jg.sG HP.out
  rw[Int.toNat_natCast]at hlv
  obtain⟨g,c,iZ,Dq,jT,Ib,-⟩:=dQ.at (enc:=UQ) (k:=1) (λ_=>rfl) jg.lives hlv
  obtain⟨hlt,-,-,-,c3,-⟩:=jg.cells
  rw[iZ]at c3
  have xH:=Zh iZ
  have HLV:=Zh hlv
  have kS:k<m.lives.length:=(Ge hlv).1
  have sZ:(k:Int)<m.lives.length:=by omega
  have HA:=Zh jg
  have HF:=Zh hF
  clear jg hF iZ hlv
  repeat'(first|refine aN Tryz.func62 (dD (xs:=[(f1,false,1),(f2,!m.aV (k:Int),2)]) (n:=0) (dW _ aS rfl (by unfold maxLen;simp)) (dF.cons (gY.out.ah (by simp)) (dF.cons (kG.out.ah (by simp)) dF.nil)) (by simp[fA,HP.out])) ?_|refine aF ?_|refine au ?_|refine ak (λK hK=>?_)|refine aj ?_|refine aG ?_|(refine dI (λx K hK=>?_);go_simp;refine hK _ _ (aB.alloc _ _) ?_;clear hK K;refine aZ x ?_;generalize (World.ah _ x).heap.size=bn;intro yn aU bD bC bG aS;clear x)|refine bJ ?_|go_step)
  clear gY kG
  have Kv:=Zh (HA.out.ah (by simp:aB _ ((w1.ah yn))))
  have hL:=Kv.out.lives
  rw[xH.out]at hL
  refine ab4 k (m.sG k) true hL HLV.out (λ_=>rfl) rfl rfl (λW2 hM hO=>?_)
  rw[←xH.out]at hO
  have QU:=Kv.out.aov (k:Int) true hM (λk' hk=>by rw[xH.out,hk];rfl) (by rw[Int.toNat_natCast];exact hO)
  have bP:wS w b F (m.qo k true) W2:=QU.to (Et HE.out (by simp:aB _ (w1.ah yn))) hM (λk' _ hk=>HF.out _ (by have:=HA.out.tL k' (by rw[xH.out,hk];rfl);omega)) (λk' hk=>.inl (HF.out k' hk))
  have jG:=Zh bP
  clear bP QU hO hM hL
  repeat'(first|refine aF ?_|refine au ?_|refine ak (λK hK=>?_)|refine aj ?_|refine aC ?_|go_step)
  exact aA hd ⟨rfl,jG.out⟩
 ·have hp:m.aV x=false:=by simpa using hp
  have HP:=Zh hp
  have bT:m.nR x=2:=by simp[aH.nR,hp]
  have bP:m.lV x=m:=by simp[aH.lV,bT]
  rw[bT,bP]
  clear bT bP hp h
  refine Fi (n:=22) Tryz.func110 ?_;intro A hd hA;simp only[ix,Nat.reduceAdd]
  repeat'(first|refine aF ?_|refine au ?_|refine ak (λK hK=>?_)|refine aj ?_|go_step)
  refine aX Tryz.func63 (dK (c:=false) (λw' hE=>(HH.out.ah (Et (aB.refl _) hE)).some)) (λr w1 hR=>?_)
  obtain⟨hE,f1,rfl,hC⟩:=hR
  have HE:=Zh (hE)
  have gY:=Zh hC
  clear hE hC
  repeat'(first|refine aF ?_|fail)
  refine aX Tryz.func155 (iw x (HH.out.ah HE.out)) (λr w1 hR=>?_)
  obtain⟨hE,f2,rfl,hC⟩:=hR
  replace HE:=Zh (Et HE.out hE)
  replace gY:=Zh (gY.out.ah hE)
  have kG:=Zh hC
  clear hE hC
  repeat'(first|refine aN Tryz.func62 (dD (xs:=[(f1,false,1),(f2,!m.aV x,2)]) (n:=2) (dW _ aS rfl (by unfold maxLen;simp)) (dF.cons (gY.out.ah (by simp)) (dF.cons (kG.out.ah (by simp)) dF.nil)) (by simp[fA,HP.out])) ?_|refine aF ?_|refine au ?_|refine ak (λK hK=>?_)|refine aj ?_|refine aC ?_|(refine dI (λx K hK=>?_);go_simp;refine hK _ _ (aB.alloc _ _) ?_;clear hK K;refine aZ x ?_;generalize (World.ah _ x).heap.size=bn;intro yn aU bD bC bG aS;clear x)|refine bH ?_|go_step)
  clear gY kG
  exact aA hd ⟨rfl,HH.out.jc (Et HE.out (by simp))⟩
end Go.Ws
