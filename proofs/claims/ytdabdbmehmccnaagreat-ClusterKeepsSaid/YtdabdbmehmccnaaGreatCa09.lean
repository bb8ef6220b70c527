/- Lemmas for the statements of this layer (joined texts); no condition. -/
import Derived.Test.YtdabdbmehmccnaaGreatCa08
namespace Go.Ws
open Go Go.RowKit Go.Proofs
set_option maxHeartbeats 4000000
set_option maxRecDepth 100000
set_option linter.unusedVariables false
set_option linter.unusedSimpArgs false
def yH:Int→List Int→Bool
 | _,[]=>true
 | p,x::xs=>decide (p<x)&&yH x xs
def vG:List Int→Bool
 | []=>true
 | x::xs=>yH x xs
theorem EY:∀ (l:List Int) (p:Int),yH p l=true↔(p::l).Pairwise (· < ·)
 | [],p=>by simp[yH]
 | x::xs,p=>by
  simp only[yH,Bool.and_eq_true,decide_eq_true_eq]
  rw[EY xs x,List.pairwise_cons (a:=p)]
  constructor
  ·rintro⟨h1,h2⟩
   refine⟨λy hy=>?_,h2⟩
   rcases List.mem_cons.1 hy with rfl|hy
   ·exact h1
   ·have:=(List.pairwise_cons.1 h2).1 y hy;omega
  ·rintro⟨h1,h2⟩
   exact⟨h1 x (by simp),h2⟩
theorem Ls (l:List Int):vG l=decide (l.Pairwise (· < ·)):=by
 cases l with
 | nil=>simp[vG]
 | cons x xs=>
  show yH x xs=_
  by_cases h:(x::xs).Pairwise (· < ·)
  ·rw[decide_eq_true h];exact(EY xs x).2 h
  ·rw[decide_eq_false h]
   cases hb:yH x xs with
   | false=>rfl
   | true=>exact absurd ((EY xs x).1 hb) h
theorem sN (l:List Int) (v:Value) (w:World) (hl:BU w v l):Pure Tryz.prog 225 #[v] w (.bool (vG l)):=by
 obtain⟨A0,c,rfl,hc,jT,HR⟩:=hl.int
 have hl9:l.length≤9223372036854775807:=by omega
 clear hl
 refine Fi (n:=20) Tryz.func225 ?_;intro A hd hA;simp only[ix,Nat.reduceAdd]
 repeat'(first|refine aF ?_|refine au ?_|refine ak (λK hK=>?_)|refine aj ?_|refine aJ ?_|go_step)
 refine dJ [0,3] (λn vs w'=>∃ k:Nat,w'=w∧k+n=l.length+1∧vs=[.slice A0 l.length c,.int .i64 ((k+1:Nat):Int)]∧(∀x,l[k]? =some x→yH x (l.drop (k+1))=vG l)∧(l[k]? =none→vG l=true)) (l.length+1) hd hA (by decide) ⟨0,rfl,by omega,by simp,by cases l<;>simp[vG],by cases l<;>simp[vG]⟩ ?_
 clear hd hA A;intro n vs B w' hd hA _ ⟨k,hw,hk,jk,hm,hm0⟩;subst hw jk
 obtain⟨k1,JF⟩:∃ k1:Nat,k1=k+1:=⟨_,rfl⟩
 rw[←JF]
 simp only[List.zip_cons_cons,List.zip_nil_right,List.zip_nil_left]
 by_cases hlt:k1<l.length
 ·obtain⟨x,b,o,HX,rfl,hb,c0⟩:=HR k1 hlt
  obtain⟨y,b',o',HY,Dk,-,d0⟩:=HR k (by omega)
  cases Dk
  have sZ:(k1:Int)<l.length:=by omega
  have hkm:(k1:Int)-1=(k:Int):=by omega
  have kS:(k:Int)<l.length:=by omega
  obtain⟨k2,hk2⟩:∃ k2:Nat,k2=k1+1:=⟨_,rfl⟩
  have hkp:(k1:Int)+1=(k2:Int):=by omega
  have hkr:(k2:Int)<9223372036854775808:=by omega
  have hm:=hm y HY.out
  have MK:l.drop (k+1)=x::l.drop (k1+1):=by
   rw[←JF,List.drop_eq_getElem_cons hlt]
   have Ru:=HX.out
   rw[List.getElem?_eq_getElem hlt]at Ru
   cases Ru;rfl
  rw[MK,←hk2]at hm
  simp only[yH]at hm
  have HK1:=Zh JF
  have HK2:=Zh hk2
  clear JF hk2 MK hm0
  by_cases hxy:x≤y
  ·have HM:Hid (vG l=false):=Zh (by rw[←hm];simp;omega)
   clear hm
   repeat'(first|refine aF ?_|refine au ?_|refine ak (λK hK=>?_)|refine aj ?_|refine aG ?_|refine aJ ?_|refine bH ?_|go_step)
   refine dA (by kernel_rfl) (by kernel_rfl) ?_
   repeat'(first|refine aF ?_|refine aQ ?_|refine au ?_|refine ak (λK hK=>?_)|refine aj ?_|refine aC ?_|refine bH ?_|go_step)
   exact aA hd ⟨by rw[HM.out],by simp⟩
  ·have HM:Hid (yH x (l.drop k2)=vG l):=Zh (by rw[←hm];simp;omega)
   have awk:y<x:=by omega
   clear hm
   repeat'(first|refine aF ?_|refine au ?_|refine ak (λK hK=>?_)|refine aj ?_|refine aG ?_|refine aJ ?_|refine bH ?_|go_step)
   refine dA (by kernel_rfl) (by kernel_rfl) ?_
   repeat'(first|refine aF ?_|refine aQ ?_|refine au ?_|refine aj ?_|refine aG ?_|refine bJ ?_|go_step)
   refine⟨_,_,rfl,hd,hA,n-1,by omega,k+1,trivial,by omega,?_,?_,?_⟩
   ·have:k+1+1=k2:=by rw[HK2.out,HK1.out]
    rw[this];simp
   ·intro z hz
    rw[←HK1.out,HX.out]at hz
    cases hz
    have:k+1+1=k2:=by rw[HK2.out,HK1.out]
    rw[this];exact HM.out
   ·intro hz
    rw[←HK1.out,HX.out]at hz
    cases hz
 ·have uF:vG l=true:=by
   cases hk:l[k]? with
   | none=>exact hm0 hk
   | some x=>
    rw[←hm x hk,List.drop_eq_nil_of_le (by omega)];rfl
  have HM:=Zh uF
  clear hm hm0 uF JF
  repeat'(first|refine aF ?_|refine au ?_|refine ak (λK hK=>?_)|refine aj ?_|refine aC ?_|refine dS ?_|refine bJ ?_|go_step)
  exact aA hd ⟨by rw[HM.out],by simp⟩
def ace (w:World):List (Value×Bool×Int)→Prop
 | []=>True
 | x::xs=>qZ w x.1 x.2.1∧(x.2.1=false→ace w xs)
theorem I4 {w:World} {v:Value} {xs:List (Value×Bool×Int)} {n:Int} (hv:Rd ccs 2 w v xs) (hch:ace w xs) (hn:fA xs=n):Pure Tryz.prog 62 #[v] w (.int .i64 n):=by
 subst hn
 obtain⟨A0,c,rfl,hc,jT,HR⟩:=hv.chk
 have HC:=Zh hch
 clear hv hch
 refine Fi (n:=17) Tryz.func62 ?_;intro A hd hA;simp only[ix,Nat.reduceAdd]
 repeat'(first|refine aF ?_|refine au ?_|refine ak (λK hK=>?_)|refine aj ?_|refine aJ ?_|go_step)
 refine dJ [5,6,7] (λn vs w'=>∃ k:Nat,aB w w'∧k+n=xs.length∧vs=[.slice A0 xs.length c,.int .i64 xs.length,.int .i64 k]∧fA (xs.drop k)=fA xs∧ace w (xs.drop k)) xs.length hd hA (by decide) ⟨0,by simp,by omega,by simp,rfl,HC.out⟩ ?_
 clear hd hA A;intro n vs B w' hd hA _ ⟨k,hE,hk,jk,hm,hch⟩;subst jk
 obtain⟨y,rfl⟩:=hE.get
 clear hE
 simp only[List.zip_cons_cons,List.zip_nil_right,List.zip_nil_left]
 by_cases hlt:k<xs.length
 ·obtain⟨x,b,o,HX,rfl,hb,c0,c1⟩:=HR k hlt
  have sZ:(k:Int)<xs.length:=by omega
  have MK:xs.drop k=x::xs.drop (k+1):=by
   rw[List.drop_eq_getElem_cons hlt]
   have Ru:=HX.out
   rw[List.getElem?_eq_getElem hlt]at Ru
   cases Ru;rfl
  rw[MK]at hm hch
  obtain⟨⟨fk,first,cap,fn,hfx,NW,Ph,MN⟩,ahD⟩:=hch
  obtain⟨xv,xb,xn⟩:=x
  simp only at hfx c0 c1 MN ahD
  subst hfx
  have HF:=Zh MN
  have HCH:=Zh ahD
  clear MK MN ahD
  cases xb
  ·have HM:Hid (fA (xs.drop (k+1))=fA xs):=Zh (by simpa [fA] using hm)
   clear hm
   repeat'(first|refine aF ?_|refine au ?_|(refine jr (λyn bn aU bD bC bG aS=>?_))|refine ak (λK hK=>?_)|refine aj ?_|refine aG ?_|refine aJ ?_|refine bH ?_|go_step)
   refine dM (lv:=[]) (first:=first) (captured:=cap) (R:=λv' w'=>v'=.bool false∧aB _ w') NW (HF.out _ (by simp)) (λv' w' hR=>?_) rfl rfl Ph
   obtain⟨rfl,hE⟩:=hR
   obtain⟨y',rfl⟩:=hE.get
   clear hE
   repeat'(first|refine aF ?_|refine au ?_|refine aj ?_|refine aG ?_|refine bJ ?_|go_step)
   exact⟨_,_,rfl,hd,hA,n-1,by omega,k+1,by simp,by omega,by simp,HM.out,HCH.out rfl⟩
  ·have HM:Hid (xn=fA xs):=Zh (by simpa [fA] using hm)
   clear hm
   repeat'(first|refine aF ?_|refine au ?_|(refine jr (λyn bn aU bD bC bG aS=>?_))|refine ak (λK hK=>?_)|refine aj ?_|refine aG ?_|refine aJ ?_|refine bH ?_|go_step)
   refine dM (lv:=[]) (first:=first) (captured:=cap) (R:=λv' w'=>v'=.bool true∧aB _ w') NW (HF.out _ (by simp)) (λv' w' hR=>?_) rfl rfl Ph
   obtain⟨rfl,hE⟩:=hR
   obtain⟨y',rfl⟩:=hE.get
   clear hE
   repeat'(first|refine aF ?_|refine au ?_|refine ak (λK hK=>?_)|refine aj ?_|refine aC ?_|refine bH ?_|go_step)
   exact aA hd ⟨by rw[←HM.out],by simp⟩
 ·obtain rfl:k=xs.length:=by omega
  rw[List.drop_length]at hm
  have HM:Hid (0=fA xs):=Zh hm
  clear hm
  repeat'(first|refine aF ?_|refine au ?_|refine ak (λK hK=>?_)|refine aj ?_|refine aC ?_|refine dS ?_|refine bJ ?_|go_step)
  exact aA hd ⟨by rw[←HM.out],by simp⟩
theorem SH {w:World} {b b0:Nat} {F:Nat→Prop} {m:aH} {x:Int} (h:gX w b F m) (hx:m.aV x=true) (h0:kH w b0 (.pointer (some ⟨b,0,none⟩))):Pure Tryz.prog 223 #[.int .i64 x,.pointer (some ⟨b0,0,none⟩)] w (.bool (!m.sG x)):=by
 obtain⟨k,rfl⟩:∃ k:Nat,x=k:=⟨x.toNat,by simp only[aH.aV,Bool.and_eq_true,decide_eq_true_eq]at hx;omega⟩
 obtain⟨a,hA,-⟩:=h
 obtain⟨l0,x0⟩:=h0
 have hlv:=hA.sG hx
 rw[Int.toNat_natCast]at hlv
 obtain⟨g,c,iZ,Dq,jT,Ib,iK⟩:=dQ.at (enc:=UQ) (k:=1) (λ_=>rfl) hA.lives hlv
 obtain⟨hlt,-,-,-,c3,-⟩:=hA.cells
 rw[iZ]at c3
 have d0:=iK 0 _ rfl
 rw[Nat.mul_one,Nat.add_zero]at d0
 have kS:k<m.lives.length:=(Ge hlv).1
 have sZ:(k:Int)<m.lives.length:=by omega
 clear hA iK hlv iZ hx
 refine Fi (n:=12) Tryz.func223 ?_;intro A hd hA;simp only[ix,Nat.reduceAdd]
 repeat'(first|refine aF ?_|refine au ?_|refine ak (λK hK=>?_)|refine aj ?_|refine aC ?_|go_step)
 exact aA hd ⟨rfl,by simp⟩
def Lu (m:aH) (l:List Int):List (Value×Bool):=l.map λx=>(.int .i64 x,!m.sG x)
theorem aeO {w:World} {v:Value} {l:List Int} (m:aH) (h:BU w v l):Rd Hz 1 w v (Lu m l):=by
 obtain⟨A,c,h1,h2,h3,h4⟩:=h
 have hl:(Lu m l).length=l.length:=by simp[Lu]
 refine⟨A,c,by rw[hl];exact h1,by rw[hl];exact h2,h3,?_⟩
 rcases h4 with⟨h4,rfl⟩|⟨b,o,hA,hb,hr⟩
 ·exact .inl ⟨h4,rfl⟩
 ·refine .inr ⟨b,o,hA,hb,λi x hx j u hu=>?_⟩
  unfold Lu at hx
  rw[List.getElem?_map]at hx
  obtain⟨y,hy,rfl⟩:=Option.map_eq_some_iff.1 hx
  exact hr i y hy j u hu
theorem Gp {w:World} {b b6 b11 b15:Nat} {F:Nat→Prop} {m:aH} {l:List Int} {v:Value} (h:gX w b F m) (hx:∀ x∈l,m.aV x=true) (h6:kH w b6 (.pointer (some ⟨b,0,none⟩))) (h11:kH w b11 v) (h15:kH w b15 (.func (.func 223) #[] #[.pointer (some ⟨b6,0,none⟩)])) (hr:BU w v l):
  Pure Tryz.prog 227 #[.pointer (some ⟨b11,0,none⟩),.pointer (some ⟨b15,0,none⟩)] w (.bool (!l.all m.sG)):=by
 obtain⟨l11,x11⟩:=h11
 obtain⟨l15,x15⟩:=h15
 have HH:=Zh h
 have HX:=Zh hx
 have H6:=Zh h6
 have HR:=Zh hr
 obtain⟨A0,c,rfl,-⟩:=hr.int
 have e:(!l.all m.sG)=(Lu m l).any (·.2):=by
  unfold Lu;rw[List.any_map,List.not_all_eq_any_not];rfl
 rw[e]
 clear h hx h6 hr e
 have D7:∀ w',aB w w'→zU w' (.func (.func 223) #[] #[.pointer (some ⟨b6,0,none⟩)]) (Lu m l):=λw' hE=>⟨_,_,_,_,rfl,Tryz.func223,by kernel_rfl,λy hy w2 iU=>by
  obtain⟨x,hx,rfl⟩:=List.mem_map.1 hy
  exact SH (HH.out.ah (Et hE iU)) (HX.out x hx) (H6.out.ah (Et hE iU))⟩
 have HCK:=Zh D7
 clear D7
 refine Fi (n:=6) Tryz.func227 ?_;intro A hd hA;simp only[ix,Nat.reduceAdd]
 repeat'(first|refine aN Tryz.func228 (H9 (aeO m (HR.out.ah (by simp))) (HCK.out _ (by simp))) ?_|refine aF ?_|refine au ?_|refine ak (λK hK=>?_)|refine aj ?_|refine aC ?_|go_step)
 exact aA hd ⟨rfl,by simp⟩
theorem Gq {w:World} {b14 b8 b9 b10 g o:Nat} {v:dL} {u:Value} {ld ep ver:Int} (h14:kH w b14 (.pointer (some ⟨g,o,none⟩))) (h8:kH w b8 (.int .i64 ld)) (h9:kH w b9 (.int .i64 ep)) (h10:kH w b10 (.int .i64 ver)) (hv:VAt w g o v u):
  Pure Tryz.prog 226 #[.pointer (some ⟨b14,0,none⟩),.pointer (some ⟨b8,0,none⟩),.pointer (some ⟨b9,0,none⟩),.pointer (some ⟨b10,0,none⟩)] w (.bool (v.leader != ld||v.epoch != ep||v.version != ver)):=by
 obtain⟨XT,x14⟩:=h14
 obtain⟨l8,x8⟩:=h8
 obtain⟨l9,x9⟩:=h9
 obtain⟨l10,x10⟩:=h10
 obtain⟨lg,e0,e1,e2,e3⟩:=hv
 cases q1:v.leader != ld
 ·cases q2:v.epoch != ep
  ·cases q3:v.version != ver
   ·have e:(false||false||false)=false:=rfl
    rw[e]
    refine Fi (n:=27) Tryz.func226 ?_;intro A hd hA;simp only[ix,Nat.reduceAdd]
    repeat'(first|refine aF ?_|refine au ?_|refine ak (λK hK=>?_)|refine aj ?_|go_step)
    refine dA (by kernel_rfl) (by kernel_rfl) ?_
    repeat'(first|refine dw ?_|refine aF ?_|refine aQ ?_|refine aC ?_|go_step)
    exact aA hd ⟨rfl,by simp⟩
   ·have e:(false||false||true)=true:=rfl
    rw[e]
    refine Fi (n:=27) Tryz.func226 ?_;intro A hd hA;simp only[ix,Nat.reduceAdd]
    repeat'(first|refine aF ?_|refine au ?_|refine ak (λK hK=>?_)|refine aj ?_|go_step)
    refine dA (by kernel_rfl) (by kernel_rfl) ?_
    repeat'(first|refine dw ?_|refine aF ?_|refine aQ ?_|refine aC ?_|go_step)
    exact aA hd ⟨rfl,by simp⟩
  ·have e:(false||true||v.version != ver)=true:=rfl
   rw[e]
   refine Fi (n:=27) Tryz.func226 ?_;intro A hd hA;simp only[ix,Nat.reduceAdd]
   repeat'(first|refine aF ?_|refine au ?_|refine ak (λK hK=>?_)|refine aj ?_|go_step)
   refine dA (by kernel_rfl) (by kernel_rfl) ?_
   repeat'(first|refine dw ?_|refine aF ?_|refine mg ?_|refine jF ?_|refine aQ ?_|refine aC ?_|go_step)
   exact aA hd ⟨rfl,by simp⟩
 ·have e:(true||v.epoch != ep||v.version != ver)=true:=rfl
  rw[e]
  refine Fi (n:=27) Tryz.func226 ?_;intro A hd hA;simp only[ix,Nat.reduceAdd]
  repeat'(first|refine aF ?_|refine au ?_|refine ak (λK hK=>?_)|refine aj ?_|go_step)
  refine dA (by kernel_rfl) (by kernel_rfl) ?_
  repeat'(first|refine aF ?_|refine mg ?_|refine jF ?_|refine aQ ?_|refine aC ?_|go_step)
  exact aA hd ⟨rfl,by simp⟩
theorem Zl {n:Int} {l:List Int} {x0 xl:Int} (hr:l.Pairwise (· < ·)) (h0:l[0]? =some x0) (hl:l[l.length-1]? =some xl):(l.all λb=>decide (0≤b)&&decide (b<n))=(decide (0≤x0)&&decide (xl<n)):=by
 obtain⟨p0,rfl⟩:=Ge h0
 obtain⟨pl,rfl⟩:=Ge hl
 have hp:=List.pairwise_iff_getElem.1 hr
 have key:∀ i (hi:i<l.length),l[0]≤l[i]∧l[i]≤l[l.length-1]:=by
  intro i hi
  constructor
  ·by_cases h:i=0
   ·subst h;exact Int.le_refl _
   ·exact Int.le_of_lt (hp 0 i p0 hi (by omega))
  ·by_cases h:i=l.length-1
   ·subst h;exact Int.le_refl _
   ·exact Int.le_of_lt (hp i (l.length-1) hi pl (by omega))
 rw[Bool.eq_iff_iff,List.all_eq_true]
 simp only[Bool.and_eq_true,decide_eq_true_eq]
 constructor
 ·intro h
  exact⟨(h _ (List.getElem_mem p0)).1,(h _ (List.getElem_mem pl)).2⟩
 ·rintro⟨h1,h2⟩ y hy
  obtain⟨i,hi,rfl⟩:=List.getElem_of_mem hy
  have:=key i hi
  omega
theorem LC {w:World} {b b6 b8 b11:Nat} {F:Nat→Prop} {m:aH} {l:List Int} {v:Value} {ld:Int} (h:gX w b F m) (h6:kH w b6 (.pointer (some ⟨b,0,none⟩))) (h8:kH w b8 (.int .i64 ld)) (h11:kH w b11 v) (hr:BU w v l):
  Pure Tryz.prog 224 #[.pointer (some ⟨b11,0,none⟩),.pointer (some ⟨b8,0,none⟩),.pointer (some ⟨b6,0,none⟩)] w (.bool (!(aH.jZ m.form.aK l&&decide (ld∈l)))):=by
 obtain⟨l6,x6⟩:=h6
 obtain⟨l8,x8⟩:=h8
 obtain⟨l11,x11⟩:=h11
 obtain⟨hlt,c0,-,-⟩:=h.cells
 have HR:=Zh hr
 obtain⟨A0,c,rfl,hc,jT,HC⟩:=hr.int
 clear hr h
 by_cases ha:l.Pairwise (· < ·)
 ·have HRI:Hid (vG l=true):=Zh (by rw[Ls,decide_eq_true ha])
  by_cases hb:ld∈l
  ·have Jz:Hid (decide (ld∈l)=true):=Zh (by simp[hb])
   have aaA:0<l.length:=List.length_pos_of_mem hb
   obtain⟨x0,b0,o0,HX0,jg,hb0,d0⟩:=HC 0 aaA
   obtain⟨xl,bl,ol,HXl,hAl,Js,dl⟩:=HC (l.length-1) (by omega)
   subst jg
   cases hAl
   have e:(!(aH.jZ m.form.aK l&&decide (ld∈l)))= !(decide (0≤x0)&&decide (xl<m.form.aK)):=by
    unfold aH.jZ
    rw[Zl ha HX0.out HXl.out,decide_eq_true ha,Jz.out,Bool.and_true,Bool.and_true]
   rw[e]
   have hp0:(0:Int)<l.length:=by omega
   obtain⟨q,hq⟩:∃ q:Nat,q=l.length-1:=⟨_,rfl⟩
   have hq1:(l.length:Int)-1=(q:Int):=by omega
   have jM:(q:Int)<l.length:=by omega
   rw[←hq]at dl
   rw[Nat.add_zero]at d0
   clear e ha hb hq
   by_cases h1:x0<0
   ·have e:(!(decide (0≤x0)&&decide (xl<m.form.aK)))=true:=by simp;omega
    rw[e]
    clear e
    refine Fi (n:=33) Tryz.func224 ?_;intro A hd hA;simp only[ix,Nat.reduceAdd]
    repeat'(first|refine aF ?_|refine au ?_|refine ak (λK hK=>?_)|refine aj ?_|go_step)
    refine dn [(0,0),(1,1),(2,0),(3,0),(4,0),(5,0),(6,1),(7,0),(8,0),(9,0),(10,0),(11,0),(12,0),(13,0),(14,0),(15,0),(16,0),(17,0),(18,0),(19,0),(20,0),(21,0),(22,0),(23,0),(24,0),(25,0),(26,0),(27,0),(28,0),(29,0)] (by kernel_rfl) (by kernel_rfl) ?_
    repeat'(first|(refine dN Tryz.func225 (λz=>HRI.out▸sN l _ _ (HR.out.ah (by simp))) ?_)|(refine dN Tryz.func148 (λz=>Jz.out▸eX l _ ld _ (HR.out.ah (by simp))) ?_)|refine dw ?_|refine aF ?_|refine mg ?_|refine jF ?_|refine aQ ?_|refine aC ?_|go_step)
    exact aA hd ⟨rfl,by simp⟩
   ·by_cases h2:m.form.aK≤xl
    ·have e:(!(decide (0≤x0)&&decide (xl<m.form.aK)))=true:=by simp;omega
     rw[e]
     clear e
     refine Fi (n:=33) Tryz.func224 ?_;intro A hd hA;simp only[ix,Nat.reduceAdd]
     repeat'(first|refine aF ?_|refine au ?_|refine ak (λK hK=>?_)|refine aj ?_|go_step)
     refine dn [(0,0),(1,1),(2,0),(3,0),(4,0),(5,0),(6,1),(7,0),(8,0),(9,0),(10,0),(11,0),(12,0),(13,0),(14,0),(15,0),(16,0),(17,0),(18,0),(19,0),(20,0),(21,0),(22,0),(23,0),(24,0),(25,0),(26,0),(27,0),(28,0),(29,0)] (by kernel_rfl) (by kernel_rfl) ?_
     repeat'(first|(refine dN Tryz.func225 (λz=>HRI.out▸sN l _ _ (HR.out.ah (by simp))) ?_)|(refine dN Tryz.func148 (λz=>Jz.out▸eX l _ ld _ (HR.out.ah (by simp))) ?_)|refine dw ?_|refine aF ?_|refine aQ ?_|refine aC ?_|go_step)
     exact aA hd ⟨rfl,by simp⟩
    ·have e:(!(decide (0≤x0)&&decide (xl<m.form.aK)))=false:=by simp;omega
     rw[e]
     clear e
     refine Fi (n:=33) Tryz.func224 ?_;intro A hd hA;simp only[ix,Nat.reduceAdd]
     repeat'(first|refine aF ?_|refine au ?_|refine ak (λK hK=>?_)|refine aj ?_|go_step)
     refine dn [(0,0),(1,1),(2,0),(3,0),(4,0),(5,0),(6,1),(7,0),(8,0),(9,0),(10,0),(11,0),(12,0),(13,0),(14,0),(15,0),(16,0),(17,0),(18,0),(19,0),(20,0),(21,0),(22,0),(23,0),(24,0),(25,0),(26,0),(27,0),(28,0),(29,0)] (by kernel_rfl) (by kernel_rfl) ?_
     repeat'(first|(refine dN Tryz.func225 (λz=>HRI.out▸sN l _ _ (HR.out.ah (by simp))) ?_)|(refine dN Tryz.func148 (λz=>Jz.out▸eX l _ ld _ (HR.out.ah (by simp))) ?_)|refine dw ?_|refine aF ?_|refine aQ ?_|refine aC ?_|go_step)
     exact aA hd ⟨rfl,by simp⟩
  ·have Jz:Hid (decide (ld∈l)=false):=Zh (by simp[hb])
   have e:(!(aH.jZ m.form.aK l&&decide (ld∈l)))=true:=by rw[Jz.out,Bool.and_false];rfl
   rw[e]
   clear e hb ha
   refine Fi (n:=33) Tryz.func224 ?_;intro A hd hA;simp only[ix,Nat.reduceAdd]
   repeat'(first|refine aF ?_|refine au ?_|refine ak (λK hK=>?_)|refine aj ?_|go_step)
   refine dn [(0,0),(1,1),(2,0),(3,0),(4,0),(5,0),(6,1),(7,0),(8,0),(9,0),(10,0),(11,0),(12,0),(13,0),(14,0),(15,0),(16,0),(17,0),(18,0),(19,0),(20,0),(21,0),(22,0),(23,0),(24,0),(25,0),(26,0),(27,0),(28,0),(29,0)] (by kernel_rfl) (by kernel_rfl) ?_
   repeat'(first|(refine dN Tryz.func225 (λz=>HRI.out▸sN l _ _ (HR.out.ah (by simp))) ?_)|(refine dN Tryz.func148 (λz=>Jz.out▸eX l _ ld _ (HR.out.ah (by simp))) ?_)|refine dw ?_|refine aF ?_|refine mg ?_|refine jF ?_|refine aQ ?_|refine aC ?_|go_step)
   exact aA hd ⟨rfl,by simp⟩
 ·have HRI:Hid (vG l=false):=Zh (by rw[Ls,decide_eq_false ha])
  have e:(!(aH.jZ m.form.aK l&&decide (ld∈l)))=true:=by unfold aH.jZ;rw[decide_eq_false ha,Bool.and_false,Bool.false_and];rfl
  rw[e]
  clear e ha
  refine Fi (n:=33) Tryz.func224 ?_;intro A hd hA;simp only[ix,Nat.reduceAdd]
  repeat'(first|refine aF ?_|refine au ?_|refine ak (λK hK=>?_)|refine aj ?_|go_step)
  refine dn [(0,0),(1,1),(2,0),(3,0),(4,0),(5,0),(6,1),(7,0),(8,0),(9,0),(10,0),(11,0),(12,0),(13,0),(14,0),(15,0),(16,0),(17,0),(18,0),(19,0),(20,0),(21,0),(22,0),(23,0),(24,0),(25,0),(26,0),(27,0),(28,0),(29,0)] (by kernel_rfl) (by kernel_rfl) ?_
  repeat'(first|(refine dN Tryz.func225 (λz=>HRI.out▸sN l _ _ (HR.out.ah (by simp))) ?_)|(refine pq ?_)|refine aF ?_|refine mg ?_|refine jF ?_|refine aQ ?_|refine aC ?_|go_step)
  exact aA hd ⟨rfl,by simp⟩
def SI (p:Prop) (w:World) (v:Value) (c:Bool):Prop:=p→qZ w v c
theorem SI.ah {p:Prop} {w w':World} {v:Value} {c:Bool} (h:SI p w v c) (hE:aB w w'):SI p w' v c:=λq=>(h q).ah hE
theorem Gs {m:aH} {isr:List Int} {q:Bool} (h:(!(aH.jZ m.form.aK isr&&q))=false):∀ x∈isr,m.aV x=true:=by
 intro x hx
 have h1:aH.jZ m.form.aK isr=true:=by
  cases h2:aH.jZ m.form.aK isr with
  | true=>rfl
  | false=>rw[h2,Bool.false_and]at h;cases h
 unfold aH.jZ at h1
 simp only[Bool.and_eq_true,List.all_eq_true]at h1
 exact by simpa [aH.aV] using h1.1 x hx
theorem OD {m:aH} {p ld ep ver:Int} {isr:List Int} {f4 f5 f6 f7:Value} {a1:Addr} (hp:m.part p=true) (hx:m.aV ld=true):
  fA [(f4,!(aH.jZ m.form.aK isr&&decide (ld∈isr)),2),(f5,(m.view p).leader != ld||(m.view p).epoch != ep||(m.view p).version != ver,200),(f6,!isr.all m.sG,201),(f7,[(a1,(m.view p).version)].any λx=>decide (bQ≤x.2),204)]=m.nS p ld ep ver isr:=by
 have e:([(a1,(m.view p).version)].any λx=>decide (bQ≤x.2))=decide (bQ≤(m.view p).version):=by simp[List.any_cons]
 rw[e]
 have e2:(m.part p&&m.aV ld)=true:=by rw[hp,hx];rfl
 have e3:((m.view p).leader != ld||(m.view p).epoch != ep||(m.view p).version != ver)=decide ((m.view p).leader≠ld∨(m.view p).epoch≠ep∨(m.view p).version≠ver):=by
  rw[Bool.eq_iff_iff];simp[or_assoc]
 rw[e3]
 unfold aH.nS
 rw[e2,if_neg (by decide)]
 generalize (aH.jZ m.form.aK isr&&decide (ld∈isr))=q
 generalize isr.all m.sG=r
 by_cases h3:(m.view p).leader≠ld∨(m.view p).epoch≠ep∨(m.view p).version≠ver
 ·rw[if_pos h3,decide_eq_true h3]
  cases q<;>rfl
 ·rw[if_neg h3,decide_eq_false h3]
  by_cases h4:bQ≤(m.view p).version
  ·rw[if_pos h4,decide_eq_true h4]
   cases q<;>cases r<;>rfl
  ·rw[if_neg h4,decide_eq_false h4]
   cases q<;>cases r<;>rfl
theorem VN {w:World} {b:Nat} {F:Nat→Prop} {m:aH} {v:Value} {isr:List Int} (p ld ep ver:Int) (h:gX w b F m) (hr:BU w v isr) (iR:isr.length≤1000000):gK Tryz.prog 175 #[.pointer (some ⟨b,0,none⟩),.int .i64 p,.int .i64 ld,.int .i64 ep,.int .i64 ver,v] w λr w'=>r=.int .i64 (m.nS p ld ep ver isr)∧wS w b F (m.alter p ld ep ver isr) w':=by
 have HH:=Zh h
 have HR:=Zh hr
 obtain⟨Ai,ci,rfl,-⟩:=hr.int
 clear hr
 by_cases hq:(m.part p&&m.aV ld)=true
 ·have jM:m.part p=true∧m.aV ld=true:=by simpa using hq
  obtain⟨k,rfl⟩:∃ k:Nat,p=k:=⟨p.toNat,by have h:=jM.1;simp only[aH.part,Bool.and_eq_true,decide_eq_true_eq]at h;omega⟩
  have HP:Hid (m.part (k:Int)=true):=Zh jM.1
  have QF:Hid (m.aV ld=true):=Zh jM.2
  by_cases hz:m.nS (k:Int) ld ep ver isr=0
  ·have bP:m.alter (k:Int) ld ep ver isr=m.nP (k:Int) {m.view (k:Int) with isr:=isr,version:=(m.view (k:Int)).version+1}:=by simp[aH.alter,hz]
   have Fv:=Le h.bU (k:Int) ld ep ver isr
   rw[bP]at Fv
   rw[hz,bP]
   have HZ:=Zh hz
   have HG:=Zh (h.bU.view jM.1)
   have Qc:=Zh Fv
   clear bP Fv h jM hq hz
   refine Fi (n:=65) Tryz.func175 ?_;intro A hd hA;simp only[ix,Nat.reduceAdd]
   (repeat'(first|refine ak (λK hK=>?_)|refine aj ?_|fail));(refine dI (λx K hK=>?_);go_simp;refine hK _ _ (aB.alloc _ _) ?_;clear hK K;refine aZ x ?_;generalize (World.ah _ x).heap.size=b6;intro yn aU bD bC bG aS;clear x);have wC:=Zh (cO.new aS.out);have ng:=Zh yn.ext;have DU:(World.heap w).size≤b6:=aU;generalize World.ah w yn=W0 at *;clear aU bD bC bG aS yn
   (skip);(refine dI (λx K hK=>?_);go_simp;refine hK _ _ (aB.alloc _ _) ?_;clear hK K;refine aZ x ?_;generalize (World.ah _ x).heap.size=b8;intro yn aU bD bC bG aS;clear x);have SK:=Zh (cO.new aS.out);have yZ:=Zh yn.ext;have SL:(World.heap W0).size≤b8:=aU;generalize World.ah W0 yn=W1 at *;clear aU bD bC bG aS yn
   (skip);(refine dI (λx K hK=>?_);go_simp;refine hK _ _ (aB.alloc _ _) ?_;clear hK K;refine aZ x ?_;generalize (World.ah _ x).heap.size=b9;intro yn aU bD bC bG aS;clear x);have yY:=Zh (cO.new aS.out);have ni:=Zh yn.ext;have DV:(World.heap W1).size≤b9:=aU;generalize World.ah W1 yn=W2 at *;clear aU bD bC bG aS yn
   (skip);(refine dI (λx K hK=>?_);go_simp;refine hK _ _ (aB.alloc _ _) ?_;clear hK K;refine aZ x ?_;generalize (World.ah _ x).heap.size=b10;intro yn aU bD bC bG aS;clear x);have I5:=Zh (cO.new aS.out);have rU:=Zh yn.ext;have I7:(World.heap W2).size≤b10:=aU;generalize World.ah W2 yn=W3 at *;clear aU bD bC bG aS yn
   (skip);(refine dI (λx K hK=>?_);go_simp;refine hK _ _ (aB.alloc _ _) ?_;clear hK K;refine aZ x ?_;generalize (World.ah _ x).heap.size=b11;intro yn aU bD bC bG aS;clear x);have I8:=Zh (cO.new aS.out);have rV:=Zh yn.ext;have I9:(World.heap W3).size≤b11:=aU;generalize World.ah W3 yn=W4 at *;clear aU bD bC bG aS yn
   have sD:=Et ng.out (Et yZ.out (Et ni.out (Et rU.out rV.out)))
   have HE:=Zh sD
   have gQ:=Zh ((kH.of wC.out Nat.zero_lt_one rfl).ah (Et yZ.out (Et ni.out (Et rU.out (rV.out)))))
   have tq:=Zh ((kH.of SK.out Nat.zero_lt_one rfl).ah (Et ni.out (Et rU.out (rV.out))))
   have iG:=Zh ((kH.of yY.out Nat.zero_lt_one rfl).ah (Et rU.out (rV.out)))
   have jV:=Zh ((kH.of I5.out Nat.zero_lt_one rfl).ah (rV.out))
   have jR:=Zh ((kH.of I8.out Nat.zero_lt_one rfl))
   have hw6:w.heap.size≤b6:=DU
   have hw8:w.heap.size≤b8:=Nat.le_trans (ng.out).size SL
   have hw9:w.heap.size≤b9:=Nat.le_trans (Et (ng.out) yZ.out).size DV
   have akG:w.heap.size≤b10:=Nat.le_trans (Et (Et (ng.out) yZ.out) ni.out).size I7
   have akH:w.heap.size≤b11:=Nat.le_trans (Et (Et (Et (ng.out) yZ.out) ni.out) rU.out).size I9
   clear sD wC ng DU SK yZ SL yY ni DV I5 rU I7 I8 rV I9
   obtain⟨l6,x6⟩:=gQ.out
   obtain⟨l8,x8⟩:=tq.out
   repeat'(first|refine aF ?_|refine au ?_|refine ak (λK hK=>?_)|go_step)
   refine dn [(0,0),(2,0),(3,0),(5,0),(6,0),(1,1),(4,1),(7,1),(8,1),(9,1),(10,0)] (by kernel_rfl) (by kernel_rfl) ?_
   repeat'(first|refine aF ?_|fail)
   refine fF (R:=λw0 r w'=>aB w0 w'∧∃ f,r=.agg #[f,.int .i64 1]∧qZ w' f (false)) Tryz.func63 (λz=>dK (c:=false) (λw' hE=>(HH.out.ah (Et (Et HE.out z.ext) hE)).some)) (λz r w1 hR=>⟨hR.1,?_⟩)
   obtain⟨hE,f1,rfl,hC⟩:=hR
   replace hE:=Et z.ext hE
   replace HE:=Zh (Et HE.out hE)
   replace gQ:=Zh (gQ.out.ah hE)
   replace tq:=Zh (tq.out.ah hE)
   replace iG:=Zh (iG.out.ah hE)
   replace jV:=Zh (jV.out.ah hE)
   replace jR:=Zh (jR.out.ah hE)
   have gY:=Zh hC
   clear hE hC
   skip
   refine fF (R:=λw0 r w'=>aB w0 w'∧∃ f,r=.agg #[f,.int .i64 2]∧qZ w' f (!m.part (k:Int))) Tryz.func64 (λz=>iF (k:Int) (HH.out.ah (Et HE.out z.ext))) (λz r w1 hR=>⟨hR.1,?_⟩)
   obtain⟨hE,f2,rfl,hC⟩:=hR
   replace hE:=Et z.ext hE
   replace HE:=Zh (Et HE.out hE)
   replace gQ:=Zh (gQ.out.ah hE)
   replace tq:=Zh (tq.out.ah hE)
   replace iG:=Zh (iG.out.ah hE)
   replace jV:=Zh (jV.out.ah hE)
   replace jR:=Zh (jR.out.ah hE)
   replace gY:=Zh (gY.out.ah hE)
   have kG:=Zh hC
   clear hE hC
   skip
   refine fF (R:=λw0 r w'=>aB w0 w'∧∃ f,r=.agg #[f,.int .i64 2]∧qZ w' f (!m.aV ld)) Tryz.func155 (λz=>iw ld (HH.out.ah (Et HE.out z.ext))) (λz r w1 hR=>⟨hR.1,?_⟩)
   obtain⟨hE,f3,rfl,hC⟩:=hR
   replace hE:=Et z.ext hE
   replace HE:=Zh (Et HE.out hE)
   replace gQ:=Zh (gQ.out.ah hE)
   replace tq:=Zh (tq.out.ah hE)
   replace iG:=Zh (iG.out.ah hE)
   replace jV:=Zh (jV.out.ah hE)
   replace jR:=Zh (jR.out.ah hE)
   replace gY:=Zh (gY.out.ah hE)
   replace kG:=Zh (kG.out.ah hE)
   have mZ:=Zh hC
   clear hE hC
   obtain⟨a,Qd,hF⟩:=HH.out
   have Lr:=Zh Qd.lt
   have jg:=Qd.ah HE.out
   clear Qd
   obtain⟨u,hu⟩:=jg.view HP.out
   rw[Int.toNat_natCast]at hu
   obtain⟨g,c,iZ,Dq,jT,hv⟩:=jg.views.Bf hu
   obtain⟨hlt,-,-,-,-,c4,-⟩:=jg.cells
   rw[iZ]at c4
   have kS:k<a.vs.length:=(Ge hu).1
   have sZ:(k:Int)<a.vs.length:=by omega
   obtain⟨vM,yw⟩:=jg.isr _ _ hu
   dsimp only at vM yw
   have jq:=Zh vM
   have JV:=Zh yw
   have hgw:g<w.heap.size:=Lr.out g (by rw[jg.tV g (by rw[iZ];rfl)];decide)
   have HPW:Hid (∀q,u.ownBlock=some q→q<w.heap.size):=Zh (λq hq=>Lr.out q (by rw[yw q hq];omega))
   have xH:=Zh iZ
   have HU:=Zh hu
   have HW:=Zh hv
   have HA:=Zh jg
   have HF:=Zh hF
   clear jg hF iZ hu hv vM yw
   clear x6 l6 x8 l8
   obtain⟨l6,x6⟩:=gQ.out
   obtain⟨l8,x8⟩:=tq.out
   repeat'(first|(refine dN Tryz.func62 (λz=>dD (xs:=[(f1,false,1),(f2,!m.part (k:Int),2),(f3,!m.aV ld,2)]) (n:=0) ((dW _ aS rfl (by unfold maxLen;simp)).ah z.ext) (dF.cons (gY.out.ah (Et (by simp) z.ext)) (dF.cons (kG.out.ah (Et (by simp) z.ext)) (dF.cons (mZ.out.ah (Et (by simp) z.ext)) dF.nil))) (by simp[fA,HP.out,QF.out])) ?_)|refine aF ?_|refine aQ ?_|refine au ?_|refine ak (λK hK=>?_)|refine aj ?_|refine aG ?_|(refine dI (λx K hK=>?_);go_simp;refine hK _ _ (aB.alloc _ _) ?_;clear hK K;refine aZ x ?_;generalize (World.ah _ x).heap.size=bn;intro yn aU bD bC bG aS;clear x)|refine bJ ?_|go_step)
   clear gY kG mZ
   clear c4 hlt x6 l6 x8 l8
   have CO:b6<bn∧b8<bn∧b9<bn∧b10<bn∧b11<bn:=⟨Nat.lt_of_lt_of_le gQ.out.1 (Nat.le_trans (gJ (by simp)) aU),Nat.lt_of_lt_of_le tq.out.1 (Nat.le_trans (gJ (by simp)) aU),Nat.lt_of_lt_of_le iG.out.1 (Nat.le_trans (gJ (by simp)) aU),Nat.lt_of_lt_of_le jV.out.1 (Nat.le_trans (gJ (by simp)) aU),Nat.lt_of_lt_of_le jR.out.1 (Nat.le_trans (gJ (by simp)) aU)⟩
   obtain⟨b14,Iu⟩:∃ q:Nat,q=bn:=⟨_,rfl⟩
   subst Iu
   have oC:=Zh (cO.new aS.out)
   have aoJ:w.heap.size≤b14:=Nat.le_trans HE.out.size (Nat.le_trans (gJ (by simp)) aU)
   have fE:aB w1 (World.ah _ yn):=by simp
   generalize World.ah _ yn=V0 at *
   clear aU bD bC bG aS
   replace HE:=Zh (Et HE.out fE)
   replace gQ:=Zh (gQ.out.ah fE)
   replace tq:=Zh (tq.out.ah fE)
   replace iG:=Zh (iG.out.ah fE)
   replace jV:=Zh (jV.out.ah fE)
   replace jR:=Zh (jR.out.ah fE)
   replace HA:=Zh (HA.out.ah fE)
   replace HW:=Zh (HW.out.ah fE)
   replace jq:=Zh (jq.out.ah fE)
   clear fE
   refine aY (off:=0) oC.out (λV1 fM nU=>?_)
   replace HE:=Zh (aB.bK HE.out fM (λq hq=>by subst hq;omega))
   replace gQ:=Zh (gQ.out.aW fM (λe=>by have:=CO;omega))
   replace tq:=Zh (tq.out.aW fM (λe=>by have:=CO;omega))
   replace iG:=Zh (iG.out.aW fM (λe=>by have:=CO;omega))
   replace jV:=Zh (jV.out.aW fM (λe=>by have:=CO;omega))
   replace jR:=Zh (jR.out.aW fM (λe=>by have:=CO;omega))
   replace oC:Hid (kH V1 b14 (.pointer (some ⟨g,k *4,none⟩))):=Zh (kH.of nU Nat.zero_lt_one rfl)
   replace HA:=Zh (HA.out.aW fM (λq hq e=>by have:=Lr.out q hq;omega))
   replace HW:=Zh (HW.out.aW fM (by omega))
   replace jq:=Zh (jq.out.aW fM (λq hq e=>by have:=HPW.out q hq;omega))
   clear fM nU
   repeat'(first|refine aF ?_|refine au ?_|refine ak (λK hK=>?_)|refine aj ?_|(refine dI (λx K hK=>?_);go_simp;refine hK _ _ (aB.alloc _ _) ?_;clear hK K;refine aZ x ?_;generalize (World.ah _ x).heap.size=bn;intro yn aU bD bC bG aS;clear x)|go_step)
   have zf:b6<bn∧b8<bn∧b9<bn∧b10<bn∧b11<bn∧b14<bn:=⟨Nat.lt_of_lt_of_le gQ.out.1 (Nat.le_trans (gJ (by simp)) aU),Nat.lt_of_lt_of_le tq.out.1 (Nat.le_trans (gJ (by simp)) aU),Nat.lt_of_lt_of_le iG.out.1 (Nat.le_trans (gJ (by simp)) aU),Nat.lt_of_lt_of_le jV.out.1 (Nat.le_trans (gJ (by simp)) aU),Nat.lt_of_lt_of_le jR.out.1 (Nat.le_trans (gJ (by simp)) aU),Nat.lt_of_lt_of_le oC.out.1 (Nat.le_trans (gJ (by simp)) aU)⟩
   obtain⟨b15,Iu⟩:∃ q:Nat,q=bn:=⟨_,rfl⟩
   subst Iu
   have EZ:=Zh (cO.new aS.out)
   have aoK:w.heap.size≤b15:=Nat.le_trans HE.out.size (Nat.le_trans (gJ (by simp)) aU)
   have fE:aB V1 (World.ah _ yn):=by simp
   generalize World.ah _ yn=V2 at *
   clear aU bD bC bG aS
   replace HE:=Zh (Et HE.out fE)
   replace gQ:=Zh (gQ.out.ah fE)
   replace tq:=Zh (tq.out.ah fE)
   replace iG:=Zh (iG.out.ah fE)
   replace jV:=Zh (jV.out.ah fE)
   replace jR:=Zh (jR.out.ah fE)
   replace HA:=Zh (HA.out.ah fE)
   replace HW:=Zh (HW.out.ah fE)
   replace jq:=Zh (jq.out.ah fE)
   replace oC:=Zh (oC.out.ah fE)
   clear fE
   refine aY (off:=0) EZ.out (λV3 fM nU=>?_)
   replace HE:=Zh (aB.bK HE.out fM (λq hq=>by subst hq;omega))
   replace gQ:=Zh (gQ.out.aW fM (λe=>by have:=zf;omega))
   replace tq:=Zh (tq.out.aW fM (λe=>by have:=zf;omega))
   replace iG:=Zh (iG.out.aW fM (λe=>by have:=zf;omega))
   replace jV:=Zh (jV.out.aW fM (λe=>by have:=zf;omega))
   replace jR:=Zh (jR.out.aW fM (λe=>by have:=zf;omega))
   replace oC:=Zh (oC.out.aW fM (λe=>by have:=zf;omega))
   replace EZ:Hid (kH V3 b15 (.func (.func 223) #[] #[.pointer (some ⟨b6,0,none⟩)])):=Zh (kH.of nU Nat.zero_lt_one rfl)
   replace HA:=Zh (HA.out.aW fM (λq hq e=>by have:=Lr.out q hq;omega))
   replace HW:=Zh (HW.out.aW fM (by omega))
   replace jq:=Zh (jq.out.aW fM (λq hq e=>by have:=HPW.out q hq;omega))
   clear fM nU
   obtain⟨XT,x14⟩:=oC.out
   have Ir:=Zh (HR.out.ah HE.out)
   have sJ:Hid (tJ V3 [((⟨g,k *4+2,none⟩:Addr),(m.view (k:Int)).version)]):=Zh (λy hy=>by
    obtain rfl:=List.mem_singleton.1 hy
    exact⟨g,k *4+2,rfl,HW.out.lt,HW.out.c2⟩)
   have JW:Hid (qZ V3 (.func (.func 224) #[] #[.pointer (some ⟨b11,0,none⟩),.pointer (some ⟨b8,0,none⟩),.pointer (some ⟨b6,0,none⟩)]) (!(aH.jZ m.form.aK isr&&decide (ld∈isr)))):=Zh ⟨_,_,_,_,rfl,Tryz.func224,by kernel_rfl,λw' hE=>LC (F:=λq=>a.T q≠0) ⟨a,HA.out.ah hE,λ_ h=>h⟩ (gQ.out.ah hE) (tq.out.ah hE) (jR.out.ah hE) (Ir.out.ah hE)⟩
   have JX:Hid (qZ V3 (.func (.func 226) #[] #[.pointer (some ⟨b14,0,none⟩),.pointer (some ⟨b8,0,none⟩),.pointer (some ⟨b9,0,none⟩),.pointer (some ⟨b10,0,none⟩)]) ((m.view (k:Int)).leader != ld||(m.view (k:Int)).epoch != ep||(m.view (k:Int)).version != ver)):=Zh ⟨_,_,_,_,rfl,Tryz.func226,by kernel_rfl,λw' hE=>Gq (oC.out.ah hE) (tq.out.ah hE) (iG.out.ah hE) (jV.out.ah hE) (HW.out.ah hE)⟩
   have HK6:Hid (SI (∀x∈isr,m.aV x=true) V3 (.func (.func 227) #[] #[.pointer (some ⟨b11,0,none⟩),.pointer (some ⟨b15,0,none⟩)]) (!isr.all m.sG)):=Zh (λjB=>⟨_,_,_,_,rfl,Tryz.func227,by kernel_rfl,λw' hE=>Gp (F:=λq=>a.T q≠0) ⟨a,HA.out.ah hE,λ_ h=>h⟩ jB (gQ.out.ah hE) (jR.out.ah hE) (EZ.out.ah hE) (Ir.out.ah hE)⟩)
   repeat'(first|refine aF ?_|refine au ?_|refine ak (λK hK=>?_)|refine aj ?_|(refine dI (λx K hK=>?_);go_simp;refine hK _ _ (aB.alloc _ _) ?_;clear hK K;refine aZ x ?_;generalize (World.ah _ x).heap.size=bn;intro yn aU bD bC bG aS;clear x)|go_step)
   refine aX Tryz.func146 (je (xs:=[((⟨g,k *4+2,none⟩:Addr),(m.view (k:Int)).version)]) (qw [((⟨g,k *4+2,none⟩:Addr),(m.view (k:Int)).version)] aS rfl (by unfold maxLen;simp)) (sJ.out.ah (by simp))) (λr w1 hR=>?_)
   obtain⟨hE,f4,rfl,hC⟩:=hR
   replace hE:=Et (show aB V3 _ from by simp) hE
   replace HE:=Zh (Et HE.out hE)
   replace gQ:=Zh (gQ.out.ah hE)
   replace tq:=Zh (tq.out.ah hE)
   replace iG:=Zh (iG.out.ah hE)
   replace jV:=Zh (jV.out.ah hE)
   replace jR:=Zh (jR.out.ah hE)
   replace HA:=Zh (HA.out.ah hE)
   replace HW:=Zh (HW.out.ah hE)
   replace jq:=Zh (jq.out.ah hE)
   replace oC:=Zh (oC.out.ah hE)
   replace EZ:=Zh (EZ.out.ah hE)
   replace sJ:=Zh (sJ.out.ah hE)
   replace JW:=Zh (JW.out.ah hE)
   replace JX:=Zh (JX.out.ah hE)
   replace HK6:=Zh (HK6.out.ah hE)
   replace Ir:=Zh (Ir.out.ah hE)
   have FH:=Zh hC
   clear hE hC
   clear x14 XT
   obtain⟨XT,x14⟩:=oC.out
   repeat'(first|refine aN Tryz.func62 (I4 (xs:=[(.func (.func 224) #[] #[.pointer (some ⟨b11,0,none⟩),.pointer (some ⟨b8,0,none⟩),.pointer (some ⟨b6,0,none⟩)],!(aH.jZ m.form.aK isr&&decide (ld∈isr)),2),(.func (.func 226) #[] #[.pointer (some ⟨b14,0,none⟩),.pointer (some ⟨b8,0,none⟩),.pointer (some ⟨b9,0,none⟩),.pointer (some ⟨b10,0,none⟩)],(m.view (k:Int)).leader != ld||(m.view (k:Int)).epoch != ep||(m.view (k:Int)).version != ver,200),(.func (.func 227) #[] #[.pointer (some ⟨b11,0,none⟩),.pointer (some ⟨b15,0,none⟩)],!isr.all m.sG,201),(f4,[((⟨g,k *4+2,none⟩:Addr),(m.view (k:Int)).version)].any λx=>decide (bQ≤x.2),204)]) (n:=0) (dW _ aS rfl (by unfold maxLen;simp)) ⟨JW.out.ah (by simp),λe1=>⟨JX.out.ah (by simp),λ_=>⟨(HK6.out (Gs e1)).ah (by simp),λ_=>⟨FH.out.ah (by simp),λ_=>trivial⟩⟩⟩⟩ ((OD HP.out QF.out).trans HZ.out)) ?_|refine aF ?_|refine au ?_|refine ak (λK hK=>?_)|refine aj ?_|refine aG ?_|(refine dI (λx K hK=>?_);go_simp;refine hK _ _ (aB.alloc _ _) ?_;clear hK K;refine aZ x ?_;generalize (World.ah _ x).heap.size=bn;intro yn aU bD bC bG aS;clear x)|refine bJ ?_|go_step)
   clear sJ JW JX HK6 FH
   have fE:aB w1 (w1.ah yn):=by simp
   clear aU bD bC bG aS XT x14
   generalize World.ah w1 yn=V4 at *
   replace HE:=Zh (Et HE.out fE)
   replace gQ:=Zh (gQ.out.ah fE)
   replace tq:=Zh (tq.out.ah fE)
   replace iG:=Zh (iG.out.ah fE)
   replace jV:=Zh (jV.out.ah fE)
   replace jR:=Zh (jR.out.ah fE)
   replace HA:=Zh (HA.out.ah fE)
   replace HW:=Zh (HW.out.ah fE)
   replace jq:=Zh (jq.out.ah fE)
   replace oC:=Zh (oC.out.ah fE)
   replace EZ:=Zh (EZ.out.ah fE)
   replace Ir:=Zh (Ir.out.ah fE)
   clear fE
   obtain⟨l11,x11⟩:=jR.out
   obtain⟨XT,x14⟩:=oC.out
   obtain⟨lg,e0,e1,e2,e3⟩:=HW.out
   dsimp only at e0 e1 e2 e3
   have Xh:(m.view (k:Int)).version+1<9223372036854775808:=by have:=HG.out.version;unfold bQ at this;omega
   have hx4:0≤(m.view (k:Int)).version:=HG.out.version.1
   refine dn [(0,0),(1,0),(2,1),(3,0),(4,0),(5,2)] (by kernel_rfl) (by kernel_rfl) ?_
   repeat'(first|refine aF ?_|fail)
   refine fF (R:=λw0 r w'=>aB w0 w'∧ig w' r isr∧∀ q,r.ownBlock=some q→w0.heap.size≤q) Tryz.func65 (λz=>fH (Ir.out.ah z.ext) iR) (λz r V5 hR=>⟨hR.1,?_⟩)
   obtain⟨jY,vS,BF⟩:=hR
   have Kr:=(Et HE.out z.ext).size
   have Ot:Hid (∀q,r.ownBlock=some q→w.heap.size≤q):=Zh (λq hq=>Nat.le_trans Kr (BF q hq))
   have rH:Hid (ig V5 r isr):=Zh vS
   replace jY:=Et z.ext jY
   obtain⟨A5,m5,c5,rfl⟩:=aT vS
   clear vS BF Kr lg e0 e1 e2 e3 l11 x11 XT x14
   replace HE:=Zh (Et HE.out jY)
   replace gQ:=Zh (gQ.out.ah jY)
   replace tq:=Zh (tq.out.ah jY)
   replace iG:=Zh (iG.out.ah jY)
   replace jV:=Zh (jV.out.ah jY)
   replace jR:=Zh (jR.out.ah jY)
   replace HA:=Zh (HA.out.ah jY)
   replace HW:=Zh (HW.out.ah jY)
   replace jq:=Zh (jq.out.ah jY)
   replace oC:=Zh (oC.out.ah jY)
   replace EZ:=Zh (EZ.out.ah jY)
   replace Ir:=Zh (Ir.out.ah jY)
   clear jY z
   have HO:Hid (dQ Pm 4 45 V5 (.slice (some ⟨g,0,none⟩) a.vs.length c) (a.vs.set k (m.view (k:Int),u))):=Zh (by have h:=HA.out.views;rw[xH.out]at h;rw[uJ HU.out];exact h)
   have HM:Hid (bF (λq=>q=g) V5 V5):=Zh (bF.refl _ _)
   obtain⟨g',c',jf,-,-,hw⟩:=HO.out.Bf (List.getElem?_set_self kS)
   simp only[List.length_set]at jf
   cases jf
   obtain⟨lg,e0,e1,e2,e3⟩:=hw
   try dsimp only at e0 e1 e2 e3
   obtain⟨XT,x14⟩:=oC.out
   repeat'(first|refine aF ?_|fail)
   refine kN (v:=.slice A5 m5 c5) k 3 (m.view (k:Int),u) ((⟨(m.view (k:Int)).leader,(m.view (k:Int)).epoch,(m.view (k:Int)).version,isr⟩:dL),(.slice A5 m5 c5)) HO.out (List.getElem?_set_self kS) (λ_=>rfl) (by simp[Value.cells]) (by intro j' u' h;have hj:j'<4:=(Ge h).1;rcases(show j'=0∨j'=1∨j'=2∨j'=3 by omega) with rfl|rfl|rfl|rfl<;>simpa [Value.cells] using h) (λWN hM hO=>?_)
   clear lg e0 e1 e2 e3
   rw[List.set_set]at hO
   replace HO:=Zh hO
   replace HM:=Zh (bF.trans HM.out hM (H:=λq=>q=g) (λ_ _ h=>h) (λq _ h=>h))
   replace oC:=Zh (oC.out.aW hM (by omega))
   replace rH:=Zh (rH.out.aW hM (λq hq e=>by have:=Ot.out q hq;omega))
   clear hM hO
   obtain⟨g',c',jf,-,-,hw⟩:=HO.out.Bf (List.getElem?_set_self kS)
   simp only[List.length_set]at jf
   cases jf
   obtain⟨lg,e0,e1,e2,e3⟩:=hw
   try dsimp only at e0 e1 e2 e3
   clear x14 XT
   obtain⟨XT,x14⟩:=oC.out
   repeat'(first|refine aF ?_|refine aQ ?_|refine ak (λK hK=>?_)|refine aj ?_|go_step)
   refine kN (v:=.int .i64 ((m.view (k:Int)).version+1)) k 2 ((⟨(m.view (k:Int)).leader,(m.view (k:Int)).epoch,(m.view (k:Int)).version,isr⟩:dL),(.slice A5 m5 c5)) ((⟨(m.view (k:Int)).leader,(m.view (k:Int)).epoch,(m.view (k:Int)).version+1,isr⟩:dL),(.slice A5 m5 c5)) HO.out (List.getElem?_set_self kS) (λ_=>rfl) (by simp[Value.cells]) (by intro j' u' h;have hj:j'<4:=(Ge h).1;rcases(show j'=0∨j'=1∨j'=2∨j'=3 by omega) with rfl|rfl|rfl|rfl<;>simpa [Value.cells] using h) (λWN hM hO=>?_)
   clear lg e0 e1 e2 e3
   rw[List.set_set]at hO
   replace HO:=Zh hO
   replace HM:=Zh (bF.trans HM.out hM (H:=λq=>q=g) (λ_ _ h=>h) (λq _ h=>h))
   replace oC:=Zh (oC.out.aW hM (by omega))
   replace rH:=Zh (rH.out.aW hM (λq hq e=>by have:=Ot.out q hq;omega))
   clear hM hO
   obtain⟨g',c',jf,-,-,hw⟩:=HO.out.Bf (List.getElem?_set_self kS)
   simp only[List.length_set]at jf
   cases jf
   obtain⟨lg,e0,e1,e2,e3⟩:=hw
   try dsimp only at e0 e1 e2 e3
   clear x14 XT
   obtain⟨XT,x14⟩:=oC.out
   repeat'(first|refine aF ?_|refine au ?_|refine ak (λK hK=>?_)|refine aj ?_|refine aC ?_|go_step)
   have lU:rJ m.form {m.view (k:Int) with isr:=isr,version:=(m.view (k:Int)).version+1}:=by
    have hw:=HA.out.xQ
    have Ym:=HA.out.bU.xQ
    exact Qc.out.views _ (List.mem_of_getElem? (i:=k) (by
     show (m.views.set ((k:Int)).toNat _)[k]? =_
     rw[Int.toNat_natCast]
     exact List.getElem?_set_self (by omega)))
   have Zk:=HA.out.tV g (by rw[xH.out];rfl)
   have QU:=HA.out.Sj (p:=(k:Int)) (v:={m.view (k:Int) with isr:=isr,version:=(m.view (k:Int)).version+1}) (u:=.slice A5 m5 c5) (T:=oP a.T (.slice A5 m5 c5) (8+k)) HP.out lU HM.out (λq _ h3 _ hq=>h3 (by subst hq;exact Zk)) (by rw[Int.toNat_natCast,xH.out];exact HO.out) rH.out
    (λq hq=>iW (λe=>by have:=Lr.out q hq;have:=Ot.out q e;omega)) (λq hq=>by rw[Int.toNat_natCast];exact sH hq) (λq hq=>by
     by_cases h1:(Value.slice A5 m5 c5).ownBlock=some q
     ·exact rH.out.lt q h1
     ·rw[iW h1]at hq
      exact Nat.lt_of_lt_of_le (HA.out.lt q hq) HM.out.size)
   exact aA hd ⟨rfl,QU.to HE.out HM.out (λq _ hq=>HF.out _ (by subst hq;omega)) (λq hq=>by
    by_cases h1:(Value.slice A5 m5 c5).ownBlock=some q
    ·right;exact Ot.out q h1
    ·left
     have nG:oP a.T (.slice A5 m5 c5) (8+k) q≠0:=hq
     rw[iW h1]at nG
     exact HF.out q nG)⟩
  ·have bP:m.alter (k:Int) ld ep ver isr=m:=by simp[aH.alter,hz]
   rw[bP]
   generalize ny:m.nS (k:Int) ld ep ver isr=E0 at *
   have aoH:(E0 != 0)=true:=by simp[hz]
   have BD:=Zh ny
   clear bP h jM hq ny hz
   refine Fi (n:=65) Tryz.func175 ?_;intro A hd hA;simp only[ix,Nat.reduceAdd]
   (repeat'(first|refine ak (λK hK=>?_)|refine aj ?_|fail));(refine dI (λx K hK=>?_);go_simp;refine hK _ _ (aB.alloc _ _) ?_;clear hK K;refine aZ x ?_;generalize (World.ah _ x).heap.size=b6;intro yn aU bD bC bG aS;clear x);have wC:=Zh (cO.new aS.out);have ng:=Zh yn.ext;have DU:(World.heap w).size≤b6:=aU;generalize World.ah w yn=W0 at *;clear aU bD bC bG aS yn
   (skip);(refine dI (λx K hK=>?_);go_simp;refine hK _ _ (aB.alloc _ _) ?_;clear hK K;refine aZ x ?_;generalize (World.ah _ x).heap.size=b8;intro yn aU bD bC bG aS;clear x);have SK:=Zh (cO.new aS.out);have yZ:=Zh yn.ext;have SL:(World.heap W0).size≤b8:=aU;generalize World.ah W0 yn=W1 at *;clear aU bD bC bG aS yn
   (skip);(refine dI (λx K hK=>?_);go_simp;refine hK _ _ (aB.alloc _ _) ?_;clear hK K;refine aZ x ?_;generalize (World.ah _ x).heap.size=b9;intro yn aU bD bC bG aS;clear x);have yY:=Zh (cO.new aS.out);have ni:=Zh yn.ext;have DV:(World.heap W1).size≤b9:=aU;generalize World.ah W1 yn=W2 at *;clear aU bD bC bG aS yn
   (skip);(refine dI (λx K hK=>?_);go_simp;refine hK _ _ (aB.alloc _ _) ?_;clear hK K;refine aZ x ?_;generalize (World.ah _ x).heap.size=b10;intro yn aU bD bC bG aS;clear x);have I5:=Zh (cO.new aS.out);have rU:=Zh yn.ext;have I7:(World.heap W2).size≤b10:=aU;generalize World.ah W2 yn=W3 at *;clear aU bD bC bG aS yn
   (skip);(refine dI (λx K hK=>?_);go_simp;refine hK _ _ (aB.alloc _ _) ?_;clear hK K;refine aZ x ?_;generalize (World.ah _ x).heap.size=b11;intro yn aU bD bC bG aS;clear x);have I8:=Zh (cO.new aS.out);have rV:=Zh yn.ext;have I9:(World.heap W3).size≤b11:=aU;generalize World.ah W3 yn=W4 at *;clear aU bD bC bG aS yn
   have sD:=Et ng.out (Et yZ.out (Et ni.out (Et rU.out rV.out)))
   have HE:=Zh sD
   have gQ:=Zh ((kH.of wC.out Nat.zero_lt_one rfl).ah (Et yZ.out (Et ni.out (Et rU.out (rV.out)))))
   have tq:=Zh ((kH.of SK.out Nat.zero_lt_one rfl).ah (Et ni.out (Et rU.out (rV.out))))
   have iG:=Zh ((kH.of yY.out Nat.zero_lt_one rfl).ah (Et rU.out (rV.out)))
   have jV:=Zh ((kH.of I5.out Nat.zero_lt_one rfl).ah (rV.out))
   have jR:=Zh ((kH.of I8.out Nat.zero_lt_one rfl))
   have hw6:w.heap.size≤b6:=DU
   have hw8:w.heap.size≤b8:=Nat.le_trans (ng.out).size SL
   have hw9:w.heap.size≤b9:=Nat.le_trans (Et (ng.out) yZ.out).size DV
   have akG:w.heap.size≤b10:=Nat.le_trans (Et (Et (ng.out) yZ.out) ni.out).size I7
   have akH:w.heap.size≤b11:=Nat.le_trans (Et (Et (Et (ng.out) yZ.out) ni.out) rU.out).size I9
   clear sD wC ng DU SK yZ SL yY ni DV I5 rU I7 I8 rV I9
   obtain⟨l6,x6⟩:=gQ.out
   obtain⟨l8,x8⟩:=tq.out
   repeat'(first|refine aF ?_|refine au ?_|refine ak (λK hK=>?_)|go_step)
   refine dn [(0,0),(2,0),(3,0),(5,0),(6,0),(1,1),(4,1),(7,1),(8,1),(9,1),(10,0)] (by kernel_rfl) (by kernel_rfl) ?_
   repeat'(first|refine aF ?_|fail)
   refine fF (R:=λw0 r w'=>aB w0 w'∧∃ f,r=.agg #[f,.int .i64 1]∧qZ w' f (false)) Tryz.func63 (λz=>dK (c:=false) (λw' hE=>(HH.out.ah (Et (Et HE.out z.ext) hE)).some)) (λz r w1 hR=>⟨hR.1,?_⟩)
   obtain⟨hE,f1,rfl,hC⟩:=hR
   replace hE:=Et z.ext hE
   replace HE:=Zh (Et HE.out hE)
   replace gQ:=Zh (gQ.out.ah hE)
   replace tq:=Zh (tq.out.ah hE)
   replace iG:=Zh (iG.out.ah hE)
   replace jV:=Zh (jV.out.ah hE)
   replace jR:=Zh (jR.out.ah hE)
   have gY:=Zh hC
   clear hE hC
   skip
   refine fF (R:=λw0 r w'=>aB w0 w'∧∃ f,r=.agg #[f,.int .i64 2]∧qZ w' f (!m.part (k:Int))) Tryz.func64 (λz=>iF (k:Int) (HH.out.ah (Et HE.out z.ext))) (λz r w1 hR=>⟨hR.1,?_⟩)
   obtain⟨hE,f2,rfl,hC⟩:=hR
   replace hE:=Et z.ext hE
   replace HE:=Zh (Et HE.out hE)
   replace gQ:=Zh (gQ.out.ah hE)
   replace tq:=Zh (tq.out.ah hE)
   replace iG:=Zh (iG.out.ah hE)
   replace jV:=Zh (jV.out.ah hE)
   replace jR:=Zh (jR.out.ah hE)
   replace gY:=Zh (gY.out.ah hE)
   have kG:=Zh hC
   clear hE hC
   skip
   refine fF (R:=λw0 r w'=>aB w0 w'∧∃ f,r=.agg #[f,.int .i64 2]∧qZ w' f (!m.aV ld)) Tryz.func155 (λz=>iw ld (HH.out.ah (Et HE.out z.ext))) (λz r w1 hR=>⟨hR.1,?_⟩)
   obtain⟨hE,f3,rfl,hC⟩:=hR
   replace hE:=Et z.ext hE
   replace HE:=Zh (Et HE.out hE)
   replace gQ:=Zh (gQ.out.ah hE)
   replace tq:=Zh (tq.out.ah hE)
   replace iG:=Zh (iG.out.ah hE)
   replace jV:=Zh (jV.out.ah hE)
   replace jR:=Zh (jR.out.ah hE)
   replace gY:=Zh (gY.out.ah hE)
   replace kG:=Zh (kG.out.ah hE)
   have mZ:=Zh hC
   clear hE hC
   obtain⟨a,Qd,hF⟩:=HH.out
   have Lr:=Zh Qd.lt
   have jg:=Qd.ah HE.out
   clear Qd
   obtain⟨u,hu⟩:=jg.view HP.out
   rw[Int.toNat_natCast]at hu
   obtain⟨g,c,iZ,Dq,jT,hv⟩:=jg.views.Bf hu
   obtain⟨hlt,-,-,-,-,c4,-⟩:=jg.cells
   rw[iZ]at c4
   have kS:k<a.vs.length:=(Ge hu).1
   have sZ:(k:Int)<a.vs.length:=by omega
   obtain⟨vM,yw⟩:=jg.isr _ _ hu
   dsimp only at vM yw
   have jq:=Zh vM
   have JV:=Zh yw
   have hgw:g<w.heap.size:=Lr.out g (by rw[jg.tV g (by rw[iZ];rfl)];decide)
   have HPW:Hid (∀q,u.ownBlock=some q→q<w.heap.size):=Zh (λq hq=>Lr.out q (by rw[yw q hq];omega))
   have xH:=Zh iZ
   have HU:=Zh hu
   have HW:=Zh hv
   have HA:=Zh jg
   have HF:=Zh hF
   clear jg hF iZ hu hv vM yw
   clear x6 l6 x8 l8
   obtain⟨l6,x6⟩:=gQ.out
   obtain⟨l8,x8⟩:=tq.out
   repeat'(first|(refine dN Tryz.func62 (λz=>dD (xs:=[(f1,false,1),(f2,!m.part (k:Int),2),(f3,!m.aV ld,2)]) (n:=0) ((dW _ aS rfl (by unfold maxLen;simp)).ah z.ext) (dF.cons (gY.out.ah (Et (by simp) z.ext)) (dF.cons (kG.out.ah (Et (by simp) z.ext)) (dF.cons (mZ.out.ah (Et (by simp) z.ext)) dF.nil))) (by simp[fA,HP.out,QF.out])) ?_)|refine aF ?_|refine aQ ?_|refine au ?_|refine ak (λK hK=>?_)|refine aj ?_|refine aG ?_|(refine dI (λx K hK=>?_);go_simp;refine hK _ _ (aB.alloc _ _) ?_;clear hK K;refine aZ x ?_;generalize (World.ah _ x).heap.size=bn;intro yn aU bD bC bG aS;clear x)|refine bJ ?_|go_step)
   clear gY kG mZ
   clear c4 hlt x6 l6 x8 l8
   have CO:b6<bn∧b8<bn∧b9<bn∧b10<bn∧b11<bn:=⟨Nat.lt_of_lt_of_le gQ.out.1 (Nat.le_trans (gJ (by simp)) aU),Nat.lt_of_lt_of_le tq.out.1 (Nat.le_trans (gJ (by simp)) aU),Nat.lt_of_lt_of_le iG.out.1 (Nat.le_trans (gJ (by simp)) aU),Nat.lt_of_lt_of_le jV.out.1 (Nat.le_trans (gJ (by simp)) aU),Nat.lt_of_lt_of_le jR.out.1 (Nat.le_trans (gJ (by simp)) aU)⟩
   obtain⟨b14,Iu⟩:∃ q:Nat,q=bn:=⟨_,rfl⟩
   subst Iu
   have oC:=Zh (cO.new aS.out)
   have aoJ:w.heap.size≤b14:=Nat.le_trans HE.out.size (Nat.le_trans (gJ (by simp)) aU)
   have fE:aB w1 (World.ah _ yn):=by simp
   generalize World.ah _ yn=V0 at *
   clear aU bD bC bG aS
   replace HE:=Zh (Et HE.out fE)
   replace gQ:=Zh (gQ.out.ah fE)
   replace tq:=Zh (tq.out.ah fE)
   replace iG:=Zh (iG.out.ah fE)
   replace jV:=Zh (jV.out.ah fE)
   replace jR:=Zh (jR.out.ah fE)
   replace HA:=Zh (HA.out.ah fE)
   replace HW:=Zh (HW.out.ah fE)
   replace jq:=Zh (jq.out.ah fE)
   clear fE
   refine aY (off:=0) oC.out (λV1 fM nU=>?_)
   replace HE:=Zh (aB.bK HE.out fM (λq hq=>by subst hq;omega))
   replace gQ:=Zh (gQ.out.aW fM (λe=>by have:=CO;omega))
   replace tq:=Zh (tq.out.aW fM (λe=>by have:=CO;omega))
   replace iG:=Zh (iG.out.aW fM (λe=>by have:=CO;omega))
   replace jV:=Zh (jV.out.aW fM (λe=>by have:=CO;omega))
   replace jR:=Zh (jR.out.aW fM (λe=>by have:=CO;omega))
   replace oC:Hid (kH V1 b14 (.pointer (some ⟨g,k *4,none⟩))):=Zh (kH.of nU Nat.zero_lt_one rfl)
   replace HA:=Zh (HA.out.aW fM (λq hq e=>by have:=Lr.out q hq;omega))
   replace HW:=Zh (HW.out.aW fM (by omega))
   replace jq:=Zh (jq.out.aW fM (λq hq e=>by have:=HPW.out q hq;omega))
   clear fM nU
   repeat'(first|refine aF ?_|refine au ?_|refine ak (λK hK=>?_)|refine aj ?_|(refine dI (λx K hK=>?_);go_simp;refine hK _ _ (aB.alloc _ _) ?_;clear hK K;refine aZ x ?_;generalize (World.ah _ x).heap.size=bn;intro yn aU bD bC bG aS;clear x)|go_step)
   have zf:b6<bn∧b8<bn∧b9<bn∧b10<bn∧b11<bn∧b14<bn:=⟨Nat.lt_of_lt_of_le gQ.out.1 (Nat.le_trans (gJ (by simp)) aU),Nat.lt_of_lt_of_le tq.out.1 (Nat.le_trans (gJ (by simp)) aU),Nat.lt_of_lt_of_le iG.out.1 (Nat.le_trans (gJ (by simp)) aU),Nat.lt_of_lt_of_le jV.out.1 (Nat.le_trans (gJ (by simp)) aU),Nat.lt_of_lt_of_le jR.out.1 (Nat.le_trans (gJ (by simp)) aU),Nat.lt_of_lt_of_le oC.out.1 (Nat.le_trans (gJ (by simp)) aU)⟩
   obtain⟨b15,Iu⟩:∃ q:Nat,q=bn:=⟨_,rfl⟩
   subst Iu
   have EZ:=Zh (cO.new aS.out)
   have aoK:w.heap.size≤b15:=Nat.le_trans HE.out.size (Nat.le_trans (gJ (by simp)) aU)
   have fE:aB V1 (World.ah _ yn):=by simp
   generalize World.ah _ yn=V2 at *
   clear aU bD bC bG aS
   replace HE:=Zh (Et HE.out fE)
   replace gQ:=Zh (gQ.out.ah fE)
   replace tq:=Zh (tq.out.ah fE)
   replace iG:=Zh (iG.out.ah fE)
   replace jV:=Zh (jV.out.ah fE)
   replace jR:=Zh (jR.out.ah fE)
   replace HA:=Zh (HA.out.ah fE)
   replace HW:=Zh (HW.out.ah fE)
   replace jq:=Zh (jq.out.ah fE)
   replace oC:=Zh (oC.out.ah fE)
   clear fE
   refine aY (off:=0) EZ.out (λV3 fM nU=>?_)
   replace HE:=Zh (aB.bK HE.out fM (λq hq=>by subst hq;omega))
   replace gQ:=Zh (gQ.out.aW fM (λe=>by have:=zf;omega))
   replace tq:=Zh (tq.out.aW fM (λe=>by have:=zf;omega))
   replace iG:=Zh (iG.out.aW fM (λe=>by have:=zf;omega))
   replace jV:=Zh (jV.out.aW fM (λe=>by have:=zf;omega))
   replace jR:=Zh (jR.out.aW fM (λe=>by have:=zf;omega))
   replace oC:=Zh (oC.out.aW fM (λe=>by have:=zf;omega))
   replace EZ:Hid (kH V3 b15 (.func (.func 223) #[] #[.pointer (some ⟨b6,0,none⟩)])):=Zh (kH.of nU Nat.zero_lt_one rfl)
   replace HA:=Zh (HA.out.aW fM (λq hq e=>by have:=Lr.out q hq;omega))
   replace HW:=Zh (HW.out.aW fM (by omega))
   replace jq:=Zh (jq.out.aW fM (λq hq e=>by have:=HPW.out q hq;omega))
   clear fM nU
   obtain⟨XT,x14⟩:=oC.out
   have Ir:=Zh (HR.out.ah HE.out)
   have sJ:Hid (tJ V3 [((⟨g,k *4+2,none⟩:Addr),(m.view (k:Int)).version)]):=Zh (λy hy=>by
    obtain rfl:=List.mem_singleton.1 hy
    exact⟨g,k *4+2,rfl,HW.out.lt,HW.out.c2⟩)
   have JW:Hid (qZ V3 (.func (.func 224) #[] #[.pointer (some ⟨b11,0,none⟩),.pointer (some ⟨b8,0,none⟩),.pointer (some ⟨b6,0,none⟩)]) (!(aH.jZ m.form.aK isr&&decide (ld∈isr)))):=Zh ⟨_,_,_,_,rfl,Tryz.func224,by kernel_rfl,λw' hE=>LC (F:=λq=>a.T q≠0) ⟨a,HA.out.ah hE,λ_ h=>h⟩ (gQ.out.ah hE) (tq.out.ah hE) (jR.out.ah hE) (Ir.out.ah hE)⟩
   have JX:Hid (qZ V3 (.func (.func 226) #[] #[.pointer (some ⟨b14,0,none⟩),.pointer (some ⟨b8,0,none⟩),.pointer (some ⟨b9,0,none⟩),.pointer (some ⟨b10,0,none⟩)]) ((m.view (k:Int)).leader != ld||(m.view (k:Int)).epoch != ep||(m.view (k:Int)).version != ver)):=Zh ⟨_,_,_,_,rfl,Tryz.func226,by kernel_rfl,λw' hE=>Gq (oC.out.ah hE) (tq.out.ah hE) (iG.out.ah hE) (jV.out.ah hE) (HW.out.ah hE)⟩
   have HK6:Hid (SI (∀x∈isr,m.aV x=true) V3 (.func (.func 227) #[] #[.pointer (some ⟨b11,0,none⟩),.pointer (some ⟨b15,0,none⟩)]) (!isr.all m.sG)):=Zh (λjB=>⟨_,_,_,_,rfl,Tryz.func227,by kernel_rfl,λw' hE=>Gp (F:=λq=>a.T q≠0) ⟨a,HA.out.ah hE,λ_ h=>h⟩ jB (gQ.out.ah hE) (jR.out.ah hE) (EZ.out.ah hE) (Ir.out.ah hE)⟩)
   repeat'(first|refine aF ?_|refine au ?_|refine ak (λK hK=>?_)|refine aj ?_|(refine dI (λx K hK=>?_);go_simp;refine hK _ _ (aB.alloc _ _) ?_;clear hK K;refine aZ x ?_;generalize (World.ah _ x).heap.size=bn;intro yn aU bD bC bG aS;clear x)|go_step)
   refine aX Tryz.func146 (je (xs:=[((⟨g,k *4+2,none⟩:Addr),(m.view (k:Int)).version)]) (qw [((⟨g,k *4+2,none⟩:Addr),(m.view (k:Int)).version)] aS rfl (by unfold maxLen;simp)) (sJ.out.ah (by simp))) (λr w1 hR=>?_)
   obtain⟨hE,f4,rfl,hC⟩:=hR
   replace hE:=Et (show aB V3 _ from by simp) hE
   replace HE:=Zh (Et HE.out hE)
   replace gQ:=Zh (gQ.out.ah hE)
   replace tq:=Zh (tq.out.ah hE)
   replace iG:=Zh (iG.out.ah hE)
   replace jV:=Zh (jV.out.ah hE)
   replace jR:=Zh (jR.out.ah hE)
   replace HA:=Zh (HA.out.ah hE)
   replace HW:=Zh (HW.out.ah hE)
   replace jq:=Zh (jq.out.ah hE)
   replace oC:=Zh (oC.out.ah hE)
   replace EZ:=Zh (EZ.out.ah hE)
   replace sJ:=Zh (sJ.out.ah hE)
   replace JW:=Zh (JW.out.ah hE)
   replace JX:=Zh (JX.out.ah hE)
   replace HK6:=Zh (HK6.out.ah hE)
   replace Ir:=Zh (Ir.out.ah hE)
   have FH:=Zh hC
   clear hE hC
   clear x14 XT
   obtain⟨XT,x14⟩:=oC.out
   repeat'(first|refine aN Tryz.func62 (I4 (xs:=[(.func (.func 224) #[] #[.pointer (some ⟨b11,0,none⟩),.pointer (some ⟨b8,0,none⟩),.pointer (some ⟨b6,0,none⟩)],!(aH.jZ m.form.aK isr&&decide (ld∈isr)),2),(.func (.func 226) #[] #[.pointer (some ⟨b14,0,none⟩),.pointer (some ⟨b8,0,none⟩),.pointer (some ⟨b9,0,none⟩),.pointer (some ⟨b10,0,none⟩)],(m.view (k:Int)).leader != ld||(m.view (k:Int)).epoch != ep||(m.view (k:Int)).version != ver,200),(.func (.func 227) #[] #[.pointer (some ⟨b11,0,none⟩),.pointer (some ⟨b15,0,none⟩)],!isr.all m.sG,201),(f4,[((⟨g,k *4+2,none⟩:Addr),(m.view (k:Int)).version)].any λx=>decide (bQ≤x.2),204)]) (n:=E0) (dW _ aS rfl (by unfold maxLen;simp)) ⟨JW.out.ah (by simp),λe1=>⟨JX.out.ah (by simp),λ_=>⟨(HK6.out (Gs e1)).ah (by simp),λ_=>⟨FH.out.ah (by simp),λ_=>trivial⟩⟩⟩⟩ ((OD HP.out QF.out).trans BD.out)) ?_|refine aF ?_|refine au ?_|refine ak (λK hK=>?_)|refine aj ?_|refine aC ?_|(refine dI (λx K hK=>?_);go_simp;refine hK _ _ (aB.alloc _ _) ?_;clear hK K;refine aZ x ?_;generalize (World.ah _ x).heap.size=bn;intro yn aU bD bC bG aS;clear x)|refine bH ?_|go_step)
   clear sJ JW JX HK6 FH
   exact aA hd ⟨rfl,HH.out.jc (Et HE.out (by simp))⟩
 ·have hq:(m.part p&&m.aV ld)=false:=by simpa using hq
  have bT:m.nS p ld ep ver isr=2:=by simp only[aH.nS,hq,if_true]
  have bP:m.alter p ld ep ver isr=m:=by simp[aH.alter,bT]
  rw[bT,bP]
  have HQ:=Zh hq
  clear bT bP h hq
  refine Fi (n:=65) Tryz.func175 ?_;intro A hd hA;simp only[ix,Nat.reduceAdd]
  (repeat'(first|refine ak (λK hK=>?_)|refine aj ?_|fail));(refine dI (λx K hK=>?_);go_simp;refine hK _ _ (aB.alloc _ _) ?_;clear hK K;refine aZ x ?_;generalize (World.ah _ x).heap.size=b6;intro yn aU bD bC bG aS;clear x);have wC:=Zh (cO.new aS.out);have ng:=Zh yn.ext;have DU:(World.heap w).size≤b6:=aU;generalize World.ah w yn=W0 at *;clear aU bD bC bG aS yn
  (skip);(refine dI (λx K hK=>?_);go_simp;refine hK _ _ (aB.alloc _ _) ?_;clear hK K;refine aZ x ?_;generalize (World.ah _ x).heap.size=b8;intro yn aU bD bC bG aS;clear x);have SK:=Zh (cO.new aS.out);have yZ:=Zh yn.ext;have SL:(World.heap W0).size≤b8:=aU;generalize World.ah W0 yn=W1 at *;clear aU bD bC bG aS yn
  (skip);(refine dI (λx K hK=>?_);go_simp;refine hK _ _ (aB.alloc _ _) ?_;clear hK K;refine aZ x ?_;generalize (World.ah _ x).heap.size=b9;intro yn aU bD bC bG aS;clear x);have yY:=Zh (cO.new aS.out);have ni:=Zh yn.ext;have DV:(World.heap W1).size≤b9:=aU;generalize World.ah W1 yn=W2 at *;clear aU bD bC bG aS yn
  (skip);(refine dI (λx K hK=>?_);go_simp;refine hK _ _ (aB.alloc _ _) ?_;clear hK K;refine aZ x ?_;generalize (World.ah _ x).heap.size=b10;intro yn aU bD bC bG aS;clear x);have I5:=Zh (cO.new aS.out);have rU:=Zh yn.ext;have I7:(World.heap W2).size≤b10:=aU;generalize World.ah W2 yn=W3 at *;clear aU bD bC bG aS yn
  (skip);(refine dI (λx K hK=>?_);go_simp;refine hK _ _ (aB.alloc _ _) ?_;clear hK K;refine aZ x ?_;generalize (World.ah _ x).heap.size=b11;intro yn aU bD bC bG aS;clear x);have I8:=Zh (cO.new aS.out);have rV:=Zh yn.ext;have I9:(World.heap W3).size≤b11:=aU;generalize World.ah W3 yn=W4 at *;clear aU bD bC bG aS yn
  have sD:=Et ng.out (Et yZ.out (Et ni.out (Et rU.out rV.out)))
  have HE:=Zh sD
  have gQ:=Zh ((kH.of wC.out Nat.zero_lt_one rfl).ah (Et yZ.out (Et ni.out (Et rU.out (rV.out)))))
  have tq:=Zh ((kH.of SK.out Nat.zero_lt_one rfl).ah (Et ni.out (Et rU.out (rV.out))))
  have iG:=Zh ((kH.of yY.out Nat.zero_lt_one rfl).ah (Et rU.out (rV.out)))
  have jV:=Zh ((kH.of I5.out Nat.zero_lt_one rfl).ah (rV.out))
  have jR:=Zh ((kH.of I8.out Nat.zero_lt_one rfl))
  have hw6:w.heap.size≤b6:=DU
  have hw8:w.heap.size≤b8:=Nat.le_trans (ng.out).size SL
  have hw9:w.heap.size≤b9:=Nat.le_trans (Et (ng.out) yZ.out).size DV
  have akG:w.heap.size≤b10:=Nat.le_trans (Et (Et (ng.out) yZ.out) ni.out).size I7
  have akH:w.heap.size≤b11:=Nat.le_trans (Et (Et (Et (ng.out) yZ.out) ni.out) rU.out).size I9
  clear sD wC ng DU SK yZ SL yY ni DV I5 rU I7 I8 rV I9
  obtain⟨l6,x6⟩:=gQ.out
  obtain⟨l8,x8⟩:=tq.out
  repeat'(first|refine aF ?_|refine au ?_|refine ak (λK hK=>?_)|go_step)
  refine dn [(0,0),(2,0),(3,0),(5,0),(6,0),(1,1),(4,1),(7,1),(8,1),(9,1),(10,0)] (by kernel_rfl) (by kernel_rfl) ?_
  repeat'(first|refine aF ?_|fail)
  refine fF (R:=λw0 r w'=>aB w0 w'∧∃ f,r=.agg #[f,.int .i64 1]∧qZ w' f (false)) Tryz.func63 (λz=>dK (c:=false) (λw' hE=>(HH.out.ah (Et (Et HE.out z.ext) hE)).some)) (λz r w1 hR=>⟨hR.1,?_⟩)
  obtain⟨hE,f1,rfl,hC⟩:=hR
  replace hE:=Et z.ext hE
  replace HE:=Zh (Et HE.out hE)
  replace gQ:=Zh (gQ.out.ah hE)
  replace tq:=Zh (tq.out.ah hE)
  replace iG:=Zh (iG.out.ah hE)
  replace jV:=Zh (jV.out.ah hE)
  replace jR:=Zh (jR.out.ah hE)
  have gY:=Zh hC
  clear hE hC
  skip
  refine fF (R:=λw0 r w'=>aB w0 w'∧∃ f,r=.agg #[f,.int .i64 2]∧qZ w' f (!m.part p)) Tryz.func64 (λz=>iF p (HH.out.ah (Et HE.out z.ext))) (λz r w1 hR=>⟨hR.1,?_⟩)
  obtain⟨hE,f2,rfl,hC⟩:=hR
  replace hE:=Et z.ext hE
  replace HE:=Zh (Et HE.out hE)
  replace gQ:=Zh (gQ.out.ah hE)
  replace tq:=Zh (tq.out.ah hE)
  replace iG:=Zh (iG.out.ah hE)
  replace jV:=Zh (jV.out.ah hE)
  replace jR:=Zh (jR.out.ah hE)
  replace gY:=Zh (gY.out.ah hE)
  have kG:=Zh hC
  clear hE hC
  skip
  refine fF (R:=λw0 r w'=>aB w0 w'∧∃ f,r=.agg #[f,.int .i64 2]∧qZ w' f (!m.aV ld)) Tryz.func155 (λz=>iw ld (HH.out.ah (Et HE.out z.ext))) (λz r w1 hR=>⟨hR.1,?_⟩)
  obtain⟨hE,f3,rfl,hC⟩:=hR
  replace hE:=Et z.ext hE
  replace HE:=Zh (Et HE.out hE)
  replace gQ:=Zh (gQ.out.ah hE)
  replace tq:=Zh (tq.out.ah hE)
  replace iG:=Zh (iG.out.ah hE)
  replace jV:=Zh (jV.out.ah hE)
  replace jR:=Zh (jR.out.ah hE)
  replace gY:=Zh (gY.out.ah hE)
  replace kG:=Zh (kG.out.ah hE)
  have mZ:=Zh hC
  clear hE hC
  have D7:fA [(f1,false,1),(f2,!m.part p,2),(f3,!m.aV ld,2)]=2:=by
   have h:=HQ.out
   simp only[fA]
   cases h1:m.part p<;>cases h2:m.aV ld<;>simp_all
  have HCK:=Zh D7
  clear D7
  repeat'(first|(refine dN Tryz.func62 (λz=>dD (xs:=[(f1,false,1),(f2,!m.part p,2),(f3,!m.aV ld,2)]) (n:=2) ((dW _ aS rfl (by unfold maxLen;simp)).ah z.ext) (dF.cons (gY.out.ah (Et (by simp) z.ext)) (dF.cons (kG.out.ah (Et (by simp) z.ext)) (dF.cons (mZ.out.ah (Et (by simp) z.ext)) dF.nil))) HCK.out) ?_)|refine aF ?_|refine aQ ?_|refine au ?_|refine ak (λK hK=>?_)|refine aj ?_|refine aC ?_|(refine dI (λx K hK=>?_);go_simp;refine hK _ _ (aB.alloc _ _) ?_;clear hK K;refine aZ x ?_;generalize (World.ah _ x).heap.size=bn;intro yn aU bD bC bG aS;clear x)|refine bH ?_|go_step)
  clear gY kG mZ
  skip
  exact aA hd ⟨rfl,HH.out.jc (Et HE.out (by simp))⟩
structure LD (P:Program) {α:Type} (enc:α→ List Value) (k:Nat) (t E:TypeId) (bytes:Nat):Prop where
 len:∀ x,(enc x).length=k
 ty:P.underlying t=some (.slice E)
 pos:0<k
 info:∃ z,(P.info? E).map (λi=>(i.zero,i.size,i.bytes))=some (some z,k,bytes)∧z.cells.size=k
section
variable {P : Program} {Q : jo} {w : World} {A : Act} {fl : List (Nat × Value)} {o : Oper} {ops : Array Oper} {α : Type} {enc : α → List Value} {k : Nat} {E : TypeId} {xs ys : List α}
theorem SN {t:TypeId} {bytes:Nat} (he:LD P enc k t E bytes) (D8:∀ y∈ys,∀u∈enc y,u.oneCell'=true) (ty:TypeId) {w:World} {v vs:Value} (nD:dQ enc k E w v xs) (hs:Rd enc k w vs ys) (hb:(xs.length+ys.length) *bytes≤140737488355328) (hm:xs.length+ys.length≤maxLen):
  ∃v' w',(Builtin.append_ #[t,t] ty #[v,vs]).run P w=.ok v' w'∧dQ enc k E w' v' (xs++ys)∧bF (λb=>v.ownBlock=some b) w w'∧
   (v'.ownBlock=v.ownBlock∨∃ g,v'.ownBlock=some g∧w.heap.size≤g)∧(v'=.slice none 0 0↔v=.slice none 0 0∧ys=[]):=by
 obtain⟨z,hi,hz⟩:=he.info
 obtain⟨i,QC,Jm,zq,Dk⟩:=info_parts hi
 rcases hs.mD he.len with⟨A0,c,rfl,rfl⟩|⟨b,o,c,rfl,G7,hlt⟩
 ·have zu:xs.length+0≤maxLen:=hm
  refine⟨v,w,?_,by simpa using nD,bF.refl _ _,.inl rfl,by simp⟩
  rcases nD.G6 with⟨rfl,rfl⟩|⟨g,cap,rfl,h1,_,_⟩
  ·cases A0<;>simp[loadCells,loadCellsFrom,Builtin.append_,run_underlying he.ty,sizeOf,typeInfo,QC,Builtin.lenOf,Builtin.firstCells]
  ·cases A0<;>simp[loadCells,loadCellsFrom,storeCells,Builtin.append_,run_underlying he.ty,sizeOf,typeInfo,QC,Builtin.lenOf,Builtin.firstCells,h1]
 ·have h1:∀ u∈ys.flatMap enc,u.oneCell'=true:=λu hu=>by
   obtain⟨x,UM,hx⟩:=List.mem_flatMap.1 hu
   exact D8 x UM u hx
  obtain⟨v',w',hr,h2,h3,h4,h5⟩:=IB (P:=P) (w:=w) t ty E i z k bytes he.ty QC Jm zq Dk hz he.pos v xs.length _ nD ⟨b,o,none⟩ ys.length c _ (eH he.len ys) G7 h1 hm hb
  refine⟨v',w',hr,?_,h3,h4,?_⟩
  ·unfold dQ
   rw[List.length_append,List.flatMap_append];exact h2
  ·rw[h5]
   constructor
   ·rintro⟨h,h'⟩;exact⟨h,List.eq_nil_of_length_eq_zero h'⟩
   ·rintro⟨h,h'⟩;exact⟨h,by rw[h'];rfl⟩
theorem LG {rest:List (Oper×Nat)} {s x:Operand} {t:TypeId} {d:Nat} {bytes:Nat} {v vs:Value}
  (he:LD P enc k t E bytes) (D8:∀ y∈ys,∀u∈enc y,u.oneCell'=true) (nD:dQ enc k E w v xs) (G7:Rd enc k w vs ys) (Dl:(xs.length+ys.length) *bytes≤140737488355328) (hm:xs.length+ys.length≤maxLen)
  (h:∀ v' W',bF (λb=>v.ownBlock=some b) w W'→dQ enc k E W' v' (xs++ys)→(v'.ownBlock=v.ownBlock∨∃ g,v'.ownBlock=some g∧w.heap.size≤g)→jh P ops Q rest (fr ((d,v')::fl) A) W')
  (ho:o.op=.call {callee:=.builtin .append,args:= #[s,x],argTypes:= #[t,t]}:=by rfl) (hd:o.dst=some d:=by rfl) (hg:o.guard=none:=by rfl)
  (hs:Is ((fr fl A).eval s) v:=by go_simp;exact Is.mk _) (hx:Is ((fr fl A).eval x) vs:=by go_simp;exact Is.mk _):
  jh P ops Q ((o,2)::rest) (fr fl A) w:=by
 refine X_v (λX K hK=>?_) hd hg
 obtain⟨v',W',hr,h2,h3,h4,h5⟩:=SN (P:=P) (w:=w.ah X) he D8 o.type (nD.ah X.2) (G7.ah X.2) Dl hm
 unfold uQ
 rw[uG ho hs.eq hx.eq hr]
 refine hK v' W' (h v' W' (bF.trans X.2 h3 (λ_ _ h=>h.elim) (λ_ _ h=>h)) h2 ?_)
 rcases h4 with h4|⟨g,hg,hle⟩
 ·exact .inl h4
 ·exact .inr ⟨g,hg,Nat.le_trans X.2.size hle⟩
end
theorem SQ:LD Tryz.prog Pm 4 60 45 48:=⟨λ_=>rfl,Tryz.underlying60,by decide,.agg #[.int .i64 0,.int .i64 0,.int .i64 0,.slice none 0 0],by kernel_rfl,rfl⟩
theorem SS:LD Tryz.prog Za 6 61 148 64:=⟨λ_=>rfl,Tryz.underlying61,by decide,.agg #[.int .i64 0,.int .i64 0,.int .i64 0,.slice none 0 0,.int .i64 0,.int .i64 0],by kernel_rfl,rfl⟩
theorem SV:QB Tryz.prog UQ 1 59 4 1:=⟨λ_=>rfl,λx u h=>by simp[UQ]at h;subst h;rfl,Tryz.underlying59,by decide,.bool false,by kernel_rfl,rfl⟩
theorem acf (a:Option Addr) (n c:Nat) (w:World):(binOp .eql 59 (.slice a n c) (.slice none 0 0)).run Tryz.prog w=.ok (.bool a.isNone) w:=by
 cases a<;>rfl
theorem Qe {w:World} {v:Value} {l:List Bool} (hl:Rd UQ 1 w v l) (hn:l.length≤1000000):gK Tryz.prog 122 #[v] w λv' w'=>aB w w'∧dQ UQ 1 4 w' v' l∧∀ b,v'.ownBlock=some b→w.heap.size≤b:=by
 have zu:=Zh hl
 obtain⟨A0,c,rfl,hc,jT,HA⟩:=hl
 clear HA
 cases A0 with
 | none=>
  have wF:l=[]:=by
   obtain⟨A',c',h1,_,_,h4⟩:=zu.out
   cases h1
   rcases h4 with⟨_,h⟩|⟨b,o,h,_⟩
   ·exact h
   ·cases h
  subst wF
  have g:=λw=>acf none 0 c w
  refine Fi (n:=8) Tryz.func122 ?_;intro A hd hA;simp only[ix,Nat.reduceAdd]
  repeat'(first|refine aF ?_|refine au ?_|refine ak (λK hK=>?_)|refine aj ?_|refine aC ?_|refine bH ?_|go_step)
  exact aA hd ⟨by simp,dQ.nil _,by intro b hb;cases hb⟩
 | some a=>
  have g:=λw=>acf (some a) l.length c w
  refine Fi (n:=8) Tryz.func122 ?_;intro A hd hA;simp only[ix,Nat.reduceAdd]
  repeat'(first|refine aF ?_|refine au ?_|refine ak (λK hK=>?_)|refine aj ?_|refine aG ?_|(refine dI (λx K hK=>?_);go_simp;refine hK _ _ (aB.alloc _ _) ?_;clear hK K;refine aZ x ?_;generalize (World.ah _ x).heap.size=bn;intro yn aU bD bC bG aS;clear x)|refine bJ ?_|go_step)
  refine nZ (xs:=[]) SV (dQ.empty aS.out) (zu.out.ah (by simp)) (by simp;omega) (by unfold maxLen;simp;omega) (λv' W' hM hO hF _=>?_)
  repeat'(first|refine aF ?_|refine au ?_|refine aC ?_|go_step)
  refine aA hd ⟨aB.bK yn.2 hM (λb hb=>by cases hb;exact aU),hO,λb hb=>?_⟩
  have hs:w.heap.size≤(w.ah yn).heap.size:=yn.2.size
  rcases hF with h|⟨g,h,hg⟩
  ·rw[h]at hb;cases hb;exact aU
  ·rw[h]at hb;cases hb;omega
structure fB (w:World) (b:Nat) (a:yg) (f:gB) (lv:List Bool):Prop where
 gy:cO w b 121 6 (xR f a.uL a.uV a.uW)
 lives:dQ UQ 1 4 w a.uL lv
 views:dQ Pm 4 45 w a.uV a.vs
 lu:dQ Za 6 148 w a.uW a.ws
 isr:∀ i x,a.vs[i]? =some x→ig w x.2 x.1.isr∧∀ k,x.2.ownBlock=some k→a.T k=8+i
 parts:∀ i x,a.ws[i]? =some x→ig w x.2 x.1.parts∧∀ k,x.2.ownBlock=some k→a.T k=16+i
 tb:a.T b=1
 tL:∀ k,a.uL.ownBlock=some k→a.T k=2
 tV:∀ k,a.uV.ownBlock=some k→a.T k=3
 tW:∀ k,a.uW.ownBlock=some k→a.T k=4
 lt:∀ k,a.T k≠0→k<w.heap.size
section
variable {w w1 w2 w3 : World} {b : Nat} {a : yg} {f : gB} {lv : List Bool} {G : Nat → Prop}
theorem fB.aW (h:fB w b a f lv) (hM:bF G w w1) (hG:∀ k,a.T k≠0→¬ G k):fB w1 b a f lv:=
 ⟨h.gy.aW hM (hG _ (by rw[h.tb];decide)),h.lives.aW hM (λk hk=>hG _ (by rw[h.tL k hk];decide)),h.views.aW hM (λk hk=>hG _ (by rw[h.tV k hk];decide)),h.lu.aW hM (λk hk=>hG _ (by rw[h.tW k hk];decide)),
  λi x hx=>⟨(h.isr i x hx).1.aW hM (λk hk=>hG _ (by rw[(h.isr i x hx).2 k hk];omega)),(h.isr i x hx).2⟩,
  λi x hx=>⟨(h.parts i x hx).1.aW hM (λk hk=>hG _ (by rw[(h.parts i x hx).2 k hk];omega)),(h.parts i x hx).2⟩,h.tb,h.tL,h.tV,h.tW,λk hk=>Nat.lt_of_lt_of_le (h.lt k hk) hM.size⟩
theorem fB.ah (h:fB w b a f lv) (hE:aB w w1):fB w1 b a f lv:=h.aW hE (λ_ _ h=>h)
theorem fB.adq {m:aH} (h:fB w b a m.form m.lives) (hv:a.vs.map (·.1)=m.views) (hw:a.ws.map (·.1)=m.eY) (hg:m.dH):fZ w b a m:=
 ⟨h.gy,h.lives,h.views,h.lu,hv,hw,h.isr,h.parts,h.tb,h.tL,h.tV,h.tW,h.lt,hg⟩
theorem Ig {uL uV uW v':Value} (k:Nat) (hk:k<6):xR f uL v' uW k=put (xR f uL uV uW) 4 [v'] k:=by
 obtain rfl|rfl|rfl|rfl|rfl|rfl:k=0∨k=1∨k=2∨k=3∨k=4∨k=5:=by omega
 all_goals rfl
theorem OE {uL uV uW v':Value} (k:Nat) (hk:k<6):xR f uL uV v' k=put (xR f uL uV uW) 5 [v'] k:=by
 obtain rfl|rfl|rfl|rfl|rfl|rfl:k=0∨k=1∨k=2∨k=3∨k=4∨k=5:=by omega
 all_goals rfl
theorem Zm {uL uV uW v':Value} (k:Nat) (hk:k<6):xR f v' uV uW k=put (xR f uL uV uW) 3 [v'] k:=by
 obtain rfl|rfl|rfl|rfl|rfl|rfl:k=0∨k=1∨k=2∨k=3∨k=4∨k=5:=by omega
 all_goals rfl
theorem fB.agf {v':Value} {x:dL×Value} (h:fB w b a f lv) (hE:aB w w1) (kL:bF (λq=>a.uV.ownBlock=some q) w1 w2) (hV:dQ Pm 4 45 w2 v' (a.vs++[x])) (hF:v'.ownBlock=a.uV.ownBlock∨∃ g,v'.ownBlock=some g∧w1.heap.size≤g)
  (hu:ig w1 x.2 x.1.isr) (hxf:∀ k,x.2.ownBlock=some k→w.heap.size≤k) (jd:bF (· =b) w2 w3) (hB:cO w3 b 121 6 (xR f a.uL v' a.uW)):
  ∃T',fB w3 b {a with uV:=v',vs:=a.vs++[x],T:=T'} f lv∧∀ k,T' k≠0→a.T k≠0∨w.heap.size≤k:=by
 have hM:bF (λq=>a.uV.ownBlock=some q∨q=b) w w3:=bF.trans (bF.trans hE kL (H:=λq=>a.uV.ownBlock=some q) (λ_ _ h=>h.elim) (λ_ _ h=>h)) jd (λ_ _ h=>.inl h) (λ_ _ h=>.inr h)
 have Jo:=hE.size
 have hvn:∀ k,v'.ownBlock=some k→a.uV.ownBlock=some k∨w1.heap.size≤k:=λk hk=>by
  rcases hF with h1|⟨g,h1,h2⟩
  ·rw[h1]at hk;exact .inl hk
  ·rw[h1]at hk;cases hk;exact .inr h2
 have hxv:∀ k,x.2.ownBlock=some k→v'.ownBlock≠some k:=λk hk hv=>by
  have h1:=hxf k hk
  have h2:=hu.lt k hk
  rcases hvn k hv with h3|h3
  ·have:=h.lt k (by rw[h.tV k h3];decide);omega
  ·omega
 have xE:∀ k,a.T k≠0→oP (oP a.T v' 3) x.2 (8+a.vs.length) k=a.T k:=λk hk=>by
  have h1:=h.lt k hk
  rw[iW (λe=>by have:=hxf k e;omega)]
  by_cases h2:v'.ownBlock=some k
  ·rw[sH h2]
   rcases hvn k h2 with h3|h3
   ·exact(h.tV k h3).symm
   ·omega
  ·exact iW h2
 have vK:∀ {k t},a.T k=t→t≠0→oP (oP a.T v' 3) x.2 (8+a.vs.length) k=t:=λh1 h2=>by rw[xE _ (by rw[h1];exact h2),h1]
 have bT:∀ k t,a.T k=t→t≠0→t≠1→t≠3→¬ (a.uV.ownBlock=some k∨k=b):=λk t h1 _ h2 h3 hg=>by
  rcases hg with hg|hg
  ·have:=h.tV k hg;omega
  ·subst hg;have:=h.tb;omega
 refine⟨oP (oP a.T v' 3) x.2 (8+a.vs.length),⟨hB,h.lives.aW hM (λk hk=>bT _ _ (h.tL k hk) (by decide) (by decide) (by decide)),?_,h.lu.aW hM (λk hk=>bT _ _ (h.tW k hk) (by decide) (by decide) (by decide)),?_,?_,vK h.tb (by decide),λk hk=>vK (h.tL k hk) (by decide),?_,λk hk=>vK (h.tW k hk) (by decide),?_⟩,?_⟩
 ·refine dQ.aW hV jd λk hk e=>?_
  subst e
  rcases hvn k hk with h3|h3
  ·have h4:=h.tV k h3;rw[h.tb]at h4;omega
  ·have:=h.gy.lt;omega
 ·intro i y hy
  have QG:(a.vs++[x])[i]? =some y:=hy
  rcases Nat.lt_or_ge i a.vs.length with hi|hi
  ·rw[List.getElem?_append_left hi]at QG
   obtain⟨h1,h2⟩:=h.isr i y QG
   exact⟨h1.aW hM (λk hk=>bT _ _ (h2 k hk) (by omega) (by omega) (by omega)),λk hk=>vK (h2 k hk) (by omega)⟩
  ·rw[List.getElem?_append_right hi]at QG
   have hi0:i=a.vs.length:=by
    have:=(Ge QG).1
    simp at this;omega
   subst hi0
   rw[Nat.sub_self]at QG
   obtain rfl:x=y:=by simpa using QG
   refine⟨(hu.aW kL (λk hk e=>?_)).aW jd (λk hk e=>?_),λk hk=>sH hk⟩
   ·have h1:=hxf k hk
    have:=h.lt k (by rw[h.tV k e];decide);omega
   ·subst e;have h1:=hxf k hk;have:=h.gy.lt;omega
 ·intro i y hy
  obtain⟨h1,h2⟩:=h.parts i y hy
  exact⟨h1.aW hM (λk hk=>bT _ _ (h2 k hk) (by omega) (by omega) (by omega)),λk hk=>vK (h2 k hk) (by omega)⟩
 ·intro k hk
  show oP (oP a.T v' 3) x.2 (8+a.vs.length) k=3
  rw[iW (λe=>hxv k e hk)];exact sH hk
 ·intro k hk
  have sF:oP (oP a.T v' 3) x.2 (8+a.vs.length) k≠0:=hk
  have s2:=kL.size
  have s3:=jd.size
  by_cases h1:x.2.ownBlock=some k
  ·have:=hu.lt k h1;omega
  ·rw[iW h1]at sF
   by_cases h2:v'.ownBlock=some k
   ·have:=hV.lt k h2;omega
   ·rw[iW h2]at sF
    have:=h.lt k sF;omega
 ·intro k hk
  by_cases h1:x.2.ownBlock=some k
  ·exact .inr (hxf k h1)
  ·rw[iW h1]at hk
   by_cases h2:v'.ownBlock=some k
   ·rcases hvn k h2 with h3|h3
    ·left;rw[h.tV k h3];decide
    ·right;omega
   ·rw[iW h2]at hk;exact .inl hk
theorem fB.agh {v':Value} {x:bW×Value} (h:fB w b a f lv) (hE:aB w w1) (kL:bF (λq=>a.uW.ownBlock=some q) w1 w2) (hV:dQ Za 6 148 w2 v' (a.ws++[x])) (hF:v'.ownBlock=a.uW.ownBlock∨∃ g,v'.ownBlock=some g∧w1.heap.size≤g)
  (hu:ig w1 x.2 x.1.parts) (hxf:∀ k,x.2.ownBlock=some k→w.heap.size≤k) (jd:bF (· =b) w2 w3) (hB:cO w3 b 121 6 (xR f a.uL a.uV v')):
  ∃T',fB w3 b {a with uW:=v',ws:=a.ws++[x],T:=T'} f lv∧∀ k,T' k≠0→a.T k≠0∨w.heap.size≤k:=by
 have hM:bF (λq=>a.uW.ownBlock=some q∨q=b) w w3:=bF.trans (bF.trans hE kL (H:=λq=>a.uW.ownBlock=some q) (λ_ _ h=>h.elim) (λ_ _ h=>h)) jd (λ_ _ h=>.inl h) (λ_ _ h=>.inr h)
 have Jo:=hE.size
 have hvn:∀ k,v'.ownBlock=some k→a.uW.ownBlock=some k∨w1.heap.size≤k:=λk hk=>by
  rcases hF with h1|⟨g,h1,h2⟩
  ·rw[h1]at hk;exact .inl hk
  ·rw[h1]at hk;cases hk;exact .inr h2
 have hxv:∀ k,x.2.ownBlock=some k→v'.ownBlock≠some k:=λk hk hv=>by
  have h1:=hxf k hk
  have h2:=hu.lt k hk
  rcases hvn k hv with h3|h3
  ·have:=h.lt k (by rw[h.tW k h3];decide);omega
  ·omega
 have xE:∀ k,a.T k≠0→oP (oP a.T v' 4) x.2 (16+a.ws.length) k=a.T k:=λk hk=>by
  have h1:=h.lt k hk
  rw[iW (λe=>by have:=hxf k e;omega)]
  by_cases h2:v'.ownBlock=some k
  ·rw[sH h2]
   rcases hvn k h2 with h3|h3
   ·exact(h.tW k h3).symm
   ·omega
  ·exact iW h2
 have vK:∀ {k t},a.T k=t→t≠0→oP (oP a.T v' 4) x.2 (16+a.ws.length) k=t:=λh1 h2=>by rw[xE _ (by rw[h1];exact h2),h1]
 have bT:∀ k t,a.T k=t→t≠0→t≠1→t≠4→¬ (a.uW.ownBlock=some k∨k=b):=λk t h1 _ h2 h3 hg=>by
  rcases hg with hg|hg
  ·have:=h.tW k hg;omega
  ·subst hg;have:=h.tb;omega
 refine⟨oP (oP a.T v' 4) x.2 (16+a.ws.length),⟨hB,h.lives.aW hM (λk hk=>bT _ _ (h.tL k hk) (by decide) (by decide) (by decide)),h.views.aW hM (λk hk=>bT _ _ (h.tV k hk) (by decide) (by decide) (by decide)),?_,?_,?_,vK h.tb (by decide),λk hk=>vK (h.tL k hk) (by decide),λk hk=>vK (h.tV k hk) (by decide),?_,?_⟩,?_⟩
 ·refine dQ.aW hV jd λk hk e=>?_
  subst e
  rcases hvn k hk with h3|h3
  ·have h4:=h.tW k h3;rw[h.tb]at h4;omega
  ·have:=h.gy.lt;omega
 ·intro i y hy
  obtain⟨h1,h2⟩:=h.isr i y hy
  exact⟨h1.aW hM (λk hk=>bT _ _ (h2 k hk) (by omega) (by omega) (by omega)),λk hk=>vK (h2 k hk) (by omega)⟩
 ·intro i y hy
  have QG:(a.ws++[x])[i]? =some y:=hy
  rcases Nat.lt_or_ge i a.ws.length with hi|hi
  ·rw[List.getElem?_append_left hi]at QG
   obtain⟨h1,h2⟩:=h.parts i y QG
   exact⟨h1.aW hM (λk hk=>bT _ _ (h2 k hk) (by omega) (by omega) (by omega)),λk hk=>vK (h2 k hk) (by omega)⟩
  ·rw[List.getElem?_append_right hi]at QG
   have hi0:i=a.ws.length:=by
    have:=(Ge QG).1
    simp at this;omega
   subst hi0
   rw[Nat.sub_self]at QG
   obtain rfl:x=y:=by simpa using QG
   refine⟨(hu.aW kL (λk hk e=>?_)).aW jd (λk hk e=>?_),λk hk=>sH hk⟩
   ·have h1:=hxf k hk
    have:=h.lt k (by rw[h.tW k e];decide);omega
   ·subst e;have h1:=hxf k hk;have:=h.gy.lt;omega
 ·intro k hk
  show oP (oP a.T v' 4) x.2 (16+a.ws.length) k=4
  rw[iW (λe=>hxv k e hk)];exact sH hk
 ·intro k hk
  have sF:oP (oP a.T v' 4) x.2 (16+a.ws.length) k≠0:=hk
  have s2:=kL.size
  have s3:=jd.size
  by_cases h1:x.2.ownBlock=some k
  ·have:=hu.lt k h1;omega
  ·rw[iW h1]at sF
   by_cases h2:v'.ownBlock=some k
   ·have:=hV.lt k h2;omega
   ·rw[iW h2]at sF
    have:=h.lt k sF;omega
 ·intro k hk
  by_cases h1:x.2.ownBlock=some k
  ·exact .inr (hxf k h1)
  ·rw[iW h1]at hk
   by_cases h2:v'.ownBlock=some k
   ·rcases hvn k h2 with h3|h3
    ·left;rw[h.tW k h3];decide
    ·right;omega
   ·rw[iW h2]at hk;exact .inl hk
end
theorem fB.begin {w:World} {b:Nat} {f:gB} {r:Value} {lv:List Bool} (hB:cO w b 121 6 (xR f r (.slice none 0 0) (.slice none 0 0))) (hr:dQ UQ 1 4 w r lv) (jm:r.ownBlock≠some b):
  fB w b ⟨r,.slice none 0 0,.slice none 0 0,[],[],oP (λk=>if k=b then 1 else 0) r 2⟩ f lv∧∀ k,oP (λk=>if k=b then 1 else 0) r 2 k≠0→k=b∨r.ownBlock=some k:=by
 have hk:∀ k,oP (λk=>if k=b then 1 else 0) r 2 k≠0→k=b∨r.ownBlock=some k:=λk hk=>by
  by_cases h1:r.ownBlock=some k
  ·exact .inr h1
  ·rw[iW h1]at hk
   by_cases h2:k=b
   ·exact .inl h2
   ·simp[h2]at hk
 refine⟨⟨hB,hr,dQ.nil _,dQ.nil _,λi x hx=>by simp at hx,λi x hx=>by simp at hx,?_,λk hk=>(sH hk:oP (λk=>if k=b then 1 else 0) r 2 k=2),λk hk=>(by cases hk),λk hk=>(by cases hk),λk h=>?_⟩,hk⟩
 ·show oP (λk=>if k=b then 1 else 0) r 2 b=1
  rw[iW jm];simp
 ·rcases hk k h with rfl|h1
  ·exact hB.lt
  ·exact hr.lt k h1
def Zn (w w':World) (bc:Nat) (f:gB) (lv:List Bool) (vs:List dL) (ws:List bW):Prop:=aB w w'∧∃ a,fB w' bc a f lv∧a.vs.map (·.1)=vs∧a.ws.map (·.1)=ws∧∀ k,a.T k≠0→w.heap.size≤k
theorem OG {w:World} {b:Nat} {F:Nat→Prop} {m:aH} (h:gX w b F m):gK Tryz.prog 60 #[.pointer (some ⟨b,0,none⟩)] w λr w'=>∃ b',r=.pointer (some ⟨b',0,none⟩)∧aB w w'∧w.heap.size≤b'∧gX w' b' (λk=>w.heap.size≤k) m:=by
 have HH:=Zh h
 obtain⟨a,hA,hF⟩:=h
 clear hF
 obtain⟨hlt,c0,c1,c2,c3,c4,c5⟩:=hA.cells
 obtain⟨AL,nL,cL,hL⟩:=aT hA.lives
 obtain⟨AV,nV,cV,hV⟩:=aT hA.views
 obtain⟨AW,nW,cW,hW⟩:=aT hA.lu
 have hnV:nV=a.vs.length:=by have:=dQ.rd (enc:=Pm) (k:=4) (λ_=>rfl) hA.views;rw[hV]at this;exact(this.length).symm▸rfl
 have hnW:nW=a.ws.length:=by have:=dQ.rd (enc:=Za) (k:=6) (λ_=>rfl) hA.lu;rw[hW]at this;exact(this.length).symm▸rfl
 rw[hL]at c3
 rw[hV]at c4
 rw[hW]at c5
 have HA:=Zh hA
 have HL:=Zh hL
 have HV:=Zh hV
 have HW:=Zh hW
 have Js:m.lives.length≤1000000:=by have:=hA.bU.lives;have:=gB.dX hA.bU.right;omega
 have hvl:a.vs.length≤4:=by have:=hA.xQ;have:=gB.dX hA.bU.right;omega
 have hwl:a.ws.length≤4:=by have:=hA.DT;have:=gB.dX hA.bU.right;omega
 subst hnV hnW
 clear hA hL hV hW
 refine Fi (n:=70) Tryz.func60 ?_;intro A hd hA;simp only[ix,Nat.reduceAdd]
 repeat'(first|refine aN Tryz.func121 ((HH.out.ah (by simp)).some) ?_|refine aF ?_|refine au ?_|refine ak (λK hK=>?_)|refine aj ?_|refine aG ?_|refine bJ ?_|go_step)
 refine dn [(0,0),(1,0),(2,0),(3,0),(4,0),(5,0),(6,0),(7,0),(8,1),(9,0),(10,1),(11,0)] (by kernel_rfl) (by kernel_rfl) ?_
 repeat'(first|refine aF ?_|fail)
 refine fF (R:=λw0 r w'=>aB w0 w'∧dQ UQ 1 4 w' r m.lives∧∀ q,r.ownBlock=some q→w0.heap.size≤q) Tryz.func122 (λz=>Qe (by have h:=dQ.rd (enc:=UQ) (k:=1) (λ_=>rfl) HA.out.lives;rw[HL.out]at h;exact h.ah z.ext) Js) (λz r w1 hR=>⟨hR.1,?_⟩)
 obtain⟨kY,Ba,QD⟩:=hR
 replace kY:=Et z.ext kY
 have Ot:Hid (∀q,r.ownBlock=some q→w.heap.size≤q):=Zh (λq hq=>Nat.le_trans z.ext.size (QD q hq))
 have QN:=Zh Ba
 obtain⟨A1,m1,d1,rfl⟩:=aT Ba
 obtain⟨y1,rfl⟩:=kY.get
 clear kY Ba QD
 repeat'(first|refine aF ?_|refine aQ ?_|refine au ?_|refine ak (λK hK=>?_)|refine aj ?_|refine aJ ?_|(refine dI (λx K hK=>?_);go_simp;refine hK _ _ (aB.alloc _ _) ?_;clear hK K;refine aZ x ?_;generalize (World.ah _ x).heap.size=bn;intro yn aU bD bC bG aS;clear x)|go_step)
 have CP:Hid (Zn w ((w.ah y1).ah yn) bn m.form m.lives [] []):=by
  have hB:=(cO.new aS.out).congr (g':=xR m.form (.slice A1 m1 d1) (.slice none 0 0) (.slice none 0 0)) (λk hk=>by
   obtain rfl|rfl|rfl|rfl|rfl|rfl:k=0∨k=1∨k=2∨k=3∨k=4∨k=5:=(by simp at hk;omega)
   all_goals rfl)
  obtain⟨h1,h2⟩:=fB.begin (lv:=m.lives) hB (QN.out.ah (by simp)) (λe=>by have:=QN.out.lt _ e;omega)
  refine Zh ⟨by simp,_,h1,rfl,rfl,λk hk=>?_⟩
  rcases h2 k hk with rfl|h3
  ·exact Nat.le_trans y1.ext.size aU
  ·exact Ot.out k h3
 have abN:w.heap.size≤bn:=Nat.le_trans y1.ext.size aU
 obtain⟨bc,hbc⟩:∃ q:Nat,q=bn:=⟨_,rfl⟩
 subst hbc
 generalize World.ah (World.ah w y1) yn=W0 at *
 clear aU bD bC bG aS QN Ot yn y1 z
 refine dJ [0,3,24,25,26] (λn vs w'=>∃ k:Nat,k+n=a.vs.length∧vs=[.pointer (some ⟨b,0,none⟩),.pointer (some ⟨bc,0,none⟩),.slice AV a.vs.length cV,.int .i64 a.vs.length,.int .i64 k]∧Zn w w' bc m.form m.lives (m.views.take k) []) a.vs.length hd hA (by decide) ⟨0,by omega,by simp[jW],by simpa using CP.out⟩ ?_
 clear hd hA A CP;intro n vs A w' hd hA _ ⟨k,hk,jk,hm⟩;subst jk
 have HMD:=Zh hm
 clear hm
 obtain⟨xP,ar,lJ,hrv,hrw,OH⟩:=HMD.out
 obtain⟨y,rfl⟩:=xP.get
 clear xP
 simp only[List.zip_cons_cons,List.zip_nil_right,List.zip_nil_left]
 by_cases Dt:k<a.vs.length
 ·have sZ:(k:Int)<a.vs.length:=by omega
  obtain⟨x,hx⟩:∃ x,a.vs[k]? =some x:=⟨_,List.getElem?_eq_getElem Dt⟩
  obtain⟨g,c',iZ,Dq,jT,hv⟩:=HA.out.views.Bf hx
  rw[HV.out]at iZ
  cases iZ
  obtain⟨lg,d0,d1,d2,d3⟩:=hv
  obtain⟨vM,-⟩:=HA.out.isr k x hx
  obtain⟨xv,xu⟩:=x
  dsimp only at vM d0 d1 d2 d3
  have jq:=Zh vM
  obtain⟨A3,m3,c3',rfl⟩:=aT vM
  have fK:=Zh lJ
  have OI:=Zh hrv
  have HRW:=Zh hrw
  have DW:=Zh OH
  have HX:=Zh hx
  have Xq:xv.isr.length≤1000000:=by
   have h1:=HA.out.bU.views xv (by rw[←HA.out.vm];exact List.mem_map.2 ⟨_,List.mem_of_getElem? hx,rfl⟩)
   have:=h1.MO (gB.dX HA.out.bU.right);omega
  obtain⟨Ar,nr,cr,hur⟩:=aT lJ.views
  have Uw:m.views[k]? =some xv:=by rw[←HA.out.vm,List.getElem?_map,hx];rfl
  have HXM:=Zh Uw
  have E5:=Zh hur
  have E8:bc<(w.ah y).heap.size:=lJ.gy.lt
  have Fz:=lJ.gy.cell (k:=4) (by omega)
  simp only[xR]at Fz
  rw[hur]at Fz
  clear vM lJ hrv hrw OH hx Uw hur
  repeat'(first|refine aF ?_|refine au ?_|(refine jr (λyn bn aU bD bC bG aS=>?_))|refine ak (λK hK=>?_)|refine aj ?_|refine aG ?_|refine aJ ?_|refine bH ?_|go_step)
  refine aX Tryz.func65 (fH ((dQ.Oj jq.out).rd.ah (by simp)) Xq) (λr w3 hR=>?_)
  obtain⟨jX,zy,yM⟩:=hR
  have oL:aB (w.ah y) w3:=Et (by simp) jX
  have HB:=Zh ((cO.new aS.out).ah jX)
  have Ox:=Zh zy
  have QT:Hid (∀q,r.ownBlock=some q→(w.ah y).heap.size≤q):=Zh (λq hq=>Nat.le_trans (gJ (by simp)) (yM q hq))
  have hrb:r.ownBlock≠some bn:=λe=>by have:=yM _ e;omega
  have aoM:(w.ah y).heap.size≤bn:=aU
  obtain⟨A4,m4,QL,rfl⟩:=aT zy
  have P5:=Zh oL
  have VO:=(bI oL E8 (λh=>h)).trans Fz
  have Qg:bc<w3.heap.size:=Nat.lt_of_lt_of_le E8 oL.size
  clear jX zy yM oL aU bD bC bG aS Fz d0 d1 d2 d3
  repeat'(first|refine aF ?_|fail)
  refine aY (off:=3) HB.out (λW4 hM hB=>?_)
  have Vu:=Zh (aB.bK P5.out hM (λq hq=>by subst hq;omega))
  have HO4:=Zh (Ox.out.aW hM (λq hq e=>hrb (by rw[←e];exact hq)))
  replace HB:=Zh hB
  have aoN:=(bI hM Qg (by omega)).trans VO
  have ahE:bc<W4.heap.size:=Nat.lt_of_lt_of_le Qg hM.size
  clear hM hB VO Qg P5 Ox
  have v0:=HB.out.cell (k:=0) (by simp)
  have v1:=HB.out.cell (k:=1) (by simp)
  have v2:=HB.out.cell (k:=2) (by simp)
  have v3:=HB.out.cell (k:=3) (by simp)
  simp[put,Value.cells]at v0 v1 v2 v3
  have hlv:=HB.out.lt
  repeat'(first|refine au ?_|go_step)
  refine dn [(0,0),(1,0),(2,0),(3,0),(4,0),(5,0),(6,1),(7,2),(8,0),(9,0),(10,2)] (by kernel_rfl) (by kernel_rfl) ?_
  repeat'(first|refine aF ?_|(refine dI (λx K hK=>?_);go_simp;refine hK _ _ (aB.alloc _ _) ?_;clear hK K;refine aZ x ?_;generalize (World.ah _ x).heap.size=bn;intro yn aU bD bC bG aS;clear x)|fail)
  have fE:aB W4 (W4.ah yn):=by simp
  refine LG (xs:=ar.vs) (ys:=[(xv,.slice A4 m4 QL)]) SQ (λy hy u hu=>by obtain rfl:=List.mem_singleton.1 hy;simp at hu;rcases hu with rfl|rfl|rfl|rfl<;>rfl) (by have h:=fK.out.views.ah (Et Vu.out fE);rw[E5.out]at h;exact h) (Rd.one (x:=(xv,Value.slice A4 m4 QL)) bD bC rfl) (by have:=OI.out;have:=HRW.out;have hl:ar.vs.length≤4:=(by have h1:=congrArg List.length OI.out;simp at h1;omega);simp;omega) (by have hl:ar.vs.length≤4:=(by have h1:=congrArg List.length OI.out;simp at h1;omega);unfold maxLen;simp;omega) (λv' W5 kJ vS BF=>?_)
  have hl5:=kJ.size
  have JA:=(Et Vu.out fE)
  have SX:=HO4.out.ah fE
  have aci:bc<W5.heap.size:=Nat.lt_of_lt_of_le ahE (Nat.le_trans fE.size kJ.size)
  have jm:¬ (Value.slice Ar nr cr).ownBlock=some bc:=λe=>by
   have h1:=fK.out.tV bc (by rw[E5.out];exact e)
   have h2:=fK.out.tb
   omega
  have pX:=(fK.out.gy.ah JA).aW kJ jm
  obtain⟨A6,m6,c6,rfl⟩:=aT vS
  have FD:=Zh pX
  have XU:=Zh vS
  have uo:=Zh kJ
  have MS:=Zh BF
  have acj:=Zh SX
  have SY:=Zh JA
  generalize World.ah W4 yn=V4 at *
  clear aU bD bC bG aS vS kJ BF SX JA pX jm fE v0 hlv
  repeat'(first|refine aF ?_|fail)
  refine aY (off:=4) FD.out (λW6 jP nY=>?_)
  obtain⟨T',tX,vK⟩:=fK.out.agf (v':=.slice A6 m6 c6) (x:=(xv,.slice A4 m4 QL)) SY.out (by rw[E5.out];exact uo.out) XU.out (by rw[E5.out];exact MS.out) acj.out QT.out jP (nY.congr (λq hq=>Ig q hq))
  have CQ:aB w W6:=aB.bK (Et y.ext SY.out) (bF.trans uo.out jP (H:=λq=>(Value.slice Ar nr cr).ownBlock=some q∨q=bc) (λ_ _ h=>.inl h) (λ_ _ h=>.inr h)) (λq hq=>by
   rcases hq with hq|rfl
   ·exact DW.out q (by rw[fK.out.tV q (by rw[E5.out];exact hq)];decide)
   ·exact abN)
  have Ux:Zn w W6 bc m.form m.lives (m.views.take (k+1)) []:=⟨CQ,_,tX,by show List.map (·.1) (ar.vs++[((xv,Value.slice A4 m4 QL):dL×Value)])=_;rw[List.map_append,OI.out,gV HXM.out];rfl,HRW.out,λq hq=>by
   rcases vK q hq with h1|h1
   ·exact DW.out q h1
   ·exact Nat.le_trans y.ext.size h1⟩
  have S9:=Zh Ux
  clear Ux tX vK CQ jP nY
  repeat'(first|refine aF ?_|refine aQ ?_|refine au ?_|refine aj ?_|go_step)
  exact⟨_,_,rfl,hd,hA,n-1,by omega,k+1,by omega,by simp[jW],S9.out⟩
 ·obtain rfl:k=a.vs.length:=by omega
  have CP:Hid (Zn w (w.ah y) bc m.form m.lives m.views []):=Zh (by
   have h:=HMD.out
   have hl:a.vs.length=m.views.length:=by rw[←HA.out.vm,List.length_map]
   rw[hl,List.take_length]at h
   exact h)
  clear HMD lJ hrv hrw OH
  repeat'(first|refine aF ?_|refine au ?_|refine ak (λK hK=>?_)|refine aj ?_|refine aJ ?_|refine dS ?_|refine bJ ?_|go_step)
  refine dJ [0,3,48,49,50] (λn vs w'=>∃ k:Nat,k+n=a.ws.length∧vs=[.pointer (some ⟨b,0,none⟩),.pointer (some ⟨bc,0,none⟩),.slice AW a.ws.length cW,.int .i64 a.ws.length,.int .i64 k]∧Zn w w' bc m.form m.lives m.views (m.eY.take k)) a.ws.length hd hA (by decide) ⟨0,by omega,by simp[jW],by simpa using CP.out⟩ ?_
  clear hd hA A CP;intro n vs A w' hd hA _ ⟨k,hk,jk,hm⟩;subst jk
  have HMD:=Zh hm
  clear hm
  obtain⟨xP,ar,lJ,hrv,hrw,OH⟩:=HMD.out
  obtain⟨y,rfl⟩:=xP.get
  clear xP
  simp only[List.zip_cons_cons,List.zip_nil_right,List.zip_nil_left]
  by_cases Dt:k<a.ws.length
  ·have sZ:(k:Int)<a.ws.length:=by omega
   obtain⟨x,hx⟩:∃ x,a.ws[k]? =some x:=⟨_,List.getElem?_eq_getElem Dt⟩
   obtain⟨g,c',iZ,Dq,jT,hv⟩:=HA.out.lu.Bd hx
   rw[HW.out]at iZ
   cases iZ
   obtain⟨lg,d0,d1,d2,d3,d4,d5⟩:=hv
   obtain⟨vM,-⟩:=HA.out.parts k x hx
   obtain⟨xv,xu⟩:=x
   dsimp only at vM d0 d1 d2 d3 d4 d5
   have jq:=Zh vM
   obtain⟨A3,m3,c3',rfl⟩:=aT vM
   have fK:=Zh lJ
   have OI:=Zh hrv
   have HRW:=Zh hrw
   have DW:=Zh OH
   have HX:=Zh hx
   have Xq:xv.parts.length≤1000000:=by
    have h1:=HA.out.bU.eY xv (by rw[←HA.out.wm];exact List.mem_map.2 ⟨_,List.mem_of_getElem? hx,rfl⟩)
    have:=h1.MO (gB.dX HA.out.bU.right);omega
   obtain⟨Ar,nr,cr,hur⟩:=aT lJ.lu
   have Uw:m.eY[k]? =some xv:=by rw[←HA.out.wm,List.getElem?_map,hx];rfl
   have HXM:=Zh Uw
   have E5:=Zh hur
   have E8:bc<(w.ah y).heap.size:=lJ.gy.lt
   have Fz:=lJ.gy.cell (k:=5) (by omega)
   simp only[xR]at Fz
   rw[hur]at Fz
   clear vM lJ hrv hrw OH hx Uw hur
   repeat'(first|refine aF ?_|refine au ?_|(refine jr (λyn bn aU bD bC bG aS=>?_))|refine ak (λK hK=>?_)|refine aj ?_|refine aG ?_|refine aJ ?_|refine bH ?_|go_step)
   refine aX Tryz.func65 (fH ((dQ.Oj jq.out).rd.ah (by simp)) Xq) (λr w3 hR=>?_)
   obtain⟨jX,zy,yM⟩:=hR
   have oL:aB (w.ah y) w3:=Et (by simp) jX
   have HB:=Zh ((cO.new aS.out).ah jX)
   have Ox:=Zh zy
   have QT:Hid (∀q,r.ownBlock=some q→(w.ah y).heap.size≤q):=Zh (λq hq=>Nat.le_trans (gJ (by simp)) (yM q hq))
   have hrb:r.ownBlock≠some bn:=λe=>by have:=yM _ e;omega
   have aoM:(w.ah y).heap.size≤bn:=aU
   obtain⟨A4,m4,QL,rfl⟩:=aT zy
   have P5:=Zh oL
   have VO:=(bI oL E8 (λh=>h)).trans Fz
   have Qg:bc<w3.heap.size:=Nat.lt_of_lt_of_le E8 oL.size
   clear jX zy yM oL aU bD bC bG aS Fz d0 d1 d2 d3 d4 d5
   repeat'(first|refine aF ?_|fail)
   refine aY (off:=3) HB.out (λW4 hM hB=>?_)
   have Vu:=Zh (aB.bK P5.out hM (λq hq=>by subst hq;omega))
   have HO4:=Zh (Ox.out.aW hM (λq hq e=>hrb (by rw[←e];exact hq)))
   replace HB:=Zh hB
   have aoN:=(bI hM Qg (by omega)).trans VO
   have ahE:bc<W4.heap.size:=Nat.lt_of_lt_of_le Qg hM.size
   clear hM hB VO Qg P5 Ox
   have v0:=HB.out.cell (k:=0) (by simp)
   have v1:=HB.out.cell (k:=1) (by simp)
   have v2:=HB.out.cell (k:=2) (by simp)
   have v3:=HB.out.cell (k:=3) (by simp)
   have v4:=HB.out.cell (k:=4) (by simp)
   have v5:=HB.out.cell (k:=5) (by simp)
   simp[put,Value.cells]at v0 v1 v2 v3 v4 v5
   have hlv:=HB.out.lt
   repeat'(first|refine au ?_|go_step)
   refine dn [(0,0),(1,0),(2,0),(3,0),(4,0),(5,0),(6,1),(7,2),(8,0),(9,0),(10,2)] (by kernel_rfl) (by kernel_rfl) ?_
   repeat'(first|refine aF ?_|(refine dI (λx K hK=>?_);go_simp;refine hK _ _ (aB.alloc _ _) ?_;clear hK K;refine aZ x ?_;generalize (World.ah _ x).heap.size=bn;intro yn aU bD bC bG aS;clear x)|fail)
   have fE:aB W4 (W4.ah yn):=by simp
   refine LG (xs:=ar.ws) (ys:=[(xv,.slice A4 m4 QL)]) SS (λy hy u hu=>by obtain rfl:=List.mem_singleton.1 hy;simp at hu;rcases hu with rfl|rfl|rfl|rfl|rfl|rfl<;>rfl) (by have h:=fK.out.lu.ah (Et Vu.out fE);rw[E5.out]at h;exact h) (Rd.one (x:=(xv,Value.slice A4 m4 QL)) bD bC rfl) (by have:=OI.out;have:=HRW.out;have hl:ar.ws.length≤4:=(by have h1:=congrArg List.length HRW.out;simp at h1;omega);simp;omega) (by have hl:ar.ws.length≤4:=(by have h1:=congrArg List.length HRW.out;simp at h1;omega);unfold maxLen;simp;omega) (λv' W5 kJ vS BF=>?_)
   have hl5:=kJ.size
   have JA:=(Et Vu.out fE)
   have SX:=HO4.out.ah fE
   have aci:bc<W5.heap.size:=Nat.lt_of_lt_of_le ahE (Nat.le_trans fE.size kJ.size)
   have jm:¬ (Value.slice Ar nr cr).ownBlock=some bc:=λe=>by
    have h1:=fK.out.tW bc (by rw[E5.out];exact e)
    have h2:=fK.out.tb
    omega
   have pX:=(fK.out.gy.ah JA).aW kJ jm
   obtain⟨A6,m6,c6,rfl⟩:=aT vS
   have FD:=Zh pX
   have XU:=Zh vS
   have uo:=Zh kJ
   have MS:=Zh BF
   have acj:=Zh SX
   have SY:=Zh JA
   generalize World.ah W4 yn=V4 at *
   clear aU bD bC bG aS vS kJ BF SX JA pX jm fE v0 hlv
   repeat'(first|refine aF ?_|fail)
   refine aY (off:=5) FD.out (λW6 jP nY=>?_)
   obtain⟨T',tX,vK⟩:=fK.out.agh (v':=.slice A6 m6 c6) (x:=(xv,.slice A4 m4 QL)) SY.out (by rw[E5.out];exact uo.out) XU.out (by rw[E5.out];exact MS.out) acj.out QT.out jP (nY.congr (λq hq=>OE q hq))
   have CQ:aB w W6:=aB.bK (Et y.ext SY.out) (bF.trans uo.out jP (H:=λq=>(Value.slice Ar nr cr).ownBlock=some q∨q=bc) (λ_ _ h=>.inl h) (λ_ _ h=>.inr h)) (λq hq=>by
    rcases hq with hq|rfl
    ·exact DW.out q (by rw[fK.out.tW q (by rw[E5.out];exact hq)];decide)
    ·exact abN)
   have Ux:Zn w W6 bc m.form m.lives m.views (m.eY.take (k+1)):=⟨CQ,_,tX,OI.out,by show List.map (·.1) (ar.ws++[((xv,Value.slice A4 m4 QL):bW×Value)])=_;rw[List.map_append,HRW.out,gV HXM.out];rfl,λq hq=>by
    rcases vK q hq with h1|h1
    ·exact DW.out q h1
    ·exact Nat.le_trans y.ext.size h1⟩
   have S9:=Zh Ux
   clear Ux tX vK CQ jP nY
   repeat'(first|refine aF ?_|refine aQ ?_|refine au ?_|refine aj ?_|go_step)
   exact⟨_,_,rfl,hd,hA,n-1,by omega,k+1,by omega,by simp[jW],S9.out⟩
  ·obtain rfl:k=a.ws.length:=by omega
   have fK:=Zh lJ
   have OI:=Zh hrv
   have DW:=Zh OH
   have akI:ar.ws.map (·.1)=m.eY:=by
    have hl:a.ws.length=m.eY.length:=by rw[←HA.out.wm,List.length_map]
    rw[hrw,hl,List.take_length]
   have HRW:=Zh akI
   clear HMD lJ hrv hrw OH akI
   repeat'(first|refine aF ?_|refine au ?_|refine ak (λK hK=>?_)|refine aj ?_|refine aC ?_|refine dS ?_|refine bJ ?_|go_step)
   exact aA hd ⟨bc,rfl,y.ext,abN,ar,fK.out.adq OI.out HRW.out HA.out.bU,DW.out⟩
section
variable {w w1 w2 w3 : World} {b bc : Nat} {a ac : yg} {f : gB} {lv lvc : List Bool} {G F : Nat → Prop} {m : aH}
theorem fB.Sj {i:Nat} {x:dL×Value} (h:fB w b a f lv) (hi:i<8) (hM:bF G w w1) (hG:∀ k,a.T k≠0→a.T k≠3→a.T k≠8+i→¬ G k) (hV:dQ Pm 4 45 w1 a.uV (a.vs.set i x)) (hu:ig w1 x.2 x.1.isr) (hTu:∀ k,x.2.ownBlock=some k→a.T k=8+i):
  fB w1 b {a with vs:=a.vs.set i x} f lv:=by
 have bT:∀ k t,a.T k=t→t≠0→t≠3→t≠8+i→¬ G k:=λk t h1 h2 h3 h4=>hG k (by omega) (by omega) (by omega)
 refine⟨h.gy.aW hM (bT _ _ h.tb (by decide) (by decide) (by omega)),h.lives.aW hM (λk hk=>bT _ _ (h.tL k hk) (by decide) (by decide) (by omega)),hV,h.lu.aW hM (λk hk=>bT _ _ (h.tW k hk) (by decide) (by decide) (by omega)),?_,?_,h.tb,h.tL,h.tV,h.tW,λk hk=>Nat.lt_of_lt_of_le (h.lt k hk) hM.size⟩
 ·intro j y hy
  have QG:(a.vs.set i x)[j]? =some y:=hy
  by_cases hj:j=i
  ·subst hj
   have hlt:j<a.vs.length:=by have:=(Ge QG).1;rwa [List.length_set]at this
   rw[List.getElem?_set_self hlt]at QG
   cases QG
   exact⟨hu,hTu⟩
  ·rw[List.getElem?_set_ne (λe=>hj e.symm)]at QG
   obtain⟨h1,h2⟩:=h.isr j y QG
   exact⟨h1.aW hM (λk hk=>bT _ _ (h2 k hk) (by omega) (by omega) (by omega)),h2⟩
 ·intro j y hy
  obtain⟨h1,h2⟩:=h.parts j y hy
  exact⟨h1.aW hM (λk hk=>bT _ _ (h2 k hk) (by omega) (by omega) (by omega)),h2⟩
theorem fZ.fence (hA:fZ w b a m) (hF:∀ k,a.T k≠0→F k) (hE:aB w w1) (hC:fB w1 bc ac f lvc) (hCT:∀ k,ac.T k≠0→w.heap.size≤k) (Fg:ac.vs.length≤4) (x:Int) (kL:bF (λq=>a.uL.ownBlock=some q) w1 w2) (hL:dQ UQ 1 4 w2 a.uL (m.lives.set x.toNat false))
  (jd:bF (· =b) w2 w3) (hB:cO w3 b 121 6 (xR m.form a.uL ac.uV a.uW)) {m':aH} (uD:m'={m.qo x false with views:=ac.vs.map (·.1)}) (hg:m'.dH):wS w b F m' w3:=by
 subst uD
 have hA1:=hA.ah hE
 have hLo:∀ q,a.uL.ownBlock=some q→a.T q=2:=hA.tL
 have hM:bF (λq=>a.T q=2∨q=b) w1 w3:=bF.trans kL jd (λq _ h=>.inl (hLo q h)) (λq _ h=>.inr h)
 have hbt:=hA.tb
 have aqv:b<w.heap.size:=hA.gy.lt
 have xE:∀ q,a.T q≠0→q<w.heap.size:=hA.lt
 have hTo:∀ q t,a.T q=t→t≠0→(λk=>if k<w.heap.size then a.T k else if ac.T k=3∨8≤ac.T k then ac.T k else 0) q=t:=λq t h1 h2=>by
  show (if q<w.heap.size then _ else _)=t
  rw[if_pos (xE q (by omega))];exact h1
 have hTn:∀ q t,ac.T q=t→t=3∨8≤t→(λk=>if k<w.heap.size then a.T k else if ac.T k=3∨8≤ac.T k then ac.T k else 0) q=t:=λq t h1 h2=>by
  show (if q<w.heap.size then _ else _)=t
  have:=hCT q (by omega)
  rw[if_neg (by omega),if_pos (by omega)];exact h1
 have akK:∀ q t,a.T q=t→t≠2→t≠1→¬ (a.T q=2∨q=b):=λq t h1 h2 h3 h4=>by
  rcases h4 with h4|h4
  ·omega
  ·subst h4;omega
 have akL:∀ q t,ac.T q=t→t≠0→¬ (a.T q=2∨q=b):=λq t h1 h2 h4=>by
  have:=hCT q (by omega)
  rcases h4 with h4|h4
  ·have:=xE q (by omega);omega
  ·subst h4;omega
 refine⟨bF.trans hE hM (λ_ _ h=>h.elim) (λq _ h=>?_),⟨a.uL,ac.uV,a.uW,ac.vs,a.ws,λk=>if k<w.heap.size then a.T k else if ac.T k=3∨8≤ac.T k then ac.T k else 0⟩,⟨hB,?_,?_,?_,rfl,hA.wm,?_,?_,hTo _ _ hA.tb (by decide),λk hk=>hTo _ _ (hA.tL k hk) (by decide),λk hk=>hTn _ _ (hC.tV k hk) (by decide),λk hk=>hTo _ _ (hA.tW k hk) (by decide),?_,hg⟩,?_⟩
 ·rcases h with h|h
  ·exact hF q (by omega)
  ·subst h;exact hF q (by omega)
 ·exact hL.aW jd (λk hk e=>by subst e;have:=hA.tL k hk;omega)
 ·exact hC.views.aW hM (λk hk=>akL _ _ (hC.tV k hk) (by decide))
 ·exact hA1.lu.aW hM (λk hk=>akK _ _ (hA.tW k hk) (by decide) (by decide))
 ·intro i y hy
  obtain⟨h1,h2⟩:=hC.isr i y hy
  exact⟨h1.aW hM (λk hk=>akL _ _ (h2 k hk) (by omega)),λk hk=>hTn _ _ (h2 k hk) (.inr (by omega))⟩
 ·intro i y hy
  obtain⟨h1,h2⟩:=hA1.parts i y hy
  exact⟨h1.aW hM (λk hk=>akK _ _ (h2 k hk) (by omega) (by omega)),λk hk=>hTo _ _ (h2 k hk) (by omega)⟩
 ·intro k hk
  have sF:(if k<w.heap.size then a.T k else if ac.T k=3∨8≤ac.T k then ac.T k else 0)≠0:=hk
  have s1:=hE.size
  have s3:=hM.size
  by_cases h1:k<w.heap.size
  ·omega
  ·rw[if_neg h1]at sF
   have:=hC.lt k (λe=>by rw[e]at sF;simp at sF)
   omega
 ·intro k hk
  have sF:(if k<w.heap.size then a.T k else if ac.T k=3∨8≤ac.T k then ac.T k else 0)≠0:=hk
  by_cases h1:k<w.heap.size
  ·rw[if_pos h1]at sF;exact .inl (hF k sF)
  ·exact .inr (by omega)
end
def qx (m:aH) (x:Int) (k:Nat):List dL:=(m.views.take k).map (λv=>(aH.fenced x v).getD v)++m.views.drop k
theorem Qh (m:aH) (x:Int):qx m x 0=m.views:=by simp[qx]
theorem Tc (m:aH) (x:Int):qx m x m.views.length=m.views.map (λv=>(aH.fenced x v).getD v):=by simp[qx]
theorem CS {m:aH} {x:Int} {k:Nat} (hk:k<m.views.length):(qx m x k)[k]? =m.views[k]? :=by
 unfold qx
 have hl:((m.views.take k).map (λv=>(aH.fenced x v).getD v)).length=k:=by simp;omega
 rw[List.getElem?_append_right (by omega),hl,Nat.sub_self,List.getElem?_drop,Nat.add_zero]
theorem rW {m:aH} {x:Int} {k:Nat} {v:dL} (hv:m.views[k]? =some v):(qx m x k).set k ((aH.fenced x v).getD v)=qx m x (k+1):=by
 have hk:=(Ge hv).1
 have hl:((m.views.take k).map (λv=>(aH.fenced x v).getD v)).length=k:=by simp;omega
 have hd:m.views.drop k=v::m.views.drop (k+1):=by
  rw[List.drop_eq_getElem_cons hk]
  rw[List.getElem?_eq_getElem hk]at hv
  cases hv;rfl
 unfold qx
 rw[List.set_append_right _ _ (by omega),hl,Nat.sub_self,hd,List.set_cons_zero,gV hv,List.map_append,List.append_assoc]
 rfl
end Go.Ws
