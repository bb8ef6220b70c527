/- Lemmas for the statements of this layer (joined texts); no condition. -/
import Derived.Test.YtdabdbmehmccnaaGreatCa01
import Derived.Test.YtdabdbmehmccnaaGreatCa05
import Derived.Test.YtdabdbmehmccnaaGreatCa10
import Derived.Test.YtdabdbmehmccnaaGreatCa13
namespace Go.Ws
open Go Go.RowKit Go.Proofs
set_option maxHeartbeats 4000000
set_option maxRecDepth 100000
set_option linter.unusedVariables false
set_option linter.unusedSimpArgs false
section
variable {P : Program} {Q : jo} {A : Act} {fl : List (Nat × Value)} {ops : Array Oper} {o : Oper} {w : World}
theorem kW {rest:List (Oper×Nat)} {x y:Operand} {t e:TypeId} {d n k:Nat} {cs:Array Value} {v:Value} (hu:P.underlying t=some (.array n e)) (ha:∀ W,(isAgg e).run P W=.ok false W) (hs:∀ W,(sizeOf e).run P W=.ok 1 W) (hk:k<n) (hv:cs[k]? =some v)
  (h:jh P ops Q rest (fr ((d,v)::fl) A) w) (ho:o.op=.index t x y:=by rfl) (hd:o.dst=some d:=by rfl) (hg:o.guard=none:=by rfl)
  (hx:Is ((fr fl A).eval x) (.agg cs):=by go_simp;exact Is.mk _) (hy:Is ((fr fl A).eval y) (.int .i64 (k:Nat)):=by go_simp;exact Is.mk _):jh P ops Q ((o,0)::rest) (fr fl A) w:=
 aF h hd hg λX=>by
  have e1:∀ W,(Instr.index t (.agg cs) (.int .i64 (k:Nat))).run P W=.ok v W:=λW=>by
   unfold Instr.index
   simp only[asIntOf,Sem.run_bind,Sem.run_pure,Result.andThen_ok,run_underlying hu]
   rw[if_pos ⟨by omega,by omega⟩]
   simp[Sem.run_bind,hs,part,ha,hv]
  unfold Oper.quietAt execOp
  simp only[ho,hx.eq,hy.eq,Sem.run_bind,e1,Result.andThen_ok,Sem.run_pure,Oper.quietUpon]
  exact⟨trivial,trivial⟩
end
section
variable {w : World} {b : Nat} {F : Nat → Prop} {c : aO} {x : bV}
abbrev vT (w:World) (b:Nat) (F:Nat→Prop) (c:aO) (x:bV) (f:FuncId):Prop:=
 gK Tryz.prog f #[.pointer (some ⟨b,0,none⟩),x.v] w λr w'=>r=.int .i64 (c.step x).2∧eP w b F (c.step x).1 w'
theorem ZG (h:iO w b F c) (hk:x.kind=1):vT w b F c x 45:=by
 refine gK.mono (VY x h) (λr w2 hR=>?_)
 obtain⟨rfl,bP⟩:=hR
 have e:c.step x=({c with ctl:=c.ctl.oK x.a x.b (x.c != 0)},c.ctl.oJ x.a x.b (x.c != 0)):=by unfold aO.step;simp[hk]
 rw[e]
 exact⟨rfl,bP⟩
theorem ZH (h:iO w b F c) (hk:x.kind=2):vT w b F c x 46:=by
 refine gK.mono (VZ x h) (λr w2 hR=>?_)
 obtain⟨rfl,bP⟩:=hR
 have e:c.step x=({c with ctl:=c.ctl.fence x.a},c.ctl.iV x.a):=by unfold aO.step;simp[hk]
 rw[e]
 exact⟨rfl,bP⟩
theorem ZI (h:iO w b F c) (hk:x.kind=3):vT w b F c x 47:=by
 refine gK.mono (NH x h) (λr w2 hR=>?_)
 obtain⟨rfl,bP⟩:=hR
 have e:c.step x=({c with ctl:=c.ctl.lV x.a},c.ctl.nR x.a):=by unfold aO.step;simp[hk]
 rw[e]
 exact⟨rfl,bP⟩
theorem ZJ (h:iO w b F c) (hk:x.kind=4):vT w b F c x 48:=by
 refine gK.mono (Zy x h) (λr w2 hR=>?_)
 obtain⟨rfl,bP⟩:=hR
 by_cases hq:(c.ctl.part x.a&&c.ctl.aV x.b)=false
 ·rw[if_pos hq]at bP ⊢
  have e:c.step x=(c,2):=by unfold aO.step;simp only[hk];simp[hq]
  rw[e];exact⟨rfl,bP⟩
 ·rw[if_neg hq]at bP ⊢
  have jM:c.step x=c.one x:=by unfold aO.step;simp only[hk];simp[hq]
  rw[jM]
  unfold aO.one;simp[hk];exact bP
theorem ZK (h:iO w b F c) (hk:x.kind=5):vT w b F c x 49:=by
 refine gK.mono (V8 x h) (λr w2 hR=>?_)
 obtain⟨rfl,bP⟩:=hR
 by_cases hq:(c.ctl.part x.a&&c.ctl.aV x.b)=false
 ·rw[if_pos hq]at bP ⊢
  have e:c.step x=(c,2):=by unfold aO.step;simp only[hk];simp[hq]
  rw[e];exact⟨rfl,bP⟩
 ·rw[if_neg hq]at bP ⊢
  have jM:c.step x=c.one x:=by unfold aO.step;simp only[hk];simp[hq]
  rw[jM]
  unfold aO.one;simp only[hk]
  by_cases h1:c.ctl.aV x.c=false
  ·rw[if_pos h1]at bP ⊢;simp[h1];exact bP
  ·rw[if_neg h1]at bP ⊢
   by_cases h2:(c.rep x.a x.b).role=2
   ·rw[if_pos h2]at bP ⊢;simp[h1,h2];exact bP
   ·rw[if_neg h2]at bP ⊢;simp[h1,h2];exact bP
theorem ZL (h:iO w b F c) (hk:x.kind=6):vT w b F c x 50:=by
 refine gK.mono (V6 x h) (λr w2 hR=>?_)
 obtain⟨rfl,bP⟩:=hR
 by_cases hq:(c.ctl.part x.a&&c.ctl.aV x.b)=false
 ·rw[if_pos hq]at bP ⊢
  have e:c.step x=(c,2):=by unfold aO.step;simp only[hk];simp[hq]
  rw[e];exact⟨rfl,bP⟩
 ·rw[if_neg hq]at bP ⊢
  have jM:c.step x=c.one x:=by unfold aO.step;simp only[hk];simp[hq]
  rw[jM]
  unfold aO.one;simp[hk];exact bP
theorem ZM (h:iO w b F c) (hk:x.kind=7):vT w b F c x 51:=by
 refine gK.mono (V9 x h) (λr w2 hR=>?_)
 obtain⟨rfl,bP⟩:=hR
 by_cases hq:(c.ctl.aV x.a=false∨x.b<0)
 ·rw[if_pos hq]at bP ⊢
  have e:c.step x=(c,2):=by unfold aO.step;simp only[hk];simp[hq]
  rw[e];exact⟨rfl,bP⟩
 ·rw[if_neg hq]at bP ⊢
  have e:c.step x=(aO.jw x.a x.b (qU c.ctl.form.parts) c,0):=by unfold aO.step;simp only[hk];simp[hq]
  rw[e];exact⟨rfl,bP⟩
theorem ZN (h:iO w b F c) (hk:x.kind=8):vT w b F c x 52:=by
 refine gK.mono (Qq x h) (λr w2 hR=>?_)
 obtain⟨rfl,bP⟩:=hR
 by_cases hq:(c.ctl.part x.a&&c.ctl.aV x.b)=false
 ·rw[if_pos hq]at bP ⊢
  have e:c.step x=(c,2):=by unfold aO.step;simp only[hk];simp[hq]
  rw[e];exact⟨rfl,bP⟩
 ·rw[if_neg hq]at bP ⊢
  have jM:c.step x=c.one x:=by unfold aO.step;simp only[hk];simp[hq]
  rw[jM]
  unfold aO.one;simp only[hk]
  by_cases h1:x.c<0∨2^c.ctl.form.aK.toNat≤x.c
  ·rw[if_pos h1]at bP ⊢;simp[h1];exact bP
  ·rw[if_neg h1]at bP ⊢
   by_cases h2:(c.rep x.a x.b).jS (aO.lK c.ctl.form.aK x.c)=0
   ·rw[if_pos h2]at bP;simp[h1,h2];exact bP
   ·rw[if_neg h2]at bP;simp[h1,h2];exact bP
theorem ZO (h:iO w b F c) (hk:x.kind=9):vT w b F c x 53:=by
 refine gK.mono (ZC x h) (λr w2 hR=>?_)
 obtain⟨rfl,bP⟩:=hR
 have e:c.step x=((c.mark x.a).1,(c.mark x.a).2):=by unfold aO.step;simp[hk]
 rw[e]
 exact⟨rfl,bP⟩
theorem Wu (h:iO w b F c) (hk:x.kind=10):vT w b F c x 54:=by
 refine gK.mono (TN x h) (λr w2 hR=>?_)
 obtain⟨rfl,bP⟩:=hR
 by_cases hq:(c.ctl.part x.a&&c.ctl.aV x.b)=false
 ·rw[if_pos hq]at bP ⊢
  have e:c.step x=(c,2):=by unfold aO.step;simp only[hk];simp[hq]
  rw[e];exact⟨rfl,bP⟩
 ·rw[if_neg hq]at bP ⊢
  have jM:c.step x=c.one x:=by unfold aO.step;simp only[hk];simp[hq]
  rw[jM]
  unfold aO.one;simp only[hk]
  by_cases h1:(c.rep x.a x.b).role≠3
  ·rw[if_pos h1]at bP ⊢;simp[h1];exact bP
  ·rw[if_neg h1]at bP ⊢
   have h2:(c.rep x.a x.b).role=3:=Classical.byContradiction h1
   simp[h2];exact bP
theorem Wv (h:iO w b F c) (hk:x.kind=11):vT w b F c x 55:=by
 refine gK.mono (Qp x h) (λr w2 hR=>?_)
 obtain⟨rfl,bP⟩:=hR
 by_cases hq:c.iq.length=0
 ·rw[if_pos hq]at bP ⊢
  have e:c.step x=(c,5):=by unfold aO.step aO.rC;simp only[hk];simp[hq]
  rw[e];exact⟨rfl,bP⟩
 ·rw[if_neg hq]at bP ⊢
  have e:c.step x=(c.lq (c.l7 x.a)).lC (c.iq.getD (c.l7 x.a) eu.zero):=by unfold aO.step aO.rC;simp only[hk];rw[if_neg (by decide),if_neg (by decide),if_neg (by decide),if_neg (by decide),if_neg (by decide),if_pos (by decide),if_neg hq];simp
  rw[e];exact⟨rfl,bP⟩
theorem Wx (h:iO w b F c) (hk:x.kind=12):vT w b F c x 56:=by
 refine gK.mono (TI x h) (λr w2 hR=>?_)
 obtain⟨rfl,bP⟩:=hR
 by_cases hq:c.iq.length=0
 ·rw[if_pos hq]at bP ⊢
  have e:c.step x=(c,5):=by unfold aO.step aO.rC;simp only[hk];simp[hq]
  rw[e];exact⟨rfl,bP⟩
 ·rw[if_neg hq]at bP ⊢
  have e:c.step x=c.lC (c.iq.getD (c.l7 x.a) eu.zero):=by unfold aO.step aO.rC;simp only[hk];rw[if_neg (by decide),if_neg (by decide),if_neg (by decide),if_neg (by decide),if_neg (by decide),if_pos (by decide),if_neg hq];simp
  rw[e];exact⟨rfl,bP⟩
theorem Wy (h:iO w b F c) (hk:x.kind=13):vT w b F c x 57:=by
 refine gK.mono (ZA x h) (λr w2 hR=>?_)
 obtain⟨rfl,bP⟩:=hR
 by_cases hq:c.iq.length=0
 ·rw[if_pos hq]at bP ⊢
  have e:c.step x=(c,5):=by unfold aO.step aO.rC;simp only[hk];simp[hq]
  rw[e];exact⟨rfl,bP⟩
 ·rw[if_neg hq]at bP ⊢
  have e:c.step x=(c.lq (c.l7 x.a),0):=by unfold aO.step aO.rC;simp only[hk];rw[if_neg (by decide),if_neg (by decide),if_neg (by decide),if_neg (by decide),if_neg (by decide),if_pos (by decide),if_neg hq];simp
  rw[e];exact⟨rfl,bP⟩
theorem WA (h:iO w b F c) (hk:x.kind=14):vT w b F c x 58:=by
 refine gK.mono (V7 x h) (λr w2 hR=>?_)
 obtain⟨rfl,bP⟩:=hR
 by_cases hq:(c.ctl.part x.a&&c.ctl.aV x.b)=false
 ·rw[if_pos hq]at bP ⊢
  have e:c.step x=(c,2):=by unfold aO.step;simp only[hk];simp[hq]
  rw[e];exact⟨rfl,bP⟩
 ·rw[if_neg hq]at bP ⊢
  have jM:c.step x=c.one x:=by unfold aO.step;simp only[hk];simp[hq]
  rw[jM]
  unfold aO.one;simp[hk];exact bP
theorem WB (h:iO w b F c) (hk:x.kind=15):vT w b F c x 59:=by
 refine gK.mono (Tt x h) (λr w2 hR=>?_)
 obtain⟨rfl,bP⟩:=hR
 have e:c.step x=((c.qL x.a).1,(c.qL x.a).2):=by unfold aO.step;simp[hk]
 rw[e]
 exact⟨rfl,bP⟩
end
theorem TQ {w:World} {b:Nat} {F:Nat→Prop} {c:aO} (x:bV) (h:iO w b F c):vT w b F c x 14:=by
 obtain⟨kind,xa,xb,xc⟩:=x
 have HH:=Zh h
 by_cases JF:kind<1
 ·have e:c.step ⟨kind,xa,xb,xc⟩=(c,2):=by
   unfold aO.step;dsimp only
   rw[if_neg (by omega),if_neg (by omega),if_neg (by omega),if_neg (by omega),if_neg (by omega),if_neg (by omega),if_neg (by omega),if_neg (by omega)]
  have HX:=Zh e
  clear h e
  show gK _ _ _ _ _
  refine Fi (n:=53) Tryz.func14 ?_;intro A hd hA;simp only[ix,Nat.reduceAdd]
  repeat'(first|refine aN Tryz.func44 ((HH.out.ah (by simp)).some) ?_|refine aF ?_|refine mg ?_|refine jF ?_|refine au ?_|refine ak (λK hK=>?_)|refine aj ?_|refine aC ?_|refine aJ ?_|(refine dI (λx K hK=>?_);go_simp;refine hK _ _ (aB.alloc _ _) ?_;clear hK K;refine aZ x ?_;generalize (World.ah _ x).heap.size=bn;intro yn aU bD bC bG aS;clear x)|refine bH ?_|refine bJ ?_|go_step)
  exact aA hd (by rw[HX.out];exact⟨rfl,HH.out.jc (by simp)⟩)
 ·by_cases hk2:15<kind
  ·have e:c.step ⟨kind,xa,xb,xc⟩=(c,2):=by
    unfold aO.step;dsimp only
    rw[if_neg (by omega),if_neg (by omega),if_neg (by omega),if_neg (by omega),if_neg (by omega),if_neg (by omega),if_neg (by omega),if_neg (by omega)]
   have HX:=Zh e
   clear h e
   show gK _ _ _ _ _
   refine Fi (n:=53) Tryz.func14 ?_;intro A hd hA;simp only[ix,Nat.reduceAdd]
   repeat'(first|refine aN Tryz.func44 ((HH.out.ah (by simp)).some) ?_|refine dw ?_|refine aF ?_|refine au ?_|refine ak (λK hK=>?_)|refine aj ?_|refine aC ?_|refine aJ ?_|(refine dI (λx K hK=>?_);go_simp;refine hK _ _ (aB.alloc _ _) ?_;clear hK K;refine aZ x ?_;generalize (World.ah _ x).heap.size=bn;intro yn aU bD bC bG aS;clear x)|refine bH ?_|refine bJ ?_|go_step)
   exact aA hd (by rw[HX.out];exact⟨rfl,HH.out.jc (by simp)⟩)
  ·clear h
   show gK _ _ _ _ _
   refine Fi (n:=53) Tryz.func14 ?_;intro A hd hA;simp only[ix,Nat.reduceAdd]
   repeat'(first|refine aN Tryz.func44 ((HH.out.ah (by simp)).some) ?_|refine dw ?_|refine aF ?_|refine au ?_|refine ak (λK hK=>?_)|refine aj ?_|refine aG ?_|refine aJ ?_|(refine dI (λx K hK=>?_);go_simp;refine hK _ _ (aB.alloc _ _) ?_;clear hK K;refine aZ x ?_;generalize (World.ah _ x).heap.size=bn;intro yn aU bD bC bG aS;clear x)|refine bJ ?_|go_step)
   refine dA (by kernel_rfl) (by kernel_rfl) ?_
   repeat'(first|refine aF ?_|fail)
   have hkk:kind=1∨kind=2∨kind=3∨kind=4∨kind=5∨kind=6∨kind=7∨kind=8∨kind=9∨kind=10∨kind=11∨kind=12∨kind=13∨kind=14∨kind=15:=by omega
   clear JF hk2
   rcases hkk with rfl|rfl|rfl|rfl|rfl|rfl|rfl|rfl|rfl|rfl|rfl|rfl|rfl|rfl|rfl
   ·refine kW (k:=1) Tryz.underlying113 Tryz.isAgg37 (λW=>by kernel_rfl) (by omega) rfl ?_
    repeat'(first|refine aF ?_|fail)
    refine dM (first:= #[.pointer (some ⟨b,0,none⟩)]) (captured:= #[]) (lv:=[.agg #[.int .i64 1,.int .i64 xa,.int .i64 xb,.int .i64 xc]]) Tryz.func45 (ZG (x:=⟨1,xa,xb,xc⟩) (HH.out.ah (by simp)) rfl) (λr w2 hR=>?_)
    obtain⟨rfl,bP⟩:=hR
    have jG:=Zh (bP.ext (w:=w) (by simp))
    clear bP
    repeat'(first|refine aF ?_|refine aQ ?_|refine aC ?_|go_step)
    exact aA hd ⟨rfl,jG.out⟩
   ·refine kW (k:=2) Tryz.underlying113 Tryz.isAgg37 (λW=>by kernel_rfl) (by omega) rfl ?_
    repeat'(first|refine aF ?_|fail)
    refine dM (first:= #[.pointer (some ⟨b,0,none⟩)]) (captured:= #[]) (lv:=[.agg #[.int .i64 2,.int .i64 xa,.int .i64 xb,.int .i64 xc]]) Tryz.func46 (ZH (x:=⟨2,xa,xb,xc⟩) (HH.out.ah (by simp)) rfl) (λr w2 hR=>?_)
    obtain⟨rfl,bP⟩:=hR
    have jG:=Zh (bP.ext (w:=w) (by simp))
    clear bP
    repeat'(first|refine aF ?_|refine aQ ?_|refine aC ?_|go_step)
    exact aA hd ⟨rfl,jG.out⟩
   ·refine kW (k:=3) Tryz.underlying113 Tryz.isAgg37 (λW=>by kernel_rfl) (by omega) rfl ?_
    repeat'(first|refine aF ?_|fail)
    refine dM (first:= #[.pointer (some ⟨b,0,none⟩)]) (captured:= #[]) (lv:=[.agg #[.int .i64 3,.int .i64 xa,.int .i64 xb,.int .i64 xc]]) Tryz.func47 (ZI (x:=⟨3,xa,xb,xc⟩) (HH.out.ah (by simp)) rfl) (λr w2 hR=>?_)
    obtain⟨rfl,bP⟩:=hR
    have jG:=Zh (bP.ext (w:=w) (by simp))
    clear bP
    repeat'(first|refine aF ?_|refine aQ ?_|refine aC ?_|go_step)
    exact aA hd ⟨rfl,jG.out⟩
   ·refine kW (k:=4) Tryz.underlying113 Tryz.isAgg37 (λW=>by kernel_rfl) (by omega) rfl ?_
    repeat'(first|refine aF ?_|fail)
    refine dM (first:= #[.pointer (some ⟨b,0,none⟩)]) (captured:= #[]) (lv:=[.agg #[.int .i64 4,.int .i64 xa,.int .i64 xb,.int .i64 xc]]) Tryz.func48 (ZJ (x:=⟨4,xa,xb,xc⟩) (HH.out.ah (by simp)) rfl) (λr w2 hR=>?_)
    obtain⟨rfl,bP⟩:=hR
    have jG:=Zh (bP.ext (w:=w) (by simp))
    clear bP
    repeat'(first|refine aF ?_|refine aQ ?_|refine aC ?_|go_step)
    exact aA hd ⟨rfl,jG.out⟩
   ·refine kW (k:=5) Tryz.underlying113 Tryz.isAgg37 (λW=>by kernel_rfl) (by omega) rfl ?_
    repeat'(first|refine aF ?_|fail)
    refine dM (first:= #[.pointer (some ⟨b,0,none⟩)]) (captured:= #[]) (lv:=[.agg #[.int .i64 5,.int .i64 xa,.int .i64 xb,.int .i64 xc]]) Tryz.func49 (ZK (x:=⟨5,xa,xb,xc⟩) (HH.out.ah (by simp)) rfl) (λr w2 hR=>?_)
    obtain⟨rfl,bP⟩:=hR
    have jG:=Zh (bP.ext (w:=w) (by simp))
    clear bP
    repeat'(first|refine aF ?_|refine aQ ?_|refine aC ?_|go_step)
    exact aA hd ⟨rfl,jG.out⟩
   ·refine kW (k:=6) Tryz.underlying113 Tryz.isAgg37 (λW=>by kernel_rfl) (by omega) rfl ?_
    repeat'(first|refine aF ?_|fail)
    refine dM (first:= #[.pointer (some ⟨b,0,none⟩)]) (captured:= #[]) (lv:=[.agg #[.int .i64 6,.int .i64 xa,.int .i64 xb,.int .i64 xc]]) Tryz.func50 (ZL (x:=⟨6,xa,xb,xc⟩) (HH.out.ah (by simp)) rfl) (λr w2 hR=>?_)
    obtain⟨rfl,bP⟩:=hR
    have jG:=Zh (bP.ext (w:=w) (by simp))
    clear bP
    repeat'(first|refine aF ?_|refine aQ ?_|refine aC ?_|go_step)
    exact aA hd ⟨rfl,jG.out⟩
   ·refine kW (k:=7) Tryz.underlying113 Tryz.isAgg37 (λW=>by kernel_rfl) (by omega) rfl ?_
    repeat'(first|refine aF ?_|fail)
    refine dM (first:= #[.pointer (some ⟨b,0,none⟩)]) (captured:= #[]) (lv:=[.agg #[.int .i64 7,.int .i64 xa,.int .i64 xb,.int .i64 xc]]) Tryz.func51 (ZM (x:=⟨7,xa,xb,xc⟩) (HH.out.ah (by simp)) rfl) (λr w2 hR=>?_)
    obtain⟨rfl,bP⟩:=hR
    have jG:=Zh (bP.ext (w:=w) (by simp))
    clear bP
    repeat'(first|refine aF ?_|refine aQ ?_|refine aC ?_|go_step)
    exact aA hd ⟨rfl,jG.out⟩
   ·refine kW (k:=8) Tryz.underlying113 Tryz.isAgg37 (λW=>by kernel_rfl) (by omega) rfl ?_
    repeat'(first|refine aF ?_|fail)
    refine dM (first:= #[.pointer (some ⟨b,0,none⟩)]) (captured:= #[]) (lv:=[.agg #[.int .i64 8,.int .i64 xa,.int .i64 xb,.int .i64 xc]]) Tryz.func52 (ZN (x:=⟨8,xa,xb,xc⟩) (HH.out.ah (by simp)) rfl) (λr w2 hR=>?_)
    obtain⟨rfl,bP⟩:=hR
    have jG:=Zh (bP.ext (w:=w) (by simp))
    clear bP
    repeat'(first|refine aF ?_|refine aQ ?_|refine aC ?_|go_step)
    exact aA hd ⟨rfl,jG.out⟩
   ·refine kW (k:=9) Tryz.underlying113 Tryz.isAgg37 (λW=>by kernel_rfl) (by omega) rfl ?_
    repeat'(first|refine aF ?_|fail)
    refine dM (first:= #[.pointer (some ⟨b,0,none⟩)]) (captured:= #[]) (lv:=[.agg #[.int .i64 9,.int .i64 xa,.int .i64 xb,.int .i64 xc]]) Tryz.func53 (ZO (x:=⟨9,xa,xb,xc⟩) (HH.out.ah (by simp)) rfl) (λr w2 hR=>?_)
    obtain⟨rfl,bP⟩:=hR
    have jG:=Zh (bP.ext (w:=w) (by simp))
    clear bP
    repeat'(first|refine aF ?_|refine aQ ?_|refine aC ?_|go_step)
    exact aA hd ⟨rfl,jG.out⟩
   ·refine kW (k:=10) Tryz.underlying113 Tryz.isAgg37 (λW=>by kernel_rfl) (by omega) rfl ?_
    repeat'(first|refine aF ?_|fail)
    refine dM (first:= #[.pointer (some ⟨b,0,none⟩)]) (captured:= #[]) (lv:=[.agg #[.int .i64 10,.int .i64 xa,.int .i64 xb,.int .i64 xc]]) Tryz.func54 (Wu (x:=⟨10,xa,xb,xc⟩) (HH.out.ah (by simp)) rfl) (λr w2 hR=>?_)
    obtain⟨rfl,bP⟩:=hR
    have jG:=Zh (bP.ext (w:=w) (by simp))
    clear bP
    repeat'(first|refine aF ?_|refine aQ ?_|refine aC ?_|go_step)
    exact aA hd ⟨rfl,jG.out⟩
   ·refine kW (k:=11) Tryz.underlying113 Tryz.isAgg37 (λW=>by kernel_rfl) (by omega) rfl ?_
    repeat'(first|refine aF ?_|fail)
    refine dM (first:= #[.pointer (some ⟨b,0,none⟩)]) (captured:= #[]) (lv:=[.agg #[.int .i64 11,.int .i64 xa,.int .i64 xb,.int .i64 xc]]) Tryz.func55 (Wv (x:=⟨11,xa,xb,xc⟩) (HH.out.ah (by simp)) rfl) (λr w2 hR=>?_)
    obtain⟨rfl,bP⟩:=hR
    have jG:=Zh (bP.ext (w:=w) (by simp))
    clear bP
    repeat'(first|refine aF ?_|refine aQ ?_|refine aC ?_|go_step)
    exact aA hd ⟨rfl,jG.out⟩
   ·refine kW (k:=12) Tryz.underlying113 Tryz.isAgg37 (λW=>by kernel_rfl) (by omega) rfl ?_
    repeat'(first|refine aF ?_|fail)
    refine dM (first:= #[.pointer (some ⟨b,0,none⟩)]) (captured:= #[]) (lv:=[.agg #[.int .i64 12,.int .i64 xa,.int .i64 xb,.int .i64 xc]]) Tryz.func56 (Wx (x:=⟨12,xa,xb,xc⟩) (HH.out.ah (by simp)) rfl) (λr w2 hR=>?_)
    obtain⟨rfl,bP⟩:=hR
    have jG:=Zh (bP.ext (w:=w) (by simp))
    clear bP
    repeat'(first|refine aF ?_|refine aQ ?_|refine aC ?_|go_step)
    exact aA hd ⟨rfl,jG.out⟩
   ·refine kW (k:=13) Tryz.underlying113 Tryz.isAgg37 (λW=>by kernel_rfl) (by omega) rfl ?_
    repeat'(first|refine aF ?_|fail)
    refine dM (first:= #[.pointer (some ⟨b,0,none⟩)]) (captured:= #[]) (lv:=[.agg #[.int .i64 13,.int .i64 xa,.int .i64 xb,.int .i64 xc]]) Tryz.func57 (Wy (x:=⟨13,xa,xb,xc⟩) (HH.out.ah (by simp)) rfl) (λr w2 hR=>?_)
    obtain⟨rfl,bP⟩:=hR
    have jG:=Zh (bP.ext (w:=w) (by simp))
    clear bP
    repeat'(first|refine aF ?_|refine aQ ?_|refine aC ?_|go_step)
    exact aA hd ⟨rfl,jG.out⟩
   ·refine kW (k:=14) Tryz.underlying113 Tryz.isAgg37 (λW=>by kernel_rfl) (by omega) rfl ?_
    repeat'(first|refine aF ?_|fail)
    refine dM (first:= #[.pointer (some ⟨b,0,none⟩)]) (captured:= #[]) (lv:=[.agg #[.int .i64 14,.int .i64 xa,.int .i64 xb,.int .i64 xc]]) Tryz.func58 (WA (x:=⟨14,xa,xb,xc⟩) (HH.out.ah (by simp)) rfl) (λr w2 hR=>?_)
    obtain⟨rfl,bP⟩:=hR
    have jG:=Zh (bP.ext (w:=w) (by simp))
    clear bP
    repeat'(first|refine aF ?_|refine aQ ?_|refine aC ?_|go_step)
    exact aA hd ⟨rfl,jG.out⟩
   ·refine kW (k:=15) Tryz.underlying113 Tryz.isAgg37 (λW=>by kernel_rfl) (by omega) rfl ?_
    repeat'(first|refine aF ?_|fail)
    refine dM (first:= #[.pointer (some ⟨b,0,none⟩)]) (captured:= #[]) (lv:=[.agg #[.int .i64 15,.int .i64 xa,.int .i64 xb,.int .i64 xc]]) Tryz.func59 (WB (x:=⟨15,xa,xb,xc⟩) (HH.out.ah (by simp)) rfl) (λr w2 hR=>?_)
    obtain⟨rfl,bP⟩:=hR
    have jG:=Zh (bP.ext (w:=w) (by simp))
    clear bP
    repeat'(first|refine aF ?_|refine aQ ?_|refine aC ?_|go_step)
    exact aA hd ⟨rfl,jG.out⟩
theorem ae5:QB Tryz.prog ps1 1 112 49 8:=⟨λ_=>rfl,λx u h=>by simp[ps1]at h;subst h;rfl,Tryz.underlying112,by decide,.pointer none,by kernel_rfl,rfl⟩
theorem ae6:LD Tryz.prog Yq 1 105 112 24:=⟨λ_=>rfl,Tryz.underlying105,by decide,.slice none 0 0,by kernel_rfl,rfl⟩
structure DX (w:World) (b:Nat) (A:og) (c:aO):Prop where
 gy:cO w b 107 6 (LV c.ctl.form A.bm A.uR A.uB)
 ctl:gX w A.bm (λk=>A.T k=2) c.ctl
 outer:dQ Yq 1 112 w A.uR A.rows
 row:∀ p u,A.rows[p]? =some u→∃ ps,A.ptrs[p]? =some ps∧dQ ps1 1 49 w u ps∧∀ k,u.ownBlock=some k→A.T k=8+p
 rlen:A.rows.length=c.gG.length
 Tm:A.ptrs.length=c.gG.length
 gG:∀ p ps l,A.ptrs[p]? =some ps→c.gG[p]? =some l→ps.length=l.length∧∀ i q r,ps[i]? =some q→l[i]? =some r→oD w q (λk=>A.T k=16+4 *p+i) r
 iq:dQ xg 30 104 w A.uB A.ms
 bm:A.ms.map (·.m)=c.iq
 inner:∀ x∈A.ms,zl w A.T x
 tb:A.T b=1
 tR:∀ k,A.uR.ownBlock=some k→A.T k=3
 tB:∀ k,A.uB.ownBlock=some k→A.T k=5
 lt:∀ k,A.T k≠0→k<w.heap.size
structure L6 (w:World) (T:Nat→Nat) (p:Nat) (u:Value) (ps:List Nat) (l:List aI):Prop where
 yK:dQ ps1 1 49 w u ps
 tu:∀ k,u.ownBlock=some k→T k=8+p
 len:ps.length=l.length
 rep:∀ i q r,ps[i]? =some q→l[i]? =some r→oD w q (λk=>T k=16+4 *p+i) r
section
variable {w w' : World} {b : Nat} {A : og} {c : aO} {G : Nat → Prop} {T : Nat → Nat} {p : Nat} {u : Value} {ps : List Nat} {l : List aI}
theorem DX.at (h:DX w b A c) (hg:c.dH):iJ w b A c:=
 ⟨h.gy,h.ctl,h.outer,h.row,h.rlen,h.Tm,h.gG,h.iq,h.bm,h.inner,h.tb,h.tR,h.tB,h.lt,hg⟩
theorem DX.aW (h:DX w b A c) (hM:bF G w w') (hG:∀ k,A.T k≠0→A.T k≠8+c.gG.length→¬ G k) (hl:c.gG.length<8) {T':Nat→Nat} (hT:∀ k,A.T k≠0→T' k=A.T k) (hlt:∀ k,T' k≠0→k<w'.heap.size):DX w' b {A with T:=T'} c:=by
 have bT:∀ k t,A.T k=t→t≠0→t≠8+c.gG.length→¬ G k:=λk t h1 h2 h3=>hG k (by rw[h1];exact h2) (by rw[h1];exact h3)
 have Hg:∀ k t,A.T k=t→t≠0→T' k=t:=λk t h1 h2=>by rw[hT k (by rw[h1];exact h2)];exact h1
 refine⟨h.gy.aW hM (bT _ _ h.tb (by omega) (by omega)),(h.ctl.aW hM (λk hk=>bT _ _ hk (by omega) (by omega))).mono (λk hk=>Hg k 2 hk (by decide)),h.outer.aW hM (λk hk=>bT _ _ (h.tR k hk) (by omega) (by omega)),?_,h.rlen,h.Tm,?_,h.iq.aW hM (λk hk=>bT _ _ (h.tB k hk) (by omega) (by omega)),h.bm,
  λx hx=>((h.inner x hx).aW hM (λk hk=>bT _ _ hk (by omega) (by omega))).aaN (λk hk=>Hg k 6 hk (by decide)),Hg _ _ h.tb (by decide),λk hk=>Hg _ _ (h.tR k hk) (by decide),λk hk=>Hg _ _ (h.tB k hk) (by decide),hlt⟩
 ·intro p' u hu
  obtain⟨ps',e1,e2,e3⟩:=h.row p' u hu
  have Xr:p'<c.gG.length:=by rw[←h.rlen];exact(Ge hu).1
  exact⟨ps',e1,e2.aW hM (λk hk=>bT _ _ (e3 k hk) (by omega) (by omega)),λk hk=>Hg _ _ (e3 k hk) (by omega)⟩
 ·intro p' ps' l' Xr zF
  obtain⟨e1,e2⟩:=h.gG p' ps' l' Xr zF
  exact⟨e1,λi q r hq hr=>((e2 i q r hq hr).aW hM (λk hk=>bT _ _ hk (by omega) (by omega))).mono λk hk=>Hg _ _ hk (by omega)⟩
theorem L6.nil (w:World) (T:Nat→Nat) (p:Nat):L6 w T p (.slice none 0 0) [] []:=⟨dQ.nil _,λk hk=>absurd hk (by simp[Value.ownBlock]),rfl,λi q r hq=>by simp at hq⟩
theorem L6.push {w1 w2:World} {q:Nat} {r:aI} {u':Value} (h:DX w b A c) (hw:L6 w A.T p u ps l) (hp:p=c.gG.length) (hp8:p<4) (hi4:ps.length<4) (hE:aB w w1) (hr:oD w1 q (λk=>w.heap.size≤k) r)
  {w1':World} (kY:aB w1 w1') (hM:bF (λk=>u.ownBlock=some k) w1' w2) (hO:dQ ps1 1 49 w2 u' (ps++[q])) (hf:u'.ownBlock=u.ownBlock∨∃ g,u'.ownBlock=some g∧w1'.heap.size≤g):
  DX w2 b {A with T:=pG (pG A.T w w1 (16+4 *p+ps.length)) w1 w2 (8+p)} c∧L6 w2 (pG (pG A.T w w1 (16+4 *p+ps.length)) w1 w2 (8+p)) p u' (ps++[q]) (l++[r]):=by
 have s1:=hE.size
 have s2:=kY.size
 have s3:=hM.size
 have YM:bF (λk=>u.ownBlock=some k) w w2:=bF.trans (Et hE kY) hM (λ_ _ h=>h.elim) (λ_ _ h=>h)
 have hT:∀ k,A.T k≠0→pG (pG A.T w w1 (16+4 *p+ps.length)) w1 w2 (8+p) k=A.T k:=λk hk=>by
  have:=h.lt k hk
  rw[xk (by omega),xk this]
 have Hg:∀ k t,A.T k=t→t≠0→pG (pG A.T w w1 (16+4 *p+ps.length)) w1 w2 (8+p) k=t:=λk t h1 h2=>by rw[hT k (by rw[h1];exact h2)];exact h1
 have hlt:∀ k,pG (pG A.T w w1 (16+4 *p+ps.length)) w1 w2 (8+p) k≠0→k<w2.heap.size:=λk hk=>by
  unfold pG at hk
  by_cases e1:w1.heap.size≤k∧k<w2.heap.size
  ·exact e1.2
  ·rw[if_neg e1]at hk
   by_cases e2:w.heap.size≤k∧k<w1.heap.size
   ·omega
   ·rw[if_neg e2]at hk
    have:=h.lt k hk;omega
 refine⟨h.aW YM (λk _ hk2 hu=>hk2 (by rw[hw.tu k hu,hp])) (by omega) hT hlt,hO,λk hk=>?_,by simp[hw.len],λi q' r' hq tC=>?_⟩
 ·rcases hf with e|⟨g,e,hg⟩
  ·exact Hg _ _ (hw.tu k (e▸hk)) (by omega)
  ·obtain rfl:g=k:=by rw[e]at hk;exact Option.some.inj hk
   exact xq (by omega) (hO.lt g hk)
 ·by_cases hi:i<ps.length
  ·rw[List.getElem?_append_left hi]at hq
   rw[List.getElem?_append_left (by rw[←hw.len];exact hi)]at tC
   exact((hw.rep i q' r' hq tC).aW YM (λk hk hu=>by have:=hw.tu k hu;omega)).mono λk hk=>Hg _ _ hk (by omega)
  ·have Xm:=(Ge hq).1
   simp at Xm
   obtain rfl:i=ps.length:=by omega
   rw[List.getElem?_append_right (Nat.le_refl _)]at hq
   rw[hw.len,List.getElem?_append_right (Nat.le_refl _)]at tC
   simp at hq tC
   subst hq tC
   have NV:=hr.Fp
   refine(((NV.ah kY).aW hM (λk hk hu=>?_)).mono λk hk=>?_)
   ·have h1:=hw.tu k hu
    have:=h.lt k (by omega)
    have:=hk.1;omega
   ·rw[xk hk.2];exact xq hk.1 hk.2
theorem ZP {f:gB} {bm:Nat} {uR uB v':Value} (k:Nat) (hk:k<6):LV f bm v' uB k=put (LV f bm uR uB) 4 [v'] k:=by
 obtain rfl|rfl|rfl|rfl|rfl|rfl:k=0∨k=1∨k=2∨k=3∨k=4∨k=5:=by omega
 all_goals rfl
theorem DX.push {w1 w2 w3:World} {v':Value} (h:DX w b A c) (hw:L6 w A.T p u ps l) (hp:p=c.gG.length) (hp8:p<4) (hi4:ps.length≤4) (hE:aB w w1) (hM:bF (λk=>A.uR.ownBlock=some k) w1 w2) (hO:dQ Yq 1 112 w2 v' (A.rows++[u])) (hf:v'.ownBlock=A.uR.ownBlock∨∃ g,v'.ownBlock=some g∧w1.heap.size≤g)
  (jd:bF (· =b) w2 w3) (hB:cO w3 b 107 6 (LV c.ctl.form A.bm v' A.uB)):
  DX w3 b {A with uR:=v',rows:=A.rows++[u],ptrs:=A.ptrs++[ps],T:=pG A.T w w3 3} {c with gG:=c.gG++[l]}:=by
 have s1:=hE.size
 have s2:=hM.size
 have s3:=jd.size
 have YM:bF (λk=>A.uR.ownBlock=some k∨k=b) w w3:=bF.trans (bF.trans hE hM (H:=λk=>A.uR.ownBlock=some k) (λ_ _ h=>h.elim) (λ_ _ h=>h)) jd (λ_ _ h=>.inl h) (λ_ _ h=>.inr h)
 have hT:∀ k,A.T k≠0→pG A.T w w3 3 k=A.T k:=λk hk=>xk (h.lt k hk)
 have Hg:∀ k t,A.T k=t→t≠0→pG A.T w w3 3 k=t:=λk t h1 h2=>by rw[hT k (by rw[h1];exact h2)];exact h1
 have bT:∀ k t,A.T k=t→t≠1→t≠3→¬ (A.uR.ownBlock=some k∨k=b):=λk t h1 h2 h3 hg=>by
  rcases hg with hg|hg
  ·have:=h.tR k hg;omega
  ·subst hg;have:=h.tb;omega
 have Kt:¬ v'.ownBlock=some b:=λe=>by
  rcases hf with e2|⟨g,e2,hg⟩
  ·have:=h.tR b (e2▸e);have:=h.tb;omega
  ·obtain rfl:g=b:=by rw[e2]at e;exact Option.some.inj e
   have:=h.gy.lt;omega
 have hnr:=h.rlen
 have hnp:=h.Tm
 refine⟨hB,(h.ctl.aW YM (λk hk=>bT _ _ hk (by omega) (by omega))).mono (λk hk=>Hg k 2 hk (by decide)),hO.aW jd (λk hk e=>Kt (by rw[←e];exact hk)),λp' u' hu'=>?_,by simp[hnr],by simp[hnp],λp' ps' l' Xr zF=>?_,h.iq.aW YM (λk hk=>bT _ _ (h.tB k hk) (by omega) (by omega)),h.bm,
  λx hx=>((h.inner x hx).aW YM (λk hk=>bT _ _ hk (by omega) (by omega))).aaN (λk hk=>Hg k 6 hk (by decide)),Hg _ _ h.tb (by decide),λk hk=>?_,λk hk=>Hg _ _ (h.tB k hk) (by decide),λk hk=>?_⟩
 ·by_cases hi:p'<A.rows.length
  ·rw[List.getElem?_append_left hi]at hu'
   obtain⟨ps',e1,e2,e3⟩:=h.row p' u' hu'
   exact⟨ps',by rw[List.getElem?_append_left (by omega)];exact e1,e2.aW YM (λk hk=>bT _ _ (e3 k hk) (by omega) (by omega)),λk hk=>Hg _ _ (e3 k hk) (by omega)⟩
  ·have Xm:=(Ge hu').1
   simp at Xm
   have hpe:p'=A.rows.length:=by omega
   rw[List.getElem?_append_right (by omega)]at hu'
   simp[hpe]at hu'
   subst hu'
   refine⟨ps,?_,hw.yK.aW YM (λk hk=>bT _ _ (hw.tu k hk) (by omega) (by omega)),λk hk=>Hg _ _ ?_ (by omega)⟩
   ·rw[List.getElem?_append_right (by omega)];simp[hpe,hnr,hnp]
   ·rw[hw.tu k hk];omega
 ·by_cases hi:p'<A.ptrs.length
  ·rw[List.getElem?_append_left hi]at Xr
   rw[List.getElem?_append_left (by omega)]at zF
   obtain⟨e1,e2⟩:=h.gG p' ps' l' Xr zF
   exact⟨e1,λi q r hq hr=>((e2 i q r hq hr).aW YM (λk hk=>bT _ _ hk (by omega) (by omega))).mono λk hk=>Hg _ _ hk (by omega)⟩
  ·have Xm:=(Ge Xr).1
   simp at Xm
   have hpe:p'=A.ptrs.length:=by omega
   rw[List.getElem?_append_right (by omega)]at Xr
   rw[List.getElem?_append_right (by omega)]at zF
   simp[hpe]at Xr
   simp[hpe,hnp]at zF
   subst Xr zF
   refine⟨hw.len,λi q r hq hr=>?_⟩
   have e:p'=p:=by omega
   subst e
   exact((hw.rep i q r hq hr).aW YM (λk hk=>bT _ _ hk (by omega) (by omega))).mono λk hk=>Hg _ _ hk (by omega)
 ·rcases hf with e|⟨g,e,hg⟩
  ·exact Hg _ _ (h.tR k (e▸hk)) (by decide)
  ·obtain rfl:g=k:=by rw[e]at hk;exact Option.some.inj hk
   exact xq (by omega) (by have:=hO.lt g hk;omega)
 ·have sF:pG A.T w w3 3 k≠0:=hk
  unfold pG at sF
  by_cases e1:w.heap.size≤k∧k<w3.heap.size
  ·exact e1.2
  ·rw[if_neg e1]at sF
   have:=h.lt k sF;omega
end
def xJ (least:Int) (k:Nat):List aI:=(List.range k).map λb:Nat=>aI.lI (b:Int) least
theorem WC (least:Int) (k:Nat):xJ least k++[aI.lI (k:Int) least]=xJ least (k+1):=by
 unfold xJ;rw[List.range_succ,List.map_append];rfl
theorem ZQ (least:Int) (k:Nat):(xJ least k).length=k:=by simp[xJ]
abbrev gB.val (f:gB):Value:=.agg #[.int .i64 f.aK,.int .i64 f.parts,.int .i64 f.ids]
theorem acJ {w:World} {f:gB} (least:Int) (hf:f.right=false):gK Tryz.prog 11 #[f.val,.int .i64 least] w λr w'=>r=.tuple #[.pointer none,.int .i64 2]∧aB w w':=by
 refine Fi (n:=58) Tryz.func11 ?_;intro A hd hA;simp only[ix,Nat.reduceAdd]
 (repeat'(first|refine ak (λK hK=>?_)|refine aj ?_|fail));(refine dI (λx K hK=>?_);go_simp;refine hK _ _ (aB.alloc _ _) ?_;clear hK K;refine aZ x ?_;generalize (World.ah _ x).heap.size=b1;intro yn aU bD bC bG aS;clear x);have iy:=Zh (cO.new aS.out);have lS:=Zh yn.ext;have yG:(World.heap w).size≤b1:=aU;generalize World.ah w yn=W0 at *;clear aU bD bC bG aS yn
 have z0:=iy.out.cell (k:=0) (by simp)
 have z1:=iy.out.cell (k:=1) (by simp)
 have z2:=iy.out.cell (k:=2) (by simp)
 simp at z0 z1 z2
 have wF:=iy.out.lt
 have HE:=lS
 clear iy lS
 repeat'(first|refine aN Tryz.func42 (aeR hf) ?_|refine aF ?_|refine au ?_|refine ak (λK hK=>?_)|refine aj ?_|refine aC ?_|refine bH ?_|go_step)
 exact dB hd ⟨rfl,HE.out⟩
theorem acK {w:World} {f:gB} (least:Int) (hf:f.right=true) (hl:¬ (1≤least∧least≤4)):gK Tryz.prog 11 #[f.val,.int .i64 least] w λr w'=>r=.tuple #[.pointer none,.int .i64 2]∧aB w w':=by
 have hr:=gB.dX hf
 have hn:pF 0 least=false:=by
  simp only[pF,Bool.and_eq_false_iff]
  right
  cases e:rZ least 1 4 with
  | false=>rfl
  | true=>simp[rZ]at e;omega
 have HN:=Zh hn
 have HR:=Zh hr
 clear hn hl
 refine Fi (n:=58) Tryz.func11 ?_;intro A hd hA;simp only[ix,Nat.reduceAdd]
 (repeat'(first|refine ak (λK hK=>?_)|refine aj ?_|fail));(refine dI (λx K hK=>?_);go_simp;refine hK _ _ (aB.alloc _ _) ?_;clear hK K;refine aZ x ?_;generalize (World.ah _ x).heap.size=b1;intro yn aU bD bC bG aS;clear x);have iy:=Zh (cO.new aS.out);have lS:=Zh yn.ext;have yG:(World.heap w).size≤b1:=aU;generalize World.ah w yn=W0 at *;clear aU bD bC bG aS yn
 have z0:=iy.out.cell (k:=0) (by simp)
 have z1:=iy.out.cell (k:=1) (by simp)
 have z2:=iy.out.cell (k:=2) (by simp)
 simp at z0 z1 z2
 have wF:=iy.out.lt
 have HE:=lS
 have jO:=iy
 clear iy lS
 repeat'(first|refine aF ?_|refine au ?_|refine ak (λK hK=>?_)|refine aj ?_|go_step)
 refine aX Tryz.func42 (XW hf) (λr w1 hR=>?_)
 obtain⟨bm,rfl,kY,-,-⟩:=hR
 have su:=Zh (jO.out.ah kY)
 have rO:=Zh (Et HE.out kY)
 clear kY HE jO z0 z1 z2 wF
 have z0:=su.out.cell (k:=0) (by simp)
 have z1:=su.out.cell (k:=1) (by simp)
 have z2:=su.out.cell (k:=2) (by simp)
 simp at z0 z1 z2
 have wF:=su.out.lt
 repeat'(first|refine aF ?_|refine au ?_|refine ak (λK hK=>?_)|refine aj ?_|refine aG ?_|refine aJ ?_|(refine dI (λx K hK=>?_);go_simp;refine hK _ _ (aB.alloc _ _) ?_;clear hK K;refine aZ x ?_;generalize (World.ah _ x).heap.size=bn;intro yn aU bD bC bG aS;clear x)|refine bJ ?_|go_step)
 have jX:aB w (w1.ah yn):=Et rO.out yn.ext
 have xI:=Zh (su.out.ah yn.ext)
 have P5:=Zh jX
 clear aU bD bC bG aS jX
 generalize World.ah w1 yn=W2 at *
 obtain⟨bc,hbc⟩:∃ q:Nat,q=bn:=⟨_,rfl⟩
 subst hbc
 refine dJ [1,2,8,25,26] (λn vs w'=>w'=W2∧vs=[.int .i64 least,.pointer (some ⟨b1,0,none⟩),.pointer (some ⟨bc,0,none⟩),.int .i64 f.parts,.int .i64 0]) 0 hd hA (by decide) ⟨rfl,by simp[jW]⟩ ?_
 clear hd hA A;intro n vs A w' hd hA _ ⟨hw,jk⟩;subst hw jk
 have hp1:0<f.parts:=by have:=HR.out.2.1.1;omega
 have hp2:0<f.aK:=by have:=HR.out.1.1;omega
 clear z0 z1 z2 wF
 have z0:=xI.out.cell (k:=0) (by simp)
 simp at z0
 have wF:=xI.out.lt
 simp only[List.zip_cons_cons,List.zip_nil_right,List.zip_nil_left]
 repeat'(first|refine aF ?_|refine au ?_|refine ak (λK hK=>?_)|refine aj ?_|refine aG ?_|refine aJ ?_|refine bH ?_|go_step)
 refine dJ [1,29,30] (λn vs w''=>w''=w'∧vs=[.int .i64 least,.int .i64 f.aK,.int .i64 0]) 0 hd hA (by decide) ⟨rfl,by simp[jW]⟩ ?_
 clear hd hA A;intro n vs A w' hd hA _ ⟨hw,jk⟩;subst hw jk
 simp only[List.zip_cons_cons,List.zip_nil_right,List.zip_nil_left]
 repeat'(first|refine aN Tryz.func43 (YS 0 least HN.out) ?_|refine aF ?_|refine au ?_|refine ak (λK hK=>?_)|refine aj ?_|refine aC ?_|refine aG ?_|refine aJ ?_|refine bH ?_|go_step)
 exact dB hd ⟨rfl,P5.out⟩
theorem J6 {w:World} {f:gB} {least:Int} (hf:f.right=true) (hl:1≤least∧least≤4):gK Tryz.prog 11 #[f.val,.int .i64 least] w λr w'=>∃ b',r=.tuple #[.pointer (some ⟨b',0,none⟩),.int .i64 0]∧aB w w'∧iO w' b' (λk=>w.heap.size≤k) (aO.new f least):=by
 have hr:=gB.dX hf
 have HG:=Zh (OL hf hl)
 obtain⟨fb,fp,fi⟩:=f
 dsimp only at hr
 obtain⟨NB,rfl⟩:∃ n:Nat,fb=n:=⟨fb.toNat,by omega⟩
 obtain⟨NP,rfl⟩:∃ n:Nat,fp=n:=⟨fp.toNat,by omega⟩
 have apE:NB≤4:=by omega
 have apF:NP≤4:=by omega
 have BJ:aO.new ⟨NB,NP,fi⟩ least=⟨aH.new ⟨NB,NP,fi⟩,List.replicate NP (xJ least NB),[]⟩:=by
  unfold aO.new xJ qU
  simp only[Int.toNat_natCast,List.map_map]
  rfl
 have rH:=Zh BJ
 have HRN:Hid (∀i:Nat,i<NB→pF i least=true):=Zh (λi hi=>by simp[pF,rZ];omega)
 have HF:=Zh hf
 clear BJ hr hl hf
 refine Fi (n:=58) Tryz.func11 ?_;intro A hd hA;simp only[ix,Nat.reduceAdd]
 (repeat'(first|refine ak (λK hK=>?_)|refine aj ?_|fail));(refine dI (λx K hK=>?_);go_simp;refine hK _ _ (aB.alloc _ _) ?_;clear hK K;refine aZ x ?_;generalize (World.ah _ x).heap.size=b1;intro yn aU bD bC bG aS;clear x);have iy:=Zh (cO.new aS.out);have lS:=Zh yn.ext;have yG:(World.heap w).size≤b1:=aU;generalize World.ah w yn=W0 at *;clear aU bD bC bG aS yn
 have jO:=iy
 have HE:=lS
 have Xf:w.heap.size≤b1:=yG
 have z0:=iy.out.cell (k:=0) (by simp)
 have z1:=iy.out.cell (k:=1) (by simp)
 have z2:=iy.out.cell (k:=2) (by simp)
 simp at z0 z1 z2
 have wF:=iy.out.lt
 clear iy lS
 repeat'(first|refine aF ?_|refine au ?_|refine ak (λK hK=>?_)|refine aj ?_|go_step)
 refine aX Tryz.func42 (XW HF.out) (λr w1 hR=>?_)
 obtain⟨bm,rfl,kY,Yh,hMP⟩:=hR
 have HMP:=Zh hMP
 have su:=Zh (jO.out.ah kY)
 have qO:=Zh kY
 clear kY hMP z0 z1 z2 wF
 have z0:=su.out.cell (k:=0) (by simp)
 have z1:=su.out.cell (k:=1) (by simp)
 have z2:=su.out.cell (k:=2) (by simp)
 simp at z0 z1 z2
 have wF:=su.out.lt
 have apG:b1<W0.heap.size:=jO.out.lt
 repeat'(first|refine aF ?_|refine au ?_|refine ak (λK hK=>?_)|refine aj ?_|refine aG ?_|refine aJ ?_|(refine dI (λx K hK=>?_);go_simp;refine hK _ _ (aB.alloc _ _) ?_;clear hK K;refine aZ x ?_;generalize (World.ah _ x).heap.size=bn;intro yn aU bD bC bG aS;clear x)|refine bJ ?_|go_step)
 have CP:Hid (aB W0 (w1.ah yn)∧∃ A,DX (w1.ah yn) bn A ⟨aH.new ⟨NB,NP,fi⟩,List.replicate 0 (xJ least NB),[]⟩∧∀ k,A.T k≠0→W0.heap.size≤k):=by
  have hB:=(cO.new aS.out).congr (g':=LV ⟨NB,NP,fi⟩ bm (.slice none 0 0) (.slice none 0 0)) (λk hk=>by
   obtain rfl|rfl|rfl|rfl|rfl|rfl:k=0∨k=1∨k=2∨k=3∨k=4∨k=5:=(by simp at hk;omega)
   all_goals rfl)
  have s1:=qO.out.size
  have s2:=yn.ext.size
  have htg:∀ k,pG (pG (λ_=>0) W0 w1 2) w1 (w1.ah yn) 1 k≠0→W0.heap.size≤k∧k<(w1.ah yn).heap.size:=λk hk=>by
   unfold pG at hk
   by_cases e1:w1.heap.size≤k∧k<(w1.ah yn).heap.size
   ·omega
   ·rw[if_neg e1]at hk
    by_cases e2:W0.heap.size≤k∧k<w1.heap.size
    ·omega
    ·rw[if_neg e2]at hk;exact absurd rfl hk
  refine Zh ⟨Et qO.out yn.ext,⟨bm,.slice none 0 0,.slice none 0 0,[],[],[],pG (pG (λ_=>0) W0 w1 2) w1 (w1.ah yn) 1⟩,⟨hB,(HMP.out.Fp.ah yn.ext).mono (λk hk=>?_),dQ.nil _,(λp u hu=>by simp at hu),rfl,rfl,(λp ps l hp=>by simp at hp),dQ.nil _,rfl,(λx hx=>by simp at hx),xq aU bD,(λk hk=>by cases hk),(λk hk=>by cases hk),λk hk=>(htg k hk).2⟩,λk hk=>(htg k hk).1⟩
  show pG (pG (λ_=>0) W0 w1 2) w1 (w1.ah yn) 1 k=2
  rw[xk hk.2];exact xq hk.1 hk.2
 obtain⟨bc,hbc⟩:∃ q:Nat,q=bn:=⟨_,rfl⟩
 subst hbc
 have Zo:W0.heap.size≤bc:=Nat.le_trans qO.out.size aU
 have apG:b1<W0.heap.size:=jO.out.lt
 clear aU bD bC bG aS z0 z1 z2 wF Yh
 refine dJ [1,2,8,25,26] (λn vs w'=>∃ p:Nat,p+n=NP∧vs=[.int .i64 least,.pointer (some ⟨b1,0,none⟩),.pointer (some ⟨bc,0,none⟩),.int .i64 NP,.int .i64 p]∧aB W0 w'∧∃ A,DX w' bc A ⟨aH.new ⟨NB,NP,fi⟩,List.replicate p (xJ least NB),[]⟩∧∀ k,A.T k≠0→W0.heap.size≤k) NP hd hA (by decide) ⟨0,by omega,by simp[jW],CP.out⟩ ?_
 clear hd hA A CP yn HMP su qO w1;intro n vs A w' hd hA _ ⟨p,hp,jk,xP,Ac,lJ,hT⟩;subst jk
 obtain⟨y,rfl⟩:=xP.get
 clear xP
 have fK:=Zh lJ
 have HT:=Zh hT
 have L8:=jO.out.ah y.ext
 have z0:=L8.cell (k:=0) (by simp)
 simp at z0
 have wF:=L8.lt
 clear lJ hT L8
 simp only[List.zip_cons_cons,List.zip_nil_right,List.zip_nil_left]
 by_cases Dt:p<NP
 ·have BP:(p:Int)<(NP:Int):=by omega
  repeat'(first|refine aF ?_|refine au ?_|refine ak (λK hK=>?_)|refine aj ?_|refine aG ?_|refine aJ ?_|refine bH ?_|go_step)
  refine dJ [1,2,8,25,26,9,29,30] (λm vs w'=>∃ (i:Nat) (u:Value),i+m=NB∧vs=[.int .i64 least,.pointer (some ⟨b1,0,none⟩),.pointer (some ⟨bc,0,none⟩),.int .i64 NP,.int .i64 p,u,.int .i64 NB,.int .i64 i]∧aB W0 w'∧∃ A ps,DX w' bc A ⟨aH.new ⟨NB,NP,fi⟩,List.replicate p (xJ least NB),[]⟩∧(∀k,A.T k≠0→W0.heap.size≤k)∧L6 w' A.T p u ps (xJ least i)) NB hd hA (by decide) ⟨0,.slice none 0 0,by omega,by simp[jW],y.ext,Ac,[],fK.out,HT.out,(show L6 _ _ _ _ _ (xJ least 0) from L6.nil _ _ _)⟩ ?_
  clear hd hA A fK HT z0 wF y;intro m vs A w' hd hA _ ⟨i,u,hi,jk,xP,Ac,ps,lJ,hT,aaO⟩;subst jk
  obtain⟨y,rfl⟩:=xP.get
  clear xP
  have fK:=Zh lJ
  have HT:=Zh hT
  have ae7:=Zh aaO
  obtain⟨Au,nu,cu,rfl⟩:=aT aaO.yK
  have Nc:ps.length=i:=by have:=aaO.len;rw[ZQ]at this;exact this
  obtain⟨Ar,nr,cr,hUR⟩:=aT lJ.outer
  have E5:=Zh hUR
  have E8:bc<(W0.ah y).heap.size:=lJ.gy.lt
  have Fz:=lJ.gy.cell (k:=4) (by omega)
  simp only[LV]at Fz
  rw[hUR]at Fz
  clear lJ hT aaO hUR
  simp only[List.zip_cons_cons,List.zip_nil_right,List.zip_nil_left]
  by_cases Xb:i<NB
  ·have hii:(i:Int)<(NB:Int):=by omega
   clear Fz
   repeat'(first|refine aF ?_|refine au ?_|refine ak (λK hK=>?_)|refine aj ?_|refine aG ?_|refine aJ ?_|refine bH ?_|go_step)
   refine aX Tryz.func43 (YR (i:Int) least (HRN.out i Xb)) (λr w2 hR=>?_)
   obtain⟨q,rfl,iU,hq,jy⟩:=hR
   have rO:=Zh iU
   have qy:=Zh jy
   clear iU jy
   repeat'(first|refine aF ?_|refine au ?_|refine ak (λK hK=>?_)|refine aj ?_|refine aG ?_|(refine dI (λx K hK=>?_);go_simp;refine hK _ _ (aB.alloc _ _) ?_;clear hK K;refine aZ x ?_;generalize (World.ah _ x).heap.size=bn;intro yn aU bD bC bG aS;clear x)|refine bJ ?_|go_step)
   have jX:aB w2 (w2.ah yn):=yn.ext
   refine nZ (xs:=ps) (ys:=[q]) ae5 (ae7.out.yK.ah (Et rO.out jX)) (Rd.one (x:=q) bD bC rfl) (by simp;omega) (by unfold maxLen;simp;omega) (λv' W5 kJ vS BF _=>?_)
   obtain⟨h1,h2⟩:=L6.push fK.out ae7.out (by simp) (by omega) (by omega) rO.out qy.out jX kJ vS BF
   have Jo:W0.heap.size≤(W0.ah y).heap.size:=y.ext.size
   have JK:=rO.out.size
   have hEf:aB W0 W5:=aB.bK (Et y.ext (Et rO.out jX)) kJ (λk hk=>HT.out k (by rw[ae7.out.tu k hk];omega))
   have Fb:Hid (aB W0 W5∧∃ A ps,DX W5 bc A ⟨aH.new ⟨NB,NP,fi⟩,List.replicate p (xJ least NB),[]⟩∧(∀k,A.T k≠0→W0.heap.size≤k)∧L6 W5 A.T p v' ps (xJ least (i+1))):=by
    refine Zh ⟨hEf,_,_,h1,λk hk=>?_,by rw[←WC];exact h2⟩
    rcases Gu (F:=λk=>W0.heap.size≤k) (λk hk=>by
     rcases Gu (F:=λk=>W0.heap.size≤k) HT.out hk with h|h
     ·exact h
     ·exact Nat.le_trans Jo h) hk with h|h
    ·exact h
    ·exact Nat.le_trans Jo (Nat.le_trans JK h)
   clear h1 h2 hEf kJ vS BF aU bD bC bG aS jX rO qy
   repeat'(first|refine aF ?_|refine au ?_|refine aj ?_|go_step)
   exact⟨_,_,rfl,hd,hA,m-1,by omega,i+1,v',by omega,by simp[jW],Fb.out⟩
  ·obtain rfl:i=NB:=by omega
   repeat'(first|refine aF ?_|refine au ?_|refine ak (λK hK=>?_)|refine aj ?_|refine dS ?_|(refine dI (λx K hK=>?_);go_simp;refine hK _ _ (aB.alloc _ _) ?_;clear hK K;refine aZ x ?_;generalize (World.ah _ x).heap.size=bn;intro yn aU bD bC bG aS;clear x)|refine bJ ?_|go_step)
   have jX:aB (W0.ah y) ((W0.ah y).ah yn):=yn.ext
   have hUL:=fK.out.outer.ah jX
   rw[E5.out]at hUL
   refine LG (xs:=Ac.rows) (ys:=[Value.slice Au nu cu]) ae6 (λy hy u hu=>by obtain rfl:=List.mem_singleton.1 hy;simp at hu;subst hu;rfl) hUL (Rd.one (x:=Value.slice Au nu cu) bD bC rfl) (by have:=fK.out.rlen;simp at this;simp;omega) (by have:=fK.out.rlen;simp at this;unfold maxLen;simp;omega) (λv' W5 kJ vS BF=>?_)
   have jm:¬ (Value.slice Ar nr cr).ownBlock=some bc:=λe=>by
    have h1:=fK.out.tR bc (by rw[E5.out];exact e)
    have h2:=fK.out.tb
    omega
   have pX:=(fK.out.gy.ah jX).aW kJ jm
   have aci:bc<W5.heap.size:=pX.lt
   obtain⟨A6,m6,c6,rfl⟩:=aT vS
   have FD:=Zh pX
   have XU:=Zh vS
   have uo:=Zh kJ
   have MS:=Zh BF
   have P5:=Zh jX
   generalize World.ah (World.ah W0 y) yn=V4 at *
   clear aU bD bC bG aS vS kJ BF pX jm jX Fz hUL yn
   repeat'(first|refine aF ?_|fail)
   refine aY (off:=4) FD.out (λW6 jP nY=>?_)
   have tX:=DX.push (v':=.slice A6 m6 c6) fK.out ae7.out (by simp) (by omega) (by omega) P5.out (by rw[E5.out];exact uo.out) XU.out (by rw[E5.out];exact MS.out) jP (nY.congr (λq hq=>ZP q hq))
   have CQ:aB W0 W6:=aB.bK (Et y.ext P5.out) (bF.trans uo.out jP (H:=λq=>(Value.slice Ar nr cr).ownBlock=some q∨q=bc) (λ_ _ h=>.inl h) (λ_ _ h=>.inr h)) (λq hq=>by
    rcases hq with hq|rfl
    ·exact HT.out q (by rw[fK.out.tR q (by rw[E5.out];exact hq)];decide)
    ·exact Zo)
   have Fb:Hid (aB W0 W6∧∃ A,DX W6 bc A ⟨aH.new ⟨i,NP,fi⟩,List.replicate (p+1) (xJ least i),[]⟩∧∀ k,A.T k≠0→W0.heap.size≤k):=by
    rw[←mV]
    refine Zh ⟨CQ,_,tX,λk hk=>?_⟩
    rcases Gu (F:=λk=>W0.heap.size≤k) HT.out hk with h|h
    ·exact h
    ·exact Nat.le_trans y.ext.size h
   clear tX CQ jP nY
   repeat'(first|refine aF ?_|refine au ?_|refine aj ?_|go_step)
   exact⟨_,_,rfl,hd,hA,n-1,by omega,p+1,by omega,by simp[jW],Fb.out⟩
 ·obtain rfl:p=NP:=by omega
  repeat'(first|refine aF ?_|refine au ?_|refine ak (λK hK=>?_)|refine aj ?_|refine aC ?_|refine dS ?_|refine bJ ?_|go_step)
  refine dB hd ⟨bc,rfl,Et HE.out y.ext,?_⟩
  rw[rH.out]
  exact⟨Ac,fK.out.at (by rw[←rH.out];exact HG.out),λk hk=>Nat.le_trans HE.out.size (HT.out k hk)⟩
theorem acL {w:World} {b:Nat} {F:Nat→Prop} {s:aI} (h:oD w b F s) (hs:s.least≠0) (hn:s.log.length≤1000000) (hi:s.isr.length≤1000) (hc:s.counts.length≤1000):
  gK Tryz.prog 68 #[.pointer (some ⟨b,0,none⟩)] w λr w'=>∃ q,r=.pointer (some ⟨q,0,none⟩)∧aB w w'∧w.heap.size≤q∧oD w' q (λk=>w.heap.size≤k) s:=by
 have HP:=Zh h
 obtain⟨uL,uI,uC,h,hf⟩:=h.ex
 obtain⟨A1,c1,rfl,-⟩:=h.IU.ent
 obtain⟨A2,c2,rfl,-⟩:=h.ri.int
 obtain⟨A3,c3,rfl,-⟩:=h.rc.int
 have H:=Zh h
 have qK:=h.gy.lt
 clear h hf
 refine Fi (n:=31) Tryz.func68 ?_;intro A hd hA;simp only[ix,Nat.reduceAdd]
 repeat'(first|refine aN Tryz.func69 (jK HP.out hs) ?_|refine aF ?_|refine au ?_|refine ak (λK hK=>?_)|refine aj ?_|refine aG ?_|refine bJ ?_|go_step)
 refine yR H.out.gy ?_ (hu:=Tryz.underlying128)
 have zA:(Value.agg ((List.range 15).map (yC s (.slice A1 s.log.length c1) (.slice A2 s.isr.length c2) (.slice A3 s.counts.length c3))).toArray)=.agg #[.int .i64 s.version,.int .i64 s.qM,.slice A2 s.isr.length c2,.slice A3 s.counts.length c3,.int .i64 (s.known 0),.int .i64 (s.known 1),.int .i64 (s.known 2),.int .i64 (s.known 3),.int .i64 s.self,.int .i64 s.least,.int .i64 s.role,.int .i64 s.epoch,.slice A1 s.log.length c1,.int .i64 s.flushed,.int .i64 s.high]:=rfl
 rw[zA]
 clear zA
 (skip);(refine jr (λyn b1 aU bD bC bG aS=>?_));have iy:=Zh (cO.new aS.out);have lS:=Zh yn.ext;have yG:(World.heap w).size≤b1:=aU;generalize World.ah w yn=W1 at *;clear aU bD bC bG aS yn
 have jO:=iy
 have HE:=lS
 have Xf:w.heap.size≤b1:=yG
 clear iy lS yG
 have H1:=Zh (H.out.ah HE.out)
 obtain⟨hlt,-,-,d2,d3,-,-,-,-,d12,-,-⟩:=H1.out.cells
 have Dt:=jO.out.lt
 repeat'(first|refine au ?_|refine ak (λK hK=>?_)|go_step)
 refine dn [(0,0),(1,0),(2,0),(3,0),(5,0),(6,0),(7,0),(8,0),(9,0),(11,0),(12,0),(13,0),(14,0),(15,0),(4,1),(10,1),(16,1),(17,0),(18,2),(19,0),(20,0),(21,2),(22,0),(23,0),(24,2)] (by kernel_rfl) (by kernel_rfl) ?_
 repeat'(first|refine aF ?_|fail)
 refine fF (R:=λw0 r w'=>aB w0 w'∧BX w' r s.log∧∀ q,r.ownBlock=some q→w0.heap.size≤q) Tryz.func70 (λz=>qm (H1.out.IU.ah z.ext) hn) (λz re w3 hR=>⟨hR.1,?_⟩)
 obtain⟨jX,zy,yM⟩:=hR
 replace jX:=Et z.ext jX
 have JB:=Zh zy
 have zB:Hid (∀q,re.ownBlock=some q→W1.heap.size≤q):=Zh (λq hq=>Nat.le_trans z.ext.size (yM q hq))
 obtain⟨y3,rfl⟩:=jX.get
 clear jX zy yM z
 skip
 refine fF (R:=λw0 r w'=>aB w0 w'∧ig w' r s.isr∧∀ q,r.ownBlock=some q→w0.heap.size≤q) Tryz.func65 (λz=>fH (H1.out.ri.ah (Et y3.ext z.ext)).rd (by omega)) (λz rv w4 hR=>⟨hR.1,?_⟩)
 obtain⟨jX,zy,yM⟩:=hR
 have Ut:=z.ext.size
 have HXE:Hid (∀q,re.ownBlock=some q→rv.ownBlock≠some q):=Zh (λq hq e=>by have h1:=yM q e;have:=JB.out.lt q hq;omega)
 replace JB:=Zh (JB.out.ah (Et z.ext jX))
 replace jX:=Et y3.ext (Et z.ext jX)
 have He:=Zh zy
 have Zw:Hid (∀q,rv.ownBlock=some q→W1.heap.size≤q):=Zh (λq hq=>Nat.le_trans y3.ext.size (Nat.le_trans z.ext.size (yM q hq)))
 obtain⟨y4,rfl⟩:=jX.get
 clear jX zy yM Ut z y3
 skip
 refine fF (R:=λw0 r w'=>aB w0 w'∧ig w' r s.counts∧∀ q,r.ownBlock=some q→w0.heap.size≤q) Tryz.func65 (λz=>fH (H1.out.rc.ah (Et y4.ext z.ext)).rd (by omega)) (λz ra w5 hR=>⟨hR.1,?_⟩)
 obtain⟨jX,zy,yM⟩:=hR
 have Ut:=z.ext.size
 have HXC:Hid (∀q,re.ownBlock=some q→ra.ownBlock≠some q):=Zh (λq hq e=>by have h1:=yM q e;have:=JB.out.lt q hq;omega)
 replace JB:=Zh (JB.out.ah (Et z.ext jX))
 replace He:=Zh (He.out.ah (Et z.ext jX))
 replace jX:=Et y4.ext (Et z.ext jX)
 have HOC:=Zh zy
 have HFC:Hid (∀q,ra.ownBlock=some q→W1.heap.size≤q):=Zh (λq hq=>Nat.le_trans y4.ext.size (Nat.le_trans z.ext.size (yM q hq)))
 obtain⟨A3,n3,c3,rfl⟩:=aT JB.out
 obtain⟨A4,n4,c4,rfl⟩:=aT He.out
 obtain⟨A5,n5,c5,rfl⟩:=aT HOC.out
 replace jO:=Zh (jO.out.ah jX)
 have KY:=Zh (Et HE.out jX)
 have Jo:=HE.out.size
 clear jX zy yM Ut z y4 hlt d2 d3 d12 HE
 repeat'(first|refine aF ?_|fail)
 refine aY (off:=12) jO.out (λW3 hM hB=>?_)
 replace KY:=Zh (aB.bK KY.out hM (λk hk=>by subst hk;omega))
 replace JB:=Zh (JB.out.aW hM (λk hk e=>by have:=zB.out k hk;omega))
 replace He:=Zh (He.out.aW hM (λk hk e=>by have:=Zw.out k hk;omega))
 replace HOC:=Zh (HOC.out.aW hM (λk hk e=>by have:=HFC.out k hk;omega))
 replace jO:=Zh hB
 clear hM hB
 repeat'(first|refine aF ?_|fail)
 refine aY (off:=2) jO.out (λW4 hM hB=>?_)
 replace KY:=Zh (aB.bK KY.out hM (λk hk=>by subst hk;omega))
 replace JB:=Zh (JB.out.aW hM (λk hk e=>by have:=zB.out k hk;omega))
 replace He:=Zh (He.out.aW hM (λk hk e=>by have:=Zw.out k hk;omega))
 replace HOC:=Zh (HOC.out.aW hM (λk hk e=>by have:=HFC.out k hk;omega))
 replace jO:=Zh hB
 clear hM hB
 repeat'(first|refine aF ?_|fail)
 refine aY (off:=3) jO.out (λW5 hM hB=>?_)
 replace KY:=Zh (aB.bK KY.out hM (λk hk=>by subst hk;omega))
 replace JB:=Zh (JB.out.aW hM (λk hk e=>by have:=zB.out k hk;omega))
 replace He:=Zh (He.out.aW hM (λk hk e=>by have:=Zw.out k hk;omega))
 replace HOC:=Zh (HOC.out.aW hM (λk hk e=>by have:=HFC.out k hk;omega))
 replace jO:=Zh hB
 clear hM hB
 repeat'(first|refine aF ?_|refine aQ ?_|refine au ?_|refine ak (λK hK=>?_)|refine aj ?_|refine aC ?_|go_step)
 refine aA hd ⟨b1,rfl,KY.out,Xf,_,_,_,⟨jO.out.congr (tK ⟨rfl,rfl,rfl,rfl,rfl,rfl,rfl,rfl,rfl,rfl,rfl,rfl,rfl,rfl,rfl⟩),JB.out,He.out.Oj,HOC.out.Oj,λe=>by have:=zB.out _ e;omega,λe=>by have:=Zw.out _ e;omega,λe=>by have:=HFC.out _ e;omega,λk hk=>⟨HXE.out k hk,HXC.out k hk⟩⟩,λk hk=>?_⟩
 rcases hk with rfl|hk|hk|hk
 ·exact Xf
 ·exact Nat.le_trans Jo (zB.out k hk)
 ·exact Nat.le_trans Jo (Zw.out k hk)
 ·exact Nat.le_trans Jo (HFC.out k hk)
theorem acM {w:World} {b:Nat} {F:Nat→Prop} {c:aO} (h:iO w b F c):gK Tryz.prog 15 #[.pointer (some ⟨b,0,none⟩)] w λr w'=>∃ b',r=.pointer (some ⟨b',0,none⟩)∧aB w w'∧w.heap.size≤b'∧gX w' b' (λk=>w.heap.size≤k) c.ctl:=by
 have HH:=Zh h
 obtain⟨A0,h0,hF⟩:=h
 obtain⟨hlt,-,-,-,c3,-,-⟩:=h0.cells
 have HC:=Zh h0.ctl
 clear h0 hF
 refine Fi (n:=10) Tryz.func15 ?_;intro A hd hA;simp only[ix,Nat.reduceAdd]
 repeat'(first|refine aN Tryz.func44 (HH.out.some) ?_|refine aF ?_|refine au ?_|refine ak (λK hK=>?_)|refine aj ?_|refine aG ?_|refine bJ ?_|go_step)
 refine aX Tryz.func60 (OG HC.out) (λr w1 hR=>?_)
 obtain⟨b',rfl,hE,h1,h2⟩:=hR
 repeat'(first|refine aF ?_|refine au ?_|refine aC ?_|go_step)
 exact aA hd ⟨b',rfl,hE,h1,h2⟩
theorem TR {w:World} {b:Nat} {F:Nat→Prop} {c:aO} {p i:Int} (h:iO w b F c) (hp:c.ctl.part p=true) (hi:c.ctl.aV i=true):gK Tryz.prog 19 #[.pointer (some ⟨b,0,none⟩),.int .i64 p,.int .i64 i] w λr w'=>∃ q,r=.tuple #[.pointer (some ⟨q,0,none⟩),.int .i64 0]∧aB w w'∧w.heap.size≤q∧oD w' q (λk=>w.heap.size≤k) (c.rep p i):=by
 obtain⟨p,rfl⟩:∃ n:Nat,p=n:=⟨p.toNat,by have:=fV hp;omega⟩
 obtain⟨i,rfl⟩:∃ n:Nat,i=n:=⟨i.toNat,by have:=dV hi;omega⟩
 have HH:=Zh h
 obtain⟨A0,h,hF⟩:=h
 have BP:=fV hp
 have JL:=dV hi
 obtain⟨u,ps,q,hu,wK,ho,ht,hq,iR,jy,gu⟩:=h.rep (p:=p) (i:=i) (by omega) (by omega)
 obtain⟨g,cg,iZ,Dq,jT,Ib,iK⟩:=dQ.at (enc:=Yq) (k:=1) (λ_=>rfl) h.outer hu
 obtain⟨g2,cg2,Iw,VW,Uz,Zv,sV⟩:=dQ.at (enc:=ps1) (k:=1) (λ_=>rfl) ho hq
 obtain⟨hlt,-,-,-,c3,c4,-⟩:=h.cells
 rw[iZ]at c4
 have d0:=iK 0 _ rfl
 have d1:=sV 0 _ rfl
 rw[Nat.mul_one,Nat.add_zero]at d0 d1
 rw[Iw]at d0
 have h1:p<A0.rows.length:=(Ge hu).1
 have h2:i<ps.length:=(Ge hq).1
 have h3:(p:Int)<A0.rows.length:=by omega
 have h4:(i:Int)<ps.length:=by omega
 have HP:=Zh hp
 have HB:=Zh hi
 have qy:=Zh jy
 have oW:=Zh gu
 clear h hp hi hu wK ho ht hq iK sV iZ Iw iR BP JL hF jy gu
 refine Fi (n:=33) Tryz.func19 ?_;intro A hd hA;simp only[ix,Nat.reduceAdd]
 repeat'(first|refine aN Tryz.func44 (HH.out.some) ?_|refine aN Tryz.func61 (HP.out▸uX (p:Int) HH.out) ?_|refine fU Tryz.func67 (λ_=>HB.out▸iP (i:Int) HH.out) ?_|refine dw ?_|refine aF ?_|refine au ?_|refine ak (λK hK=>?_)|refine aj ?_|refine aG ?_|refine aJ ?_|refine bJ ?_|go_step)
 refine aX Tryz.func68 (acL qy.out oW.out.bU.ne (by have:=oW.out.bU.len;omega) (by have:=oW.out.bU.NY;omega) (by have:=oW.out.bU.NY;omega)) (λr w1 hR=>?_)
 obtain⟨b',rfl,hE,h1,h2⟩:=hR
 repeat'(first|refine aF ?_|refine au ?_|refine aC ?_|go_step)
 exact dB hd ⟨b',rfl,hE,h1,h2⟩
def Dv (l:List aI):List cZ:=l.foldl (λout r=>if(out.length:Int)<r.high then r.log.take r.high.toNat else out) []
theorem WE (l:List aI) (r:aI):Dv (l++[r])=if((Dv l).length:Int)<r.high then r.log.take r.high.toNat else Dv l:=by
 unfold Dv;rw[List.foldl_append];rfl
theorem Es {w:World} {b:Nat} {F:Nat→Prop} {c:aO} {p:Int} (h:iO w b F c) (hp:c.ctl.part p=true):gK Tryz.prog 16 #[.pointer (some ⟨b,0,none⟩),.int .i64 p] w λr w'=>aB w w'∧∃ v,r=.tuple #[v,.int .i64 0]∧yQ w' v (c.dR p)∧∀ k,v.ownBlock=some k→w.heap.size≤k∧k<w'.heap.size:=by
 obtain⟨p,rfl⟩:∃ n:Nat,p=n:=⟨p.toNat,by have:=fV hp;omega⟩
 have HH:=Zh h
 obtain⟨A0,h0,hF⟩:=h
 have BP:=fV hp
 have hrl:=h0.bU.rlen
 have aq1:=h0.rlen
 obtain⟨ur,hu⟩:∃ u,A0.rows[p]? =some u:=⟨_,List.getElem?_eq_getElem (by omega)⟩
 obtain⟨ps,wK,ho,ht⟩:=h0.row p ur hu
 obtain⟨l,hl⟩:∃ l,c.gG[p]? =some l:=⟨_,List.getElem?_eq_getElem (by omega)⟩
 obtain⟨iR,agp⟩:=h0.gG p ps l wK hl
 have Xe:=Zh iR
 have gu:=h0.bU.fine l (List.mem_of_getElem? hl)
 have ams:c.dR (p:Int)=Dv l:=by
  unfold aO.dR Dv
  rw[Int.toNat_natCast,List.getD_eq_getElem?_getD,hl];rfl
 obtain⟨g,cg,iZ,Dq,jT,Ib,iK⟩:=dQ.at (enc:=Yq) (k:=1) (λ_=>rfl) h0.outer hu
 obtain⟨Ar,nr,cr,rfl⟩:=aT ho
 obtain rfl:nr=ps.length:=((dQ.rd (enc:=ps1) (k:=1) (λ_=>rfl) ho).length).symm
 obtain⟨hlt,-,-,-,c3,c4,-⟩:=h0.cells
 rw[iZ]at c4
 have d0:=iK 0 _ rfl
 rw[Nat.mul_one,Nat.add_zero]at d0
 have h1:p<A0.rows.length:=(Ge hu).1
 have h3:(p:Int)<A0.rows.length:=by omega
 have HP:=Zh hp
 have HO:=Zh ho
 have qy:Hid (∀i q r,ps[i]? =some q→l[i]? =some r→oD w q (λk=>A0.T k=16+4 *p+i) r):=Zh agp
 have oW:=Zh gu
 have apH:=Zh ams
 clear h0 hp hu wK ho ht iK iZ BP hF agp gu hl ams hrl aq1 iR
 refine Fi (n:=43) Tryz.func16 ?_;intro A hd hA;simp only[ix,Nat.reduceAdd]
 repeat'(first|refine aN Tryz.func44 (HH.out.some) ?_|refine aN Tryz.func61 (HP.out▸uX (p:Int) HH.out) ?_|refine aF ?_|refine au ?_|refine ak (λK hK=>?_)|refine aj ?_|refine aG ?_|refine aJ ?_|refine bJ ?_|go_step)
 refine dJ [0,24,25,26,6] (λn vs w'=>∃ (k:Nat) (u:Value),k+n=ps.length∧vs=[.pointer (some ⟨b,0,none⟩),.slice Ar ps.length cr,.int .i64 ps.length,.int .i64 k,u]∧aB w w'∧yQ w' u (Dv (l.take k))∧∀ k,u.ownBlock=some k→w.heap.size≤k∧k<w'.heap.size) ps.length hd hA (by decide) ⟨0,_,by omega,by simp[jW],aB.refl _,Rd.nil _,λk hk=>by cases hk⟩ ?_
 clear hd hA A;intro n vs A w' hd hA _ ⟨k,u,hk,jk,xP,hru,hfu⟩;subst jk
 obtain⟨y,rfl⟩:=xP.get
 have MV:=Zh hru
 have HFU:=Zh hfu
 obtain⟨Au,cu,rfl,hcu,avj,-⟩:=hru.ent
 clear xP hru hfu
 simp only[List.zip_cons_cons,List.zip_nil_right,List.zip_nil_left]
 by_cases BO:k<ps.length
 ·have sZ:(k:Int)<(ps.length:Int):=by omega
  obtain⟨q,hq⟩:∃ q,ps[k]? =some q:=⟨_,List.getElem?_eq_getElem BO⟩
  obtain⟨r,hr⟩:∃ r,l[k]? =some r:=⟨_,List.getElem?_eq_getElem (by have:=Xe.out;omega)⟩
  obtain⟨g2,cg2,Iw,VW,Uz,Zv,sV⟩:=dQ.at (enc:=ps1) (k:=1) (λ_=>rfl) (HO.out.ah y.ext) hq
  cases Iw
  have d1:=sV 0 _ rfl
  rw[Nat.mul_one,Nat.add_zero]at d1
  have HR:=Zh (qy.out k q r hq hr)
  have HF:=Zh (oW.out r (List.mem_of_getElem? hr))
  have UO:Dv (l.take (k+1))=if((Dv (l.take k)).length:Int)<r.high then r.log.take r.high.toNat else Dv (l.take k):=by rw[gV hr,WE]
  have HTK:=Zh UO
  clear hq hr sV UO
  repeat'(first|refine aF ?_|refine au ?_|refine ak (λK hK=>?_)|refine aj ?_|refine aG ?_|refine aJ ?_|refine bH ?_|go_step)
  refine aX Tryz.func20 (wu (HR.out.ah y.ext) HF.out.bU.ne (by have:=HF.out.bU.NY;omega) (by have:=HF.out.bU.NY;omega)) (λrv w1 hR=>?_)
  obtain⟨kY,u1,u2,u3,rfl,QV,NV,iE,-⟩:=hR
  obtain⟨A1,c1,rfl,-⟩:=QV.int
  obtain⟨A2,c2',rfl,-⟩:=NV.int
  obtain⟨A3,c3',rfl,-⟩:=iE.int
  have JK:r.qH.high=r.high:=by unfold aI.qH;split<;>rfl
  have UK:=HF.out.bU.hi
  obtain⟨hg,hhg⟩:∃ hg:Nat,r.high=hg:=⟨r.high.toNat,by omega⟩
  have iR:=HF.out.bU.len
  rw[hhg]at JK UK HTK
  have hle:hg≤r.log.length:=by omega
  obtain⟨z1,rfl⟩:=kY.get
  clear kY QV NV iE UK
  generalize aqj:Dv (l.take k)=out at *
  by_cases hgt:(out.length:Int)<(hg:Int)
  ·rw[if_pos hgt]at HTK
   repeat'(first|refine aF ?_|refine au ?_|refine ak (λK hK=>?_)|refine aj ?_|refine bH ?_|go_step)
   refine aX Tryz.func21 (Dz (HR.out.ah (Et y.ext z1.ext)) HF.out.bU.ne (by omega)) (λrv w5 hR=>?_)
   obtain⟨jY,vS,BF⟩:=hR
   obtain⟨A5,c5,rfl,hc5,ah5,-⟩:=(dQ.rd (enc:=cZ.cs) (k:=6) cZ.len vS).ent
   obtain⟨y5,rfl⟩:=jY.get
   clear jY
   have hgc:hg≤c5:=Nat.le_trans hle hc5
   have hgi:(hg:Int)≤(c5:Int):=by omega
   repeat'(first|refine aF ?_|refine au ?_|refine aj ?_|go_step)
   refine⟨_,_,rfl,hd,hA,n-1,by omega,k+1,.slice A5 hg c5,by omega,by simp[jW],by simp,?_,λk hk=>?_⟩
   ·rw[HTK.out]
    exact(dQ.rd (enc:=cZ.cs) (k:=6) cZ.len vS).take hg hle
   ·have sF:(Value.slice A5 r.log.length c5).ownBlock=some k:=by
     cases A5 with
     | none=>cases hk
     | some a=>exact hk
    exact⟨Nat.le_trans (bF.size (F:=λ_=>False) (show aB w _ by simp)) (BF k sF),vS.lt k sF⟩
  ·rw[if_neg hgt]at HTK
   repeat'(first|refine aF ?_|refine au ?_|refine ak (λK hK=>?_)|refine aj ?_|refine aG ?_|refine bJ ?_|go_step)
   refine⟨_,_,rfl,hd,hA,n-1,by omega,k+1,.slice Au out.length cu,by omega,by simp[jW],by simp,?_,λk hk=>?_⟩
   ·rw[HTK.out];exact MV.out.ah z1.ext
   ·exact⟨(HFU.out k hk).1,Nat.lt_of_lt_of_le (HFU.out k hk).2 z1.ext.size⟩
 ·obtain rfl:k=ps.length:=by omega
  repeat'(first|refine aF ?_|refine au ?_|refine ak (λK hK=>?_)|refine aj ?_|refine aC ?_|refine dS ?_|refine bJ ?_|go_step)
  refine dB hd ⟨y.ext,_,rfl,?_,HFU.out⟩
  rw[apH.out]
  have:=MV.out
  have e:l.take ps.length=l:=List.take_of_length_le (by have:=Xe.out;omega)
  rw[e]at this ⊢
  exact this
end Go.Ws
namespace Go.Ws
open Go Go.RowKit Go.Proofs Go.ChangeShapes Go.WideShapes
set_option maxHeartbeats 4000000
set_option maxRecDepth 100000
set_option linter.unusedVariables false
set_option linter.unusedSimpArgs false
abbrev gB.cs (f:gB):List Value:=[.int .i64 f.aK,.int .i64 f.parts,.int .i64 f.ids]
abbrev bV.cs (x:bV):List Value:=[.int .i64 x.kind,.int .i64 x.a,.int .i64 x.b,.int .i64 x.c]
structure L9 where
 form:gB
 least:Int
abbrev L9.cs (s:L9):List Value:=[.int .i64 s.form.aK,.int .i64 s.form.parts,.int .i64 s.form.ids,.int .i64 s.least]
section
variable {H : Type} {enc : TypeId × Value → H} {W : World} {sp : Nat → Bool} {gq : Bool} {base : Nat} {v : Value} {d : DataW H} {ps : List MemPlace}
theorem aie:Tryz.prog.cellsOf 23=3:=by kernel_rfl
theorem acN (n:Nat) (cs:List Value) (x:DataW H×List MemPlace) (h:DataW.trod enc Tryz.prog W 0 sp gq n 23 cs=some x):∃ y:gB,cs=y.cs:=by
 obtain⟨xs,m,_,_,hl,NU,hf⟩:=DataW.trod_struct Tryz.underlying23 h
 rw[aie]at hl
 have Xc:xs.length=3:=NU
 have up:∀ (i:Nat) (t:TypeId) (c:List Value),DataW.trod enc Tryz.prog W 0 sp gq m t c=xs[i]? →i<3→∃ y,DataW.trod enc Tryz.prog W 0 sp gq m t c=some y:=λi t c hd hi=>⟨_,by rw[hd];exact List.getElem?_eq_getElem (by omega)⟩
 match cs,hl with
 | [c0,c1,c2],_=>
  have g0:=hf 0 _ rfl
  have g1:=hf 1 _ rfl
  have g2:=hf 2 _ rfl
  obtain⟨y0,g0⟩:=up 0 _ _ g0 (by omega)
  change DataW.trod enc Tryz.prog W 0 sp gq m _ [c0]=some y0 at g0
  obtain⟨z0,UD,-⟩:=DataW.trod_int Tryz.underlying3 g0
  cases UD
  obtain⟨y1,g1⟩:=up 1 _ _ g1 (by omega)
  change DataW.trod enc Tryz.prog W 0 sp gq m _ [c1]=some y1 at g1
  obtain⟨z1,Xu,-⟩:=DataW.trod_int Tryz.underlying3 g1
  cases Xu
  obtain⟨y2,g2⟩:=up 2 _ _ g2 (by omega)
  change DataW.trod enc Tryz.prog W 0 sp gq m _ [c2]=some y2 at g2
  obtain⟨z2,Xp,-⟩:=DataW.trod_int Tryz.underlying3 g2
  cases Xp
  exact⟨⟨z0,z1,z2⟩,rfl⟩
theorem ae9:Tryz.prog.cellsOf 25=4:=by kernel_rfl
theorem ZR (n:Nat) (cs:List Value) (x:DataW H×List MemPlace) (h:DataW.trod enc Tryz.prog W 0 sp gq n 25 cs=some x):∃ y:L9,cs=y.cs:=by
 obtain⟨xs,m,_,_,hl,NU,hf⟩:=DataW.trod_struct Tryz.underlying25 h
 rw[ae9]at hl
 have Xc:xs.length=2:=NU
 have up:∀ (i:Nat) (t:TypeId) (c:List Value),DataW.trod enc Tryz.prog W 0 sp gq m t c=xs[i]? →i<2→∃ y,DataW.trod enc Tryz.prog W 0 sp gq m t c=some y:=λi t c hd hi=>⟨_,by rw[hd];exact List.getElem?_eq_getElem (by omega)⟩
 match cs,hl with
 | [c0,c1,c2,c3],_=>
  have g0:=hf 0 _ rfl
  have g1:=hf 1 _ rfl
  obtain⟨y0,g0⟩:=up 0 _ _ g0 (by omega)
  change DataW.trod enc Tryz.prog W 0 sp gq m _ [c0,c1,c2]=some y0 at g0
  obtain⟨z0,UD⟩:=acN _ _ _ g0
  cases UD
  obtain⟨y1,g1⟩:=up 1 _ _ g1 (by omega)
  change DataW.trod enc Tryz.prog W 0 sp gq m _ [c3]=some y1 at g1
  obtain⟨z1,Xu,-⟩:=DataW.trod_int Tryz.underlying3 g1
  cases Xu
  exact⟨⟨z0,z1⟩,rfl⟩
theorem acO:Tryz.prog.cellsOf 36=4:=by kernel_rfl
theorem Mc (n:Nat) (cs:List Value) (x:DataW H×List MemPlace) (h:DataW.trod enc Tryz.prog W 0 sp gq n 36 cs=some x):∃ y:bV,cs=y.cs:=by
 obtain⟨xs,m,_,_,hl,NU,hf⟩:=DataW.trod_struct Tryz.underlying36 h
 rw[acO]at hl
 have Xc:xs.length=4:=NU
 have up:∀ (i:Nat) (t:TypeId) (c:List Value),DataW.trod enc Tryz.prog W 0 sp gq m t c=xs[i]? →i<4→∃ y,DataW.trod enc Tryz.prog W 0 sp gq m t c=some y:=λi t c hd hi=>⟨_,by rw[hd];exact List.getElem?_eq_getElem (by omega)⟩
 match cs,hl with
 | [c0,c1,c2,c3],_=>
  have g0:=hf 0 _ rfl
  have g1:=hf 1 _ rfl
  have g2:=hf 2 _ rfl
  have g3:=hf 3 _ rfl
  obtain⟨y0,g0⟩:=up 0 _ _ g0 (by omega)
  change DataW.trod enc Tryz.prog W 0 sp gq m _ [c0]=some y0 at g0
  obtain⟨z0,UD,-⟩:=DataW.trod_int Tryz.underlying34 g0
  cases UD
  obtain⟨y1,g1⟩:=up 1 _ _ g1 (by omega)
  change DataW.trod enc Tryz.prog W 0 sp gq m _ [c1]=some y1 at g1
  obtain⟨z1,Xu,-⟩:=DataW.trod_int Tryz.underlying3 g1
  cases Xu
  obtain⟨y2,g2⟩:=up 2 _ _ g2 (by omega)
  change DataW.trod enc Tryz.prog W 0 sp gq m _ [c2]=some y2 at g2
  obtain⟨z2,Xp,-⟩:=DataW.trod_int Tryz.underlying3 g2
  cases Xp
  obtain⟨y3,g3⟩:=up 3 _ _ g3 (by omega)
  change DataW.trod enc Tryz.prog W 0 sp gq m _ [c3]=some y3 at g3
  obtain⟨z3,UR,-⟩:=DataW.trod_int Tryz.underlying3 g3
  cases UR
  exact⟨⟨z0,z1,z2,z3⟩,rfl⟩
theorem TS (lU:Value.okWide Tryz.prog W .any base 25 v) (h:DataW.Trod enc Tryz.prog W 0 sp gq 25 v d ps):∃ y:L9,v=.agg y.cs.toArray:=by
 obtain⟨fuel,hf⟩:=h
 obtain⟨y,hy⟩:=ZR _ _ _ hf
 unfold Value.okWide at lU
 rw[Tryz.underlying25]at lU
 obtain⟨cs,rfl,_⟩:=lU
 refine⟨y,?_⟩
 have:cs.toList=y.cs:=hy
 show Value.agg cs=_
 rw[show cs=y.cs.toArray by rw[←this]]
theorem Qr (lU:Value.okWide Tryz.prog W .any base 36 v) (h:DataW.Trod enc Tryz.prog W 0 sp gq 36 v d ps):∃ y:bV,v=.agg y.cs.toArray:=by
 obtain⟨fuel,hf⟩:=h
 obtain⟨y,hy⟩:=Mc _ _ _ hf
 unfold Value.okWide at lU
 rw[Tryz.underlying36]at lU
 obtain⟨cs,rfl,_⟩:=lU
 refine⟨y,?_⟩
 have:cs.toList=y.cs:=hy
 show Value.agg cs=_
 rw[show cs=y.cs.toArray by rw[←this]]
theorem Qs (lU:Value.okWide Tryz.prog W .any base 26 v) (h:DataW.Trod enc Tryz.prog W 0 sp gq 26 v d ps):∃ l:List bV,Rd bV.cs 4 W v l:=
 aej (en:=bV.cs) (k:=4) Tryz.underlying26 (by kernel_rfl) (by omega) (λ_=>rfl) Mc lU h
end
end Go.Ws
namespace Go.Ws
open Go Go.RowKit Go.Proofs
set_option maxHeartbeats 4000000
set_option maxRecDepth 100000
set_option linter.unusedVariables false
set_option linter.unusedSimpArgs false
def vJ (c:aO) (xs:List bV):aO:=xs.foldl (λc x=>(c.step x).1) c
def Bg:aO→List bV→List Int
 | _,[]=>[]
 | c,x::xs=>(c.step x).2::Bg (c.step x).1 xs
theorem TT (c:aO) (xs:List bV) (x:bV):vJ c (xs++[x])=((vJ c xs).step x).1:=by
 unfold vJ;rw[List.foldl_append];rfl
theorem Md:∀ (c:aO) (xs:List bV) (x:bV),Bg c (xs++[x])=Bg c xs++[((vJ c xs).step x).2]
 | c,[],x=>rfl
 | c,y::ys,x=>by
  show _::Bg _ (ys++[x])=_
  rw[Md (c.step y).1 ys x];rfl
theorem OW:∀ (c:aO) (xs:List bV),(Bg c xs).length=xs.length
 | c,[]=>rfl
 | c,y::ys=>by show (Bg _ ys).length+1=_;rw[OW];rfl
abbrev afa:=Rd bV.cs 4
theorem Rd.choice {w:World} {v:Value} {l:List bV} (h:afa w v l):∃ A c,v=.slice A l.length c∧l.length≤c∧c≤9223372036854775807∧
  Hid (∀i,i<l.length→∃ q b o,Hid (l[i]? =some q)∧A=some ⟨b,o,none⟩∧b<w.heap.size∧w.cell? ⟨b,o+i *4,none⟩=some (.int .i64 q.kind)∧w.cell? ⟨b,o+i *4+1,none⟩=some (.int .i64 q.a)∧
   w.cell? ⟨b,o+i *4+2,none⟩=some (.int .i64 q.b)∧w.cell? ⟨b,o+i *4+3,none⟩=some (.int .i64 q.c)):=by
 obtain⟨A,c,h1,h2,h3,h4⟩:=h
 refine⟨A,c,h1,h2,h3,λi hi=>?_⟩
 have he:l[i]? =some l[i]:=by simp[hi]
 rcases h4 with⟨_,rfl⟩|⟨b,o,hA,hb,hr⟩
 ·simp at hi
 ·exact⟨l[i],b,o,he,hA,hb,hr i _ he 0 _ rfl,hr i _ he 1 _ rfl,hr i _ he 2 _ rfl,hr i _ he 3 _ rfl⟩
theorem ZT:QB Tryz.prog xK 1 77 28 8:=⟨λ_=>rfl,λx u h=>by simp at h;subst h;rfl,Tryz.underlying77,by decide,.int .i64 0,by kernel_rfl,rfl⟩
theorem acP {w:World} {b:Nat} {F:Nat→Prop} {c:aO} {v:Value} {xs:List bV} (h:iO w b F c) (hx:afa w v xs) (hF:∀ k,v.ownBlock=some k→¬ F k∧k<w.heap.size) (hl:xs.length≤100000):
  gK Tryz.prog 29 #[.pointer (some ⟨b,0,none⟩),v] w λr w'=>dQ xK 1 28 w' r (Bg c xs)∧(∀k,r.ownBlock=some k→w.heap.size≤k)∧eP w b F (vJ c xs) w':=by
 have HX0:=hx
 obtain⟨Av,cv,rfl,hcv,avk,-⟩:=hx.choice
 have HX:=Zh HX0
 have Zw:=Zh hF
 obtain⟨A0,h0,hF0⟩:=h
 have H0:=Zh h0
 have HF0:=Zh hF0
 clear HX0 hx hF h0 hF0
 refine Fi (n:=22) Tryz.func29 ?_;intro A hd hA;simp only[ix,Nat.reduceAdd]
 repeat'(first|refine aF ?_|refine au ?_|refine ak (λK hK=>?_)|refine aj ?_|refine aJ ?_|go_step)
 refine dJ [0,5,8,9,10] (λn vs w'=>∃ (k:Nat) (u:Value) (A1:og),k+n=xs.length∧vs=[.pointer (some ⟨b,0,none⟩),u,.slice Av xs.length cv,.int .i64 xs.length,.int .i64 k]∧iJ w' b A1 (vJ c (xs.take k))∧(∀q,A1.T q≠0→F q∨w.heap.size≤q)∧bF F w w'∧dQ xK 1 28 w' u (Bg c (xs.take k))∧∀ q,u.ownBlock=some q→w.heap.size≤q∧A1.T q=0) xs.length hd hA (by decide)
  ⟨0,_,A0,by omega,by simp[jW],by simpa [vJ] using H0.out,λq hq=>.inl (HF0.out q hq),bF.refl _ _,dQ.nil _,λq hq=>by cases hq⟩ ?_
 clear hd hA A H0 HF0;intro n vs A w' hd hA _ ⟨k,u,A1,hk,jk,Fg,Pv,fM,hou,hfu⟩;subst jk
 have Io:=Zh Fg
 have HT1:=Zh Pv
 have EO:=Zh fM
 have Il:=Zh hou
 have HFU:=Zh hfu
 obtain⟨Au,nu,cu,rfl⟩:=aT hou
 clear Fg Pv fM hou hfu
 simp only[List.zip_cons_cons,List.zip_nil_right,List.zip_nil_left]
 by_cases BO:k<xs.length
 ·have sZ:(k:Int)<(xs.length:Int):=by omega
  have DL:=HX.out.aW EO.out (λq hq=>(Zw.out q hq).1)
  obtain⟨A2,c2,hAc,-,-,MP⟩:=DL.choice
  cases hAc
  obtain⟨x,bx,ox,HXK,rfl,Xg,q0,q1,q2,q3⟩:=MP.out k BO
  have aif:=TT c (xs.take k) x
  have aii:=Md c (xs.take k) x
  rw[←gV HXK.out]at aif aii
  have HS1:=Zh aif
  have HS2:=Zh aii
  have hel:(Bg c (xs.take k)).length≤100000:=by rw[OW];simp;omega
  clear DL MP aif aii
  generalize vJ c (xs.take k)=cc at *
  generalize Bg c (xs.take k)=es at *
  repeat'(first|refine aF ?_|refine au ?_|(refine jr (λyn bn aU bD bC bG aS=>?_))|refine ak (λK hK=>?_)|refine aj ?_|refine aG ?_|refine aJ ?_|refine bH ?_|go_step)
  have hsx:=TQ (w:=w'.ah yn) (b:=b) (F:=λq=>A1.T q≠0) x ⟨A1,Io.out.ah yn.ext,λ_ h=>h⟩
  refine aX Tryz.func14 hsx (λr w3 hR=>?_)
  obtain⟨rfl,jd,A3,hc3,hT3⟩:=hR
  have mZ:=Zh hc3
  have HT3:Hid (∀q,A3.T q≠0→A1.T q≠0∨w'.heap.size≤q):=Zh (λq hq=>(hT3 q hq).imp id (λh=>Nat.le_trans yn.ext.size h))
  have FB:Hid (bF (λq=>A1.T q≠0) w' w3):=Zh (bF.trans yn.ext jd (λ_ _ h=>h.elim) (λ_ _ h=>h))
  clear hc3 hT3 jd hsx q0 q1 q2 q3 Xg aU bD bC bG aS
  repeat'(first|(refine dI (λx K hK=>?_);go_simp;refine hK _ _ (aB.alloc _ _) ?_;clear hK K;refine aZ x ?_;generalize (World.ah _ x).heap.size=bn;intro yn aU bD bC bG aS;clear x)|fail)
  have Jo:=EO.out.size
  have hs3:=FB.out.size
  have uP:=(Il.out.aW FB.out (λq hq h=>h (HFU.out q hq).2)).ah yn.ext
  refine nZ (xs:=es) (ys:=[(cc.step x).2]) ZT uP (Rd.one (x:=(cc.step x).2) bD bC rfl) (by simp;omega) (by unfold maxLen;simp;omega) (λv' W5 kJ vS BF _=>?_)
  have jY:bF (λq=>(Value.slice Au nu cu).ownBlock=some q) w3 W5:=bF.trans yn.ext kJ (λ_ _ h=>h.elim) (λ_ _ h=>h)
  have aij:∀ q,(Value.slice Au nu cu).ownBlock=some q→A3.T q=0:=λq hq=>Classical.byContradiction λh=>by
   have h2:=Il.out.lt q hq
   rcases HT3.out q h with h1|h1
   ·exact h1 (HFU.out q hq).2
   ·omega
  have Fb:Hid (∃A1:og,iJ W5 b A1 (vJ c (xs.take (k+1)))∧(∀q,A1.T q≠0→F q∨w.heap.size≤q)∧bF F w W5∧dQ xK 1 28 W5 v' (Bg c (xs.take (k+1)))∧∀ q,v'.ownBlock=some q→w.heap.size≤q∧A1.T q=0):=by
   refine Zh ⟨A3,by rw[HS1.out];exact mZ.out.aW jY (λq hq h=>hq (aij q h)),λq hq=>?_,bF.trans (bF.trans EO.out FB.out (H:=F) (λ_ _ h=>h) (λq hq h=>?_)) jY (λ_ _ h=>h) (λq hq h=>?_),by rw[HS2.out];exact vS,λq hq=>?_⟩
   ·rcases HT3.out q hq with h|h
    ·exact HT1.out q h
    ·right;omega
   ·rcases HT1.out q h with h1|h1
    ·exact h1
    ·omega
   ·have:=(HFU.out q h).1;omega
   ·rcases BF with h|⟨g,h,hg⟩
    ·rw[h]at hq;exact⟨(HFU.out q hq).1,aij q hq⟩
    ·rw[h]at hq
     obtain rfl:g=q:=Option.some.inj hq
     have hys:=yn.ext.size
     refine⟨by omega,Classical.byContradiction λh=>?_⟩
     have:=mZ.out.lt g h;omega
  clear uP kJ vS BF jY aij aU bD bC bG aS
  obtain⟨A4,alj⟩:=Fb.out
  have alk:=Zh alj
  clear alj Fb
  repeat'(first|refine aF ?_|refine au ?_|refine aj ?_|go_step)
  exact⟨_,_,rfl,hd,hA,n-1,by omega,k+1,v',A4,by omega,by simp[jW],alk.out⟩
 ·obtain rfl:k=xs.length:=by omega
  repeat'(first|refine aF ?_|refine au ?_|refine ak (λK hK=>?_)|refine aj ?_|refine aC ?_|refine dS ?_|refine bJ ?_|go_step)
  refine aA hd ⟨?_,λq hq=>(HFU.out q hq).1,EO.out,A1,?_,HT1.out⟩
  ·have:=Il.out;rw[List.take_length]at this;exact this
  ·have:=Io.out;rw[List.take_length]at this;exact this
theorem Aw (l m:List cZ) (u v:Value) (w:World) (hl:yQ w u l) (hm:yQ w v m):Pure Tryz.prog 18 #[u,v] w (.bool (decide (m<+:l))):=by
 obtain⟨A0,c0,rfl,Bq,awI,-⟩:=hl.ent
 obtain⟨A1,c1,rfl,Na,aqO,-⟩:=hm.ent
 have HL:=Zh hl
 have HM:=Zh hm
 clear hl hm
 by_cases hlt:l.length<m.length
 ·have hli:(l.length:Int)<(m.length:Int):=by omega
  have hf:decide (m<+:l)=false:=decide_eq_false (λh=>by have:=h.length_le;omega)
  rw[hf]
  refine Fi (n:=16) Tryz.func18 ?_;intro A hd hA;simp only[ix,Nat.reduceAdd]
  repeat'(first|refine aF ?_|refine au ?_|refine ak (λK hK=>?_)|refine aj ?_|refine aC ?_|refine bH ?_|go_step)
  exact aA hd ⟨rfl,by simp⟩
 ·have hli:¬ (l.length:Int)<(m.length:Int):=by omega
  have hle:m.length≤l.length:=by omega
  have QS:m.length≤c0:=by omega
  have hci:(m.length:Int)≤(c0:Int):=by omega
  have hq:decide (m<+:l)=decide (l.take m.length=m):=by
   apply Bool.eq_iff_iff.2
   rw[decide_eq_true_eq,decide_eq_true_eq]
   constructor
   ·intro h;exact(List.prefix_iff_eq_take.1 h).symm
   ·intro h;rw[←h];exact List.take_prefix _ _
  rw[hq]
  have HS:Hid (∀w',aB w w'→Pure Tryz.prog 66 #[.slice A0 m.length c0,.slice A1 m.length c1] w' (.bool (decide (l.take m.length=m)))):=Zh (λw' hE=>ND (l.take m.length) m _ _ w' ((HL.out.take m.length hle).ah hE) (HM.out.ah hE))
  clear hq
  refine Fi (n:=16) Tryz.func18 ?_;intro A hd hA;simp only[ix,Nat.reduceAdd]
  repeat'(first|refine aN Tryz.func66 (HS.out _ (by simp)) ?_|refine aF ?_|refine au ?_|refine ak (λK hK=>?_)|refine aj ?_|refine aC ?_|refine aG ?_|refine bJ ?_|go_step)
  exact aA hd ⟨rfl,by simp⟩
theorem Jf (x:bV) (w:World):gK Tryz.prog 13 #[x.v] w λr w'=>r=.bool (decide (x.kind=1→x.c=0))∧aB w w':=by
 obtain⟨kind,a,b,c⟩:=x
 by_cases hk:kind=1
 ·have O7:(kind != 1)=false:=by simp[hk]
  have hv:decide (kind=1→c=0)=(c==0):=by by_cases h:c=0<;>simp[hk,h]
  dsimp only
  rw[hv]
  clear hk hv
  refine Fi (n:=11) Tryz.func13 ?_;intro A hd hA;simp only[ix,Nat.reduceAdd]
  repeat'(first|refine dw ?_|refine aF ?_|refine au ?_|refine ak (λK hK=>?_)|refine aj ?_|refine aC ?_|(refine dI (λx K hK=>?_);go_simp;refine hK _ _ (aB.alloc _ _) ?_;clear hK K;refine aZ x ?_;generalize (World.ah _ x).heap.size=bn;intro yn aU bD bC bG aS;clear x)|go_step)
  exact aA hd ⟨rfl,by simp⟩
 ·have O7:(kind != 1)=true:=by simp[hk]
  have hv:decide (kind=1→c=0)=true:=by simp[hk]
  dsimp only
  rw[hv]
  clear hk hv
  refine Fi (n:=11) Tryz.func13 ?_;intro A hd hA;simp only[ix,Nat.reduceAdd]
  repeat'(first|refine aF ?_|refine mg ?_|refine jF ?_|refine au ?_|refine ak (λK hK=>?_)|refine aj ?_|refine aC ?_|(refine dI (λx K hK=>?_);go_simp;refine hK _ _ (aB.alloc _ _) ?_;clear hK K;refine aZ x ?_;generalize (World.ah _ x).heap.size=bn;intro yn aU bD bC bG aS;clear x)|go_step)
  exact aA hd ⟨rfl,by simp⟩
theorem Me (l:List Int) (n:Int) (v:Value) (w:World) (hl:BU w v l):Pure Tryz.prog 22 #[v,.int .i64 n] w (.bool (decide (n∈l))):=by
 obtain⟨A0,c,rfl,hc,jT,HR⟩:=hl.int
 clear hl
 have HR:=Zh HR
 refine Fi (n:=18) Tryz.func22 ?_;intro A hd hA;simp only[ix,Nat.reduceAdd]
 repeat'(first|refine aF ?_|refine au ?_|refine ak (λK hK=>?_)|refine aj ?_|refine aJ ?_|go_step)
 refine dJ [0,1,5] (λk vs w'=>∃ i:Nat,w'=w∧i+k=l.length∧vs=[.slice A0 l.length c,.int .i64 n,.int .i64 i]∧n∉l.take i) l.length hd hA (by decide) ⟨0,rfl,by omega,by simp[jW],by simp⟩ ?_
 clear hd hA A;intro k vs B w' hd hA _ ⟨i,hw,hi,jk,hm⟩;subst hw jk
 have HM:=Zh hm
 clear hm
 simp only[List.zip_cons_cons,List.zip_nil_right,List.zip_nil_left]
 by_cases hlt:i<l.length
 ·obtain⟨x,b,o,HX,rfl,hb,c0⟩:=HR.out.out i hlt
  have hii:(i:Int)<(l.length:Int):=by omega
  by_cases hx:x=n
  ·have DJ:(x==n)=true:=by simp[hx]
   have hf:decide (n∈l)=true:=decide_eq_true (hx▸List.mem_of_getElem? HX.out)
   rw[hf]
   clear hx
   repeat'(first|refine aF ?_|refine au ?_|refine ak (λK hK=>?_)|refine aj ?_|refine aC ?_|refine aG ?_|refine aJ ?_|refine bH ?_|go_step)
   exact aA hd ⟨rfl,by simp⟩
  ·have DJ:(x==n)=false:=by simp[hx]
   have hnt:n∉l.take (i+1):=by
    rw[gV HX.out]
    intro h
    rcases List.mem_append.1 h with h|h
    ·exact HM.out h
    ·exact hx (List.mem_singleton.1 h).symm
   have HN:=Zh hnt
   clear hx hnt
   repeat'(first|refine aF ?_|refine au ?_|refine ak (λK hK=>?_)|refine aj ?_|refine aG ?_|refine aJ ?_|refine bH ?_|refine bJ ?_|go_step)
   exact⟨_,_,rfl,hd,hA,k-1,by omega,i+1,trivial,by omega,by simp[jW],HN.out⟩
 ·obtain rfl:i=l.length:=by omega
  have hf:decide (n∈l)=false:=decide_eq_false (by have:=HM.out;rwa [List.take_length]at this)
  rw[hf]
  repeat'(first|refine aF ?_|refine au ?_|refine ak (λK hK=>?_)|refine aj ?_|refine aC ?_|refine dS ?_|refine bJ ?_|go_step)
  exact aA hd ⟨rfl,by simp⟩
def ZU:List bV:=[⟨1,0,0,0⟩,⟨4,0,0,0⟩,⟨11,0,0,0⟩,⟨14,0,0,7⟩,⟨6,0,0,0⟩,⟨4,0,1,0⟩,⟨11,0,0,0⟩,⟨5,0,1,0⟩,⟨11,0,0,0⟩,⟨11,0,0,0⟩,⟨6,0,1,0⟩,⟨5,0,1,0⟩,⟨11,0,0,0⟩]
def cK:aO:=aO.new ⟨2,1,1⟩ 1
theorem aik:Bg cK ZU=List.replicate 13 0:=by decide+kernel
theorem alm:(vJ cK ZU).dR 0=[⟨1,-1,0,0,1,7⟩]:=by decide+kernel
theorem ail:(vJ cK ZU).ctl.part 0=true:=by decide+kernel
theorem kR (w:World):Pure Tryz.prog 12 #[] w (.bool true):=by
 refine Fi (n:=67) Tryz.func12 ?_;intro A hd hA;simp only[ix,Nat.reduceAdd]
 repeat'(first|refine aF ?_|refine au ?_|refine ak (λK hK=>?_)|refine aj ?_|go_step)
 refine aX Tryz.func11 (J6 (f:=⟨2,1,1⟩) (least:=1) (by decide) (by decide)) (λr w1 hR=>?_)
 obtain⟨b,rfl,kY,Fg⟩:=hR
 have gY:=Zh Fg.Fp
 have qO:=Zh kY
 clear Fg kY
 repeat'(first|refine aF ?_|refine au ?_|refine ak (λK hK=>?_)|refine aj ?_|(refine dI (λx K hK=>?_);go_simp;refine hK _ _ (aB.alloc _ _) ?_;clear hK K;refine aZ x ?_;generalize (World.ah _ x).heap.size=bn;intro yn aU bD bC bG aS;clear x)|go_step)
 have DL:afa (w1.ah yn) (.slice (some ⟨bn,0,none⟩) 13 13) ZU:=(dQ.lit w1 yn (enc:=bV.cs) (k:=4) (λ_=>rfl) _ ZU rfl aS.out (by unfold maxLen;decide)).rd (λ_=>rfl)
 have Kq:∀ k,(Value.slice (some ⟨bn,0,none⟩) 13 13).ownBlock=some k→¬ (w.heap.size≤k∧k<w1.heap.size)∧k<(w1.ah yn).heap.size:=λk hk=>by
  obtain rfl:bn=k:=Option.some.inj hk
  exact⟨by omega,bD⟩
 refine aX Tryz.func29 (acP (gY.out.ah yn.ext) DL Kq (by decide)) (λr w2 hR=>?_)
 obtain⟨hO,hF,bP⟩:=hR
 have iU:aB w w2:=aB.bK (Et qO.out yn.ext) bP.1 (λk hk=>hk.1)
 have e1:=aik
 have e2:=alm
 have e3:=ail
 unfold cK at e1 e2 e3
 rw[e1]at hO
 obtain⟨Al,nl,cl,rfl⟩:=aT hO
 obtain rfl:nl=13:=by have:=(dQ.rd (enc:=xK) (k:=1) (λ_=>rfl) hO).length;simpa using this.symm
 have HO:=Zh hO
 have jG:=Zh bP.2
 have rO:=Zh iU
 have HX2:=Zh e2
 have HX3:=Zh e3
 clear hO hF bP iU e1 e2 e3 DL Kq aU bD bC bG aS qO gY
 generalize vJ (aO.new ⟨2,1,1⟩ 1) ZU=c2 at *
 repeat'(first|refine aF ?_|refine au ?_|refine ak (λK hK=>?_)|refine aj ?_|refine aJ ?_|go_step)
 refine dJ [1,2,3,4] (λn vs w'=>∃ k:Nat,w'=w2∧k+n=13∧vs=[.pointer (some ⟨b,0,none⟩),.int .i64 0,.slice Al 13 cl,.int .i64 k]) 13 hd hA (by decide) ⟨0,rfl,by omega,by simp[jW]⟩ ?_
 clear hd hA A;intro n vs A w' hd hA _ ⟨k,hw,hk,jk⟩;subst hw jk
 simp only[List.zip_cons_cons,List.zip_nil_right,List.zip_nil_left]
 by_cases apI:k<13
 ·obtain⟨g,cg,iZ,Dq,jT,Ib,iK⟩:=dQ.at (enc:=xK) (k:=1) (λ_=>rfl) HO.out (i:=k) (x:=0) (by rw[List.getElem?_replicate_of_lt apI])
  cases iZ
  have d0:=iK 0 _ rfl
  rw[Nat.mul_one,Nat.add_zero]at d0
  have sZ:(k:Int)<13:=by omega
  clear iK
  repeat'(first|refine aF ?_|refine au ?_|refine ak (λK hK=>?_)|refine aj ?_|refine aG ?_|refine aJ ?_|refine bH ?_|refine bJ ?_|go_step)
  exact⟨_,_,rfl,hd,hA,n-1,by omega,k+1,trivial,by omega,by simp[jW]⟩
 ·obtain rfl:k=13:=by omega
  repeat'(first|refine aF ?_|refine au ?_|refine ak (λK hK=>?_)|refine aj ?_|refine dS ?_|refine bJ ?_|go_step)
  refine aX Tryz.func16 (Es jG.out HX3.out) (λr w3 hR=>?_)
  obtain⟨jX,v,rfl,DL,-⟩:=hR
  rw[HX2.out]at DL
  obtain⟨A3,c3,rfl,hc3,avq,vV⟩:=DL.ent
  obtain⟨e,b3,o3,he,rfl,hb3,q0,q1,q2,q3,q4,q5⟩:=vV.out 0 (by decide)
  have he2:e=⟨1,-1,0,0,1,7⟩:=by have:=he.out;simp at this;exact this.symm
  subst he2
  have P5:=Zh (Et rO.out jX)
  simp only[List.length_cons,List.length_nil,Nat.zero_add]at hc3 ⊢
  clear DL vV jX
  repeat'(first|refine dw ?_|refine aF ?_|refine au ?_|refine ak (λK hK=>?_)|refine aj ?_|refine aC ?_|go_step)
  exact aA hd ⟨rfl,P5.out⟩
end Go.Ws
