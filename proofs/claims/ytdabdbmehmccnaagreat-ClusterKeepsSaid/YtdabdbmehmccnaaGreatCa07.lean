/- Lemmas for the statements of this layer (joined texts); no condition. -/
import Derived.Lib.AppendZerosOnto
import Derived.Lib.SliceRun
import Derived.Test.YtdabdbmehmccnaaGreatCa01
import Derived.Test.YtdabdbmehmccnaaGreatCa04
import Derived.Test.YtdabdbmehmccnaaGreatCa05
import Derived.Test.YtdabdbmehmccnaaGreatCa06
namespace Go.Ws
open Go Go.RowKit Go.Proofs
set_option maxHeartbeats 4000000
set_option maxRecDepth 100000
set_option linter.unusedVariables false
set_option linter.unusedSimpArgs false
theorem Zc {w:World} {b:Nat} {F:Nat→Prop} {m:aH} (x:Int) (h:gX w b F m):gK Tryz.prog 101 #[.pointer (some ⟨b,0,none⟩),.int .i64 x] w λr w'=>r=.tuple #[.int .i64 (m.mQ x),.int .i64 (m.mP x)]∧wS w b F (m.lI x) w':=by
 have HH:=Zh h
 by_cases hp:m.id x=true
 ·obtain⟨k,rfl⟩:∃ k:Nat,x=k:=⟨x.toNat,by simp only[aH.id,Bool.and_eq_true,decide_eq_true_eq]at hp;omega⟩
  have HP:=Zh hp
  by_cases hb:m.busy (k:Int)=true
  ·have VH:Hid (((m.ay (k:Int)).state==3||(m.ay (k:Int)).state==4)=true):=Zh hb
   have bT:m.mP (k:Int)=203:=by simp[aH.mP,hp,hb]
   have Yl:m.mQ (k:Int)=0:=by simp[aH.mQ,bT]
   have bP:m.lI (k:Int)=m:=by simp[aH.lI,hp,hb]
   rw[bT,Yl,bP]
   clear bT Yl bP h
   refine Fi (n:=56) Tryz.func101 ?_;intro A hd hA;simp only[ix,Nat.reduceAdd]
   repeat'(first|refine aF ?_|refine au ?_|refine ak (λK hK=>?_)|refine aj ?_|go_step)
   refine aX Tryz.func63 (dK (c:=false) (λw' hE=>(HH.out.ah (Et (aB.refl _) hE)).some)) (λr w1 hR=>?_)
   obtain⟨hE,f1,rfl,hC⟩:=hR
   have HE:=Zh (hE)
   have gY:=Zh hC
   clear hE hC
   repeat'(first|refine aF ?_|fail)
   refine aX Tryz.func136 (kD (k:Int) (HH.out.ah HE.out)) (λr w1 hR=>?_)
   obtain⟨hE,f2,rfl,hC⟩:=hR
   replace HE:=Zh (Et HE.out hE)
   replace gY:=Zh (gY.out.ah hE)
   have kG:=Zh hC
   clear hE hC
   obtain⟨a,jg,hF⟩:=HH.out.ah HE.out
   obtain⟨u,hu⟩:=jg.ay HP.out
   rw[Int.toNat_natCast]at hu
   obtain⟨g,c,iZ,Dq,jT,hv⟩:=jg.lu.Bd hu
   obtain⟨hlt,-,-,-,-,-,c4⟩:=jg.cells
   rw[iZ]at c4
   have kS:k<a.ws.length:=(Ge hu).1
   have sZ:(k:Int)<a.ws.length:=by omega
   have xH:=Zh iZ
   have HU:=Zh hu
   have HW:=Zh hv
   have HA:=Zh jg
   have HF:=Zh hF
   simp only at hv
   clear jg hF iZ hu
   obtain⟨lg,c0,-,c2,c3,-,-⟩:=hv
   repeat'(first|refine aN Tryz.func62 (dD (xs:=[(f1,false,1),(f2,!m.id (k:Int),2)]) (n:=0) (dW _ aS rfl (by unfold maxLen;simp)) (dF.cons (gY.out.ah (by simp)) (dF.cons (kG.out.ah (by simp)) dF.nil)) (by simp[fA,HP.out])) ?_|refine aF ?_|refine au ?_|refine ak (λK hK=>?_)|refine aj ?_|refine aG ?_|(refine dI (λx K hK=>?_);go_simp;refine hK _ _ (aB.alloc _ _) ?_;clear hK K;refine aZ x ?_;generalize (World.ah _ x).heap.size=bn;intro yn aU bD bC bG aS;clear x)|refine bJ ?_|go_step)
   clear gY kG
   have BD:=Zh (Et HE.out (by simp:aB _ (w1.ah yn)))
   have HW0:=Zh (HW.out.ah (by simp:aB _ (w1.ah yn)))
   have XM:=Zh (HA.out.ah (by simp:aB _ (w1.ah yn)))
   clear HE HW HA
   have HE:=BD
   have HW:=HW0
   have HA:=XM
   clear BD HW0 XM
   have Xf:aB w1 (w1.ah yn):=by simp
   generalize World.ah w1 yn=W at *
   clear aU bD bC bG aS
   have d0:W.cell? ⟨g,k *6,none⟩=some (.int .i64 (m.ay (k:Int)).session):=HW.out.c0
   have d2:W.cell? ⟨g,k *6+2,none⟩=some (.int .i64 (m.ay (k:Int)).state):=HW.out.c2
   have Nz:g<W.heap.size:=HW.out.lt
   clear c0 c2 c3 c4 lg hlt Xf
   refine A8 [0,1,7,8] (λvs W'=>aB W W'∧vs=[.pointer (some ⟨b,0,none⟩),.int .i64 (k:Int),.pointer (some ⟨g,k *6,none⟩),.int .i64 203]) hd hA (by decide) ?_ ?_
   ·refine vg [] (by kernel_rfl) ?_
    refine iH (i:=0) ?_
    refine iH (i:=2) ?_
    refine iH (i:=3) ?_
    refine iH (i:=4) ?_
    refine dP (i:=1) (rs:=[5]) (dh ?_ (dh ?_ fG))
    ·refine jl (R:=λw0 r w'=>aB w0 w'∧∃ f,r=.agg #[f,.int .i64 203]∧qZ w' f ((m.ay (k:Int)).state==3||(m.ay (k:Int)).state==4)) Tryz.func145 (λz=>jL (HW.out.ah z.ext)) (λz r w3 hR=>?_)
     obtain⟨hE,f3,rfl,hC⟩:=hR
     refine⟨hE,?_⟩
     replace hE:=Et z.ext hE
     have mZ:=Zh hC
     clear hC
     refine Oc (i:=5) (λq K hK=>?_)
     go_simp;refine hK _ _ _ (aB.alloc _ _) (aB.refl _) ?_;clear hK K;refine qN q ?_;generalize (World.ah _ q).heap.size=bb;intro yb k1 k2 k3 k4 k5;clear q
     have oL:=yb.ext
     generalize World.ah _ yb=W4 at *
     have ES:Hid (Rd Hz 1 W4 (.slice (some ⟨bb,0,none⟩) 1 1) (qG [((⟨g,k *6,none⟩:Addr),(m.ay (k:Int)).session)])):=Zh (qw [((⟨g,k *6,none⟩:Addr),(m.ay (k:Int)).session)] k5 rfl (by unfold maxLen;simp))
     have lX:Hid (aB W W4):=Zh (Et hE oL)
     replace mZ:=Zh (mZ.out.ah oL)
     have sJ:Hid (tJ W4 [((⟨g,k *6,none⟩:Addr),(m.ay (k:Int)).session)]):=Zh ((show tJ W [((⟨g,k *6,none⟩:Addr),(m.ay (k:Int)).session)] from λy hy=>by obtain rfl:=List.mem_singleton.1 hy;exact⟨g,k *6,rfl,Nz,d0⟩).ah lX.out)
     clear hE oL
     clear k1 k2 k3 k4
     refine dP (i:=6) (rs:=[]) (dh ?_ fG)
     refine jl (R:=λw0 r w'=>aB w0 w'∧∃ f,r=.agg #[f,.int .i64 204]∧qZ w' f ([((⟨g,k *6,none⟩:Addr),(m.ay (k:Int)).session)].any λx=>decide (bQ≤x.2))) Tryz.func146 (λz=>je (xs:=[((⟨g,k *6,none⟩:Addr),(m.ay (k:Int)).session)]) (ES.out.ah z.ext) (sJ.out.ah z.ext)) (λz r w5 hR=>?_)
     obtain⟨jY,f4,rfl,hC⟩:=hR
     refine⟨jY,?_⟩
     replace jY:=Et z.ext jY
     replace mZ:=Zh (mZ.out.ah jY)
     replace lX:=Zh (Et lX.out jY)
     have FH:=Zh hC
     clear hC jY z k5 ES sJ
     refine Oc (i:=7) (λq K hK=>?_)
     go_simp;refine hK _ _ _ (aB.alloc _ _) (aB.refl _) ?_;clear hK K;refine qN q ?_;generalize (World.ah _ q).heap.size=bb;intro yb k1 k2 k3 k4 k5;clear q
     have oL:=yb.ext
     generalize World.ah _ yb=W6 at *
     refine dP (i:=8) (rs:=[]) (dh ?_ fG)
     refine jl (R:=λw0 r w'=>r=.int .i64 203∧aB w0 w') Tryz.func62 (λz=>dD (xs:=[(f3,(m.ay (k:Int)).state==3||(m.ay (k:Int)).state==4,203),(f4,[((⟨g,k *6,none⟩:Addr),(m.ay (k:Int)).session)].any λx=>decide (bQ≤x.2),204)]) ((dW _ k5 rfl (by unfold maxLen;simp)).ah z.ext) (dF.cons ((mZ.out.ah oL).ah z.ext) (dF.cons ((FH.out.ah oL).ah z.ext) dF.nil)) (by simp[fA,VH.out])) (λz r w7 hR=>?_)
     obtain⟨rfl,Gm⟩:=hR
     refine⟨Gm,?_⟩
     refine iH (i:=9) ?_
     exact oG (by kernel_rfl) ⟨rfl,_,_,rfl,hd,hA,Et lX.out (Et oL (Et z.ext Gm)),by simp[jW]⟩
    ·refine S_s (λq K hK=>?_)
     go_simp;refine hK _ _ _ (aB.alloc _ _) (aB.refl _) ?_;clear hK K;refine qN q ?_;generalize (World.ah _ q).heap.size=bb;intro yb k1 k2 k3 k4 k5;clear q
     have oL:=yb.ext
     generalize World.ah _ yb=W4 at *
     have ES:Hid (Rd Hz 1 W4 (.slice (some ⟨bb,0,none⟩) 1 1) (qG [((⟨g,k *6,none⟩:Addr),(m.ay (k:Int)).session)])):=Zh (qw [((⟨g,k *6,none⟩:Addr),(m.ay (k:Int)).session)] k5 rfl (by unfold maxLen;simp))
     have lX:Hid (aB W W4):=Zh oL
     have sJ:Hid (tJ W4 [((⟨g,k *6,none⟩:Addr),(m.ay (k:Int)).session)]):=Zh ((show tJ W [((⟨g,k *6,none⟩:Addr),(m.ay (k:Int)).session)] from λy hy=>by obtain rfl:=List.mem_singleton.1 hy;exact⟨g,k *6,rfl,Nz,d0⟩).ah lX.out)
     refine dP (i:=1) (rs:=[]) (dh ?_ fG)
     refine jl (R:=λw0 r w'=>aB w0 w'∧∃ f,r=.agg #[f,.int .i64 203]∧qZ w' f ((m.ay (k:Int)).state==3||(m.ay (k:Int)).state==4)) Tryz.func145 (λz=>jL ((HW.out.ah lX.out).ah z.ext)) (λz r w3 hR=>?_)
     obtain⟨hE,f3,rfl,hC⟩:=hR
     refine⟨hE,?_⟩
     replace hE:=Et z.ext hE
     have mZ:=Zh hC
     clear hC
     replace ES:=Zh (ES.out.ah hE)
     replace sJ:=Zh (sJ.out.ah hE)
     replace lX:=Zh (Et lX.out hE)
     clear hE oL
     clear k1 k2 k3 k4
     refine dP (i:=6) (rs:=[]) (dh ?_ fG)
     refine jl (R:=λw0 r w'=>aB w0 w'∧∃ f,r=.agg #[f,.int .i64 204]∧qZ w' f ([((⟨g,k *6,none⟩:Addr),(m.ay (k:Int)).session)].any λx=>decide (bQ≤x.2))) Tryz.func146 (λz=>je (xs:=[((⟨g,k *6,none⟩:Addr),(m.ay (k:Int)).session)]) (ES.out.ah z.ext) (sJ.out.ah z.ext)) (λz r w5 hR=>?_)
     obtain⟨jY,f4,rfl,hC⟩:=hR
     refine⟨jY,?_⟩
     replace jY:=Et z.ext jY
     replace mZ:=Zh (mZ.out.ah jY)
     replace lX:=Zh (Et lX.out jY)
     have FH:=Zh hC
     clear hC jY z k5 ES sJ
     refine Oc (i:=7) (λq K hK=>?_)
     go_simp;refine hK _ _ _ (aB.alloc _ _) (aB.refl _) ?_;clear hK K;refine qN q ?_;generalize (World.ah _ q).heap.size=bb;intro yb k1 k2 k3 k4 k5;clear q
     have oL:=yb.ext
     generalize World.ah _ yb=W6 at *
     refine dP (i:=8) (rs:=[]) (dh ?_ fG)
     refine jl (R:=λw0 r w'=>r=.int .i64 203∧aB w0 w') Tryz.func62 (λz=>dD (xs:=[(f3,(m.ay (k:Int)).state==3||(m.ay (k:Int)).state==4,203),(f4,[((⟨g,k *6,none⟩:Addr),(m.ay (k:Int)).session)].any λx=>decide (bQ≤x.2),204)]) ((dW _ k5 rfl (by unfold maxLen;simp)).ah z.ext) (dF.cons ((mZ.out.ah oL).ah z.ext) (dF.cons ((FH.out.ah oL).ah z.ext) dF.nil)) (by simp[fA,VH.out])) (λz r w7 hR=>?_)
     obtain⟨rfl,Gm⟩:=hR
     refine⟨Gm,?_⟩
     refine iH (i:=9) ?_
     exact oG (by kernel_rfl) ⟨rfl,_,_,rfl,hd,hA,Et lX.out (Et oL (Et z.ext Gm)),by simp[jW]⟩
   ·clear hd hA A
    intro vs A W' hd hA ⟨xM,jk⟩
    subst jk
    clear d0 d2 Nz
    replace HA:=Zh (HA.out.ah xM)
    replace HW:=Zh (HW.out.ah xM)
    replace HE:=Zh (Et HE.out xM)
    have d0:=HW.out.c0
    have d2:=HW.out.c2
    have Nz:=HW.out.lt
    clear xM W
    simp only[List.zip_cons_cons,List.zip_nil_right,List.zip_nil_left]
    repeat'(first|refine aF ?_|refine au ?_|refine ak (λK hK=>?_)|refine aj ?_|refine aC ?_|refine bH ?_|go_step)
    exact dB hd ⟨rfl,HH.out.jc HE.out⟩
  ·have hb:m.busy (k:Int)=false:=by simpa using hb
   by_cases he:bQ≤(m.ay (k:Int)).session
   ·have VH:Hid (((m.ay (k:Int)).state==3||(m.ay (k:Int)).state==4)=false):=Zh (by simpa [aH.busy] using hb)
    have bT:m.mP (k:Int)=204:=by simp[aH.mP,hp,hb,he]
    have Yl:m.mQ (k:Int)=0:=by simp[aH.mQ,bT]
    have bP:m.lI (k:Int)=m:=by simp[aH.lI,hp,hb,he]
    rw[bT,Yl,bP]
    clear bT Yl bP h
    have P9:Hid (decide (bQ≤(m.ay (k:Int)).session)=true):=Zh (by simpa using he)
    refine Fi (n:=56) Tryz.func101 ?_;intro A hd hA;simp only[ix,Nat.reduceAdd]
    repeat'(first|refine aF ?_|refine au ?_|refine ak (λK hK=>?_)|refine aj ?_|go_step)
    refine aX Tryz.func63 (dK (c:=false) (λw' hE=>(HH.out.ah (Et (aB.refl _) hE)).some)) (λr w1 hR=>?_)
    obtain⟨hE,f1,rfl,hC⟩:=hR
    have HE:=Zh (hE)
    have gY:=Zh hC
    clear hE hC
    repeat'(first|refine aF ?_|fail)
    refine aX Tryz.func136 (kD (k:Int) (HH.out.ah HE.out)) (λr w1 hR=>?_)
    obtain⟨hE,f2,rfl,hC⟩:=hR
    replace HE:=Zh (Et HE.out hE)
    replace gY:=Zh (gY.out.ah hE)
    have kG:=Zh hC
    clear hE hC
    obtain⟨a,jg,hF⟩:=HH.out.ah HE.out
    obtain⟨u,hu⟩:=jg.ay HP.out
    rw[Int.toNat_natCast]at hu
    obtain⟨g,c,iZ,Dq,jT,hv⟩:=jg.lu.Bd hu
    obtain⟨hlt,-,-,-,-,-,c4⟩:=jg.cells
    rw[iZ]at c4
    have kS:k<a.ws.length:=(Ge hu).1
    have sZ:(k:Int)<a.ws.length:=by omega
    have xH:=Zh iZ
    have HU:=Zh hu
    have HW:=Zh hv
    have HA:=Zh jg
    have HF:=Zh hF
    simp only at hv
    clear jg hF iZ hu
    obtain⟨lg,c0,-,c2,c3,-,-⟩:=hv
    repeat'(first|refine aN Tryz.func62 (dD (xs:=[(f1,false,1),(f2,!m.id (k:Int),2)]) (n:=0) (dW _ aS rfl (by unfold maxLen;simp)) (dF.cons (gY.out.ah (by simp)) (dF.cons (kG.out.ah (by simp)) dF.nil)) (by simp[fA,HP.out])) ?_|refine aF ?_|refine au ?_|refine ak (λK hK=>?_)|refine aj ?_|refine aG ?_|(refine dI (λx K hK=>?_);go_simp;refine hK _ _ (aB.alloc _ _) ?_;clear hK K;refine aZ x ?_;generalize (World.ah _ x).heap.size=bn;intro yn aU bD bC bG aS;clear x)|refine bJ ?_|go_step)
    clear gY kG
    have BD:=Zh (Et HE.out (by simp:aB _ (w1.ah yn)))
    have HW0:=Zh (HW.out.ah (by simp:aB _ (w1.ah yn)))
    have XM:=Zh (HA.out.ah (by simp:aB _ (w1.ah yn)))
    clear HE HW HA
    have HE:=BD
    have HW:=HW0
    have HA:=XM
    clear BD HW0 XM
    have Xf:aB w1 (w1.ah yn):=by simp
    generalize World.ah w1 yn=W at *
    clear aU bD bC bG aS
    have d0:W.cell? ⟨g,k *6,none⟩=some (.int .i64 (m.ay (k:Int)).session):=HW.out.c0
    have d2:W.cell? ⟨g,k *6+2,none⟩=some (.int .i64 (m.ay (k:Int)).state):=HW.out.c2
    have Nz:g<W.heap.size:=HW.out.lt
    clear c0 c2 c3 c4 lg hlt Xf
    refine A8 [0,1,7,8] (λvs W'=>aB W W'∧vs=[.pointer (some ⟨b,0,none⟩),.int .i64 (k:Int),.pointer (some ⟨g,k *6,none⟩),.int .i64 204]) hd hA (by decide) ?_ ?_
    ·refine vg [] (by kernel_rfl) ?_
     refine iH (i:=0) ?_
     refine iH (i:=2) ?_
     refine iH (i:=3) ?_
     refine iH (i:=4) ?_
     refine dP (i:=1) (rs:=[5]) (dh ?_ (dh ?_ fG))
     ·refine jl (R:=λw0 r w'=>aB w0 w'∧∃ f,r=.agg #[f,.int .i64 203]∧qZ w' f ((m.ay (k:Int)).state==3||(m.ay (k:Int)).state==4)) Tryz.func145 (λz=>jL (HW.out.ah z.ext)) (λz r w3 hR=>?_)
      obtain⟨hE,f3,rfl,hC⟩:=hR
      refine⟨hE,?_⟩
      replace hE:=Et z.ext hE
      have mZ:=Zh hC
      clear hC
      refine Oc (i:=5) (λq K hK=>?_)
      go_simp;refine hK _ _ _ (aB.alloc _ _) (aB.refl _) ?_;clear hK K;refine qN q ?_;generalize (World.ah _ q).heap.size=bb;intro yb k1 k2 k3 k4 k5;clear q
      have oL:=yb.ext
      generalize World.ah _ yb=W4 at *
      have ES:Hid (Rd Hz 1 W4 (.slice (some ⟨bb,0,none⟩) 1 1) (qG [((⟨g,k *6,none⟩:Addr),(m.ay (k:Int)).session)])):=Zh (qw [((⟨g,k *6,none⟩:Addr),(m.ay (k:Int)).session)] k5 rfl (by unfold maxLen;simp))
      have lX:Hid (aB W W4):=Zh (Et hE oL)
      replace mZ:=Zh (mZ.out.ah oL)
      have sJ:Hid (tJ W4 [((⟨g,k *6,none⟩:Addr),(m.ay (k:Int)).session)]):=Zh ((show tJ W [((⟨g,k *6,none⟩:Addr),(m.ay (k:Int)).session)] from λy hy=>by obtain rfl:=List.mem_singleton.1 hy;exact⟨g,k *6,rfl,Nz,d0⟩).ah lX.out)
      clear hE oL
      clear k1 k2 k3 k4
      refine dP (i:=6) (rs:=[]) (dh ?_ fG)
      refine jl (R:=λw0 r w'=>aB w0 w'∧∃ f,r=.agg #[f,.int .i64 204]∧qZ w' f ([((⟨g,k *6,none⟩:Addr),(m.ay (k:Int)).session)].any λx=>decide (bQ≤x.2))) Tryz.func146 (λz=>je (xs:=[((⟨g,k *6,none⟩:Addr),(m.ay (k:Int)).session)]) (ES.out.ah z.ext) (sJ.out.ah z.ext)) (λz r w5 hR=>?_)
      obtain⟨jY,f4,rfl,hC⟩:=hR
      refine⟨jY,?_⟩
      replace jY:=Et z.ext jY
      replace mZ:=Zh (mZ.out.ah jY)
      replace lX:=Zh (Et lX.out jY)
      have FH:=Zh hC
      clear hC jY z k5 ES sJ
      refine Oc (i:=7) (λq K hK=>?_)
      go_simp;refine hK _ _ _ (aB.alloc _ _) (aB.refl _) ?_;clear hK K;refine qN q ?_;generalize (World.ah _ q).heap.size=bb;intro yb k1 k2 k3 k4 k5;clear q
      have oL:=yb.ext
      generalize World.ah _ yb=W6 at *
      refine dP (i:=8) (rs:=[]) (dh ?_ fG)
      refine jl (R:=λw0 r w'=>r=.int .i64 204∧aB w0 w') Tryz.func62 (λz=>dD (xs:=[(f3,(m.ay (k:Int)).state==3||(m.ay (k:Int)).state==4,203),(f4,[((⟨g,k *6,none⟩:Addr),(m.ay (k:Int)).session)].any λx=>decide (bQ≤x.2),204)]) ((dW _ k5 rfl (by unfold maxLen;simp)).ah z.ext) (dF.cons ((mZ.out.ah oL).ah z.ext) (dF.cons ((FH.out.ah oL).ah z.ext) dF.nil)) (by simp[fA,VH.out,P9.out])) (λz r w7 hR=>?_)
      obtain⟨rfl,Gm⟩:=hR
      refine⟨Gm,?_⟩
      refine iH (i:=9) ?_
      exact oG (by kernel_rfl) ⟨rfl,_,_,rfl,hd,hA,Et lX.out (Et oL (Et z.ext Gm)),by simp[jW]⟩
     ·refine S_s (λq K hK=>?_)
      go_simp;refine hK _ _ _ (aB.alloc _ _) (aB.refl _) ?_;clear hK K;refine qN q ?_;generalize (World.ah _ q).heap.size=bb;intro yb k1 k2 k3 k4 k5;clear q
      have oL:=yb.ext
      generalize World.ah _ yb=W4 at *
      have ES:Hid (Rd Hz 1 W4 (.slice (some ⟨bb,0,none⟩) 1 1) (qG [((⟨g,k *6,none⟩:Addr),(m.ay (k:Int)).session)])):=Zh (qw [((⟨g,k *6,none⟩:Addr),(m.ay (k:Int)).session)] k5 rfl (by unfold maxLen;simp))
      have lX:Hid (aB W W4):=Zh oL
      have sJ:Hid (tJ W4 [((⟨g,k *6,none⟩:Addr),(m.ay (k:Int)).session)]):=Zh ((show tJ W [((⟨g,k *6,none⟩:Addr),(m.ay (k:Int)).session)] from λy hy=>by obtain rfl:=List.mem_singleton.1 hy;exact⟨g,k *6,rfl,Nz,d0⟩).ah lX.out)
      refine dP (i:=1) (rs:=[]) (dh ?_ fG)
      refine jl (R:=λw0 r w'=>aB w0 w'∧∃ f,r=.agg #[f,.int .i64 203]∧qZ w' f ((m.ay (k:Int)).state==3||(m.ay (k:Int)).state==4)) Tryz.func145 (λz=>jL ((HW.out.ah lX.out).ah z.ext)) (λz r w3 hR=>?_)
      obtain⟨hE,f3,rfl,hC⟩:=hR
      refine⟨hE,?_⟩
      replace hE:=Et z.ext hE
      have mZ:=Zh hC
      clear hC
      replace ES:=Zh (ES.out.ah hE)
      replace sJ:=Zh (sJ.out.ah hE)
      replace lX:=Zh (Et lX.out hE)
      clear hE oL
      clear k1 k2 k3 k4
      refine dP (i:=6) (rs:=[]) (dh ?_ fG)
      refine jl (R:=λw0 r w'=>aB w0 w'∧∃ f,r=.agg #[f,.int .i64 204]∧qZ w' f ([((⟨g,k *6,none⟩:Addr),(m.ay (k:Int)).session)].any λx=>decide (bQ≤x.2))) Tryz.func146 (λz=>je (xs:=[((⟨g,k *6,none⟩:Addr),(m.ay (k:Int)).session)]) (ES.out.ah z.ext) (sJ.out.ah z.ext)) (λz r w5 hR=>?_)
      obtain⟨jY,f4,rfl,hC⟩:=hR
      refine⟨jY,?_⟩
      replace jY:=Et z.ext jY
      replace mZ:=Zh (mZ.out.ah jY)
      replace lX:=Zh (Et lX.out jY)
      have FH:=Zh hC
      clear hC jY z k5 ES sJ
      refine Oc (i:=7) (λq K hK=>?_)
      go_simp;refine hK _ _ _ (aB.alloc _ _) (aB.refl _) ?_;clear hK K;refine qN q ?_;generalize (World.ah _ q).heap.size=bb;intro yb k1 k2 k3 k4 k5;clear q
      have oL:=yb.ext
      generalize World.ah _ yb=W6 at *
      refine dP (i:=8) (rs:=[]) (dh ?_ fG)
      refine jl (R:=λw0 r w'=>r=.int .i64 204∧aB w0 w') Tryz.func62 (λz=>dD (xs:=[(f3,(m.ay (k:Int)).state==3||(m.ay (k:Int)).state==4,203),(f4,[((⟨g,k *6,none⟩:Addr),(m.ay (k:Int)).session)].any λx=>decide (bQ≤x.2),204)]) ((dW _ k5 rfl (by unfold maxLen;simp)).ah z.ext) (dF.cons ((mZ.out.ah oL).ah z.ext) (dF.cons ((FH.out.ah oL).ah z.ext) dF.nil)) (by simp[fA,VH.out,P9.out])) (λz r w7 hR=>?_)
      obtain⟨rfl,Gm⟩:=hR
      refine⟨Gm,?_⟩
      refine iH (i:=9) ?_
      exact oG (by kernel_rfl) ⟨rfl,_,_,rfl,hd,hA,Et lX.out (Et oL (Et z.ext Gm)),by simp[jW]⟩
    ·clear hd hA A
     intro vs A W' hd hA ⟨xM,jk⟩
     subst jk
     clear d0 d2 Nz
     replace HA:=Zh (HA.out.ah xM)
     replace HW:=Zh (HW.out.ah xM)
     replace HE:=Zh (Et HE.out xM)
     have d0:=HW.out.c0
     have d2:=HW.out.c2
     have Nz:=HW.out.lt
     clear xM W
     simp only[List.zip_cons_cons,List.zip_nil_right,List.zip_nil_left]
     repeat'(first|refine aF ?_|refine au ?_|refine ak (λK hK=>?_)|refine aj ?_|refine aC ?_|refine bH ?_|go_step)
     exact dB hd ⟨rfl,HH.out.jc HE.out⟩
   ·by_cases hs:(m.ay (k:Int)).state=2
    ·have VH:Hid (((m.ay (k:Int)).state==3||(m.ay (k:Int)).state==4)=false):=Zh (by simpa [aH.busy] using hb)
     have bT:m.mP (k:Int)=203:=by simp[aH.mP,hp,hb,he,hs]
     have Yl:m.mQ (k:Int)=0:=by simp[aH.mQ,bT]
     have bP:m.lI (k:Int)=m.kC (k:Int) {m.ay (k:Int) with session:=(m.ay (k:Int)).session+1,state:=4}:=by simp[aH.lI,hp,hb,he,hs]
     have lU:kU m.form {m.ay (k:Int) with session:=(m.ay (k:Int)).session+1,state:=4}:=by
      have hq:=h.bU.ay hp
      exact⟨by have:=hq.session;show 0≤(m.ay (k:Int)).session+1∧(m.ay (k:Int)).session+1≤bQ;omega,hq.num,⟨by show (1:Int)≤4;decide,by show (4:Int)≤4;decide⟩,hq.parts,hq.rise,hq.offset,hq.next⟩
     have QM:=Zh lU
     have hsx:(m.ay (k:Int)).session+1<9223372036854775808:=by unfold bQ at he;omega
     have aox:0≤(m.ay (k:Int)).session:=(h.bU.ay hp).session.1
     have JK:((m.ay (k:Int)).state==2)=true:=by simp[hs]
     rw[bT,Yl,bP]
     clear bT Yl bP lU h
     have P9:Hid (decide (bQ≤(m.ay (k:Int)).session)=false):=Zh (by simpa using he)
     refine Fi (n:=56) Tryz.func101 ?_;intro A hd hA;simp only[ix,Nat.reduceAdd]
     repeat'(first|refine aF ?_|refine au ?_|refine ak (λK hK=>?_)|refine aj ?_|go_step)
     refine aX Tryz.func63 (dK (c:=false) (λw' hE=>(HH.out.ah (Et (aB.refl _) hE)).some)) (λr w1 hR=>?_)
     obtain⟨hE,f1,rfl,hC⟩:=hR
     have HE:=Zh (hE)
     have gY:=Zh hC
     clear hE hC
     repeat'(first|refine aF ?_|fail)
     refine aX Tryz.func136 (kD (k:Int) (HH.out.ah HE.out)) (λr w1 hR=>?_)
     obtain⟨hE,f2,rfl,hC⟩:=hR
     replace HE:=Zh (Et HE.out hE)
     replace gY:=Zh (gY.out.ah hE)
     have kG:=Zh hC
     clear hE hC
     obtain⟨a,jg,hF⟩:=HH.out.ah HE.out
     obtain⟨u,hu⟩:=jg.ay HP.out
     rw[Int.toNat_natCast]at hu
     obtain⟨g,c,iZ,Dq,jT,hv⟩:=jg.lu.Bd hu
     obtain⟨hlt,-,-,-,-,-,c4⟩:=jg.cells
     rw[iZ]at c4
     have kS:k<a.ws.length:=(Ge hu).1
     have sZ:(k:Int)<a.ws.length:=by omega
     have xH:=Zh iZ
     have HU:=Zh hu
     have HW:=Zh hv
     have HA:=Zh jg
     have HF:=Zh hF
     simp only at hv
     clear jg hF iZ hu
     obtain⟨lg,c0,-,c2,c3,-,-⟩:=hv
     repeat'(first|refine aN Tryz.func62 (dD (xs:=[(f1,false,1),(f2,!m.id (k:Int),2)]) (n:=0) (dW _ aS rfl (by unfold maxLen;simp)) (dF.cons (gY.out.ah (by simp)) (dF.cons (kG.out.ah (by simp)) dF.nil)) (by simp[fA,HP.out])) ?_|refine aF ?_|refine au ?_|refine ak (λK hK=>?_)|refine aj ?_|refine aG ?_|(refine dI (λx K hK=>?_);go_simp;refine hK _ _ (aB.alloc _ _) ?_;clear hK K;refine aZ x ?_;generalize (World.ah _ x).heap.size=bn;intro yn aU bD bC bG aS;clear x)|refine bJ ?_|go_step)
     clear gY kG
     have BD:=Zh (Et HE.out (by simp:aB _ (w1.ah yn)))
     have HW0:=Zh (HW.out.ah (by simp:aB _ (w1.ah yn)))
     have XM:=Zh (HA.out.ah (by simp:aB _ (w1.ah yn)))
     clear HE HW HA
     have HE:=BD
     have HW:=HW0
     have HA:=XM
     clear BD HW0 XM
     have Xf:aB w1 (w1.ah yn):=by simp
     generalize World.ah w1 yn=W at *
     clear aU bD bC bG aS
     have d0:W.cell? ⟨g,k *6,none⟩=some (.int .i64 (m.ay (k:Int)).session):=HW.out.c0
     have d2:W.cell? ⟨g,k *6+2,none⟩=some (.int .i64 (m.ay (k:Int)).state):=HW.out.c2
     have Nz:g<W.heap.size:=HW.out.lt
     clear c0 c2 c3 c4 lg hlt Xf
     refine A8 [0,1,7,8] (λvs W'=>aB W W'∧vs=[.pointer (some ⟨b,0,none⟩),.int .i64 (k:Int),.pointer (some ⟨g,k *6,none⟩),.int .i64 0]) hd hA (by decide) ?_ ?_
     ·refine vg [] (by kernel_rfl) ?_
      refine iH (i:=0) ?_
      refine iH (i:=2) ?_
      refine iH (i:=3) ?_
      refine iH (i:=4) ?_
      refine dP (i:=1) (rs:=[5]) (dh ?_ (dh ?_ fG))
      ·refine jl (R:=λw0 r w'=>aB w0 w'∧∃ f,r=.agg #[f,.int .i64 203]∧qZ w' f ((m.ay (k:Int)).state==3||(m.ay (k:Int)).state==4)) Tryz.func145 (λz=>jL (HW.out.ah z.ext)) (λz r w3 hR=>?_)
       obtain⟨hE,f3,rfl,hC⟩:=hR
       refine⟨hE,?_⟩
       replace hE:=Et z.ext hE
       have mZ:=Zh hC
       clear hC
       refine Oc (i:=5) (λq K hK=>?_)
       go_simp;refine hK _ _ _ (aB.alloc _ _) (aB.refl _) ?_;clear hK K;refine qN q ?_;generalize (World.ah _ q).heap.size=bb;intro yb k1 k2 k3 k4 k5;clear q
       have oL:=yb.ext
       generalize World.ah _ yb=W4 at *
       have ES:Hid (Rd Hz 1 W4 (.slice (some ⟨bb,0,none⟩) 1 1) (qG [((⟨g,k *6,none⟩:Addr),(m.ay (k:Int)).session)])):=Zh (qw [((⟨g,k *6,none⟩:Addr),(m.ay (k:Int)).session)] k5 rfl (by unfold maxLen;simp))
       have lX:Hid (aB W W4):=Zh (Et hE oL)
       replace mZ:=Zh (mZ.out.ah oL)
       have sJ:Hid (tJ W4 [((⟨g,k *6,none⟩:Addr),(m.ay (k:Int)).session)]):=Zh ((show tJ W [((⟨g,k *6,none⟩:Addr),(m.ay (k:Int)).session)] from λy hy=>by obtain rfl:=List.mem_singleton.1 hy;exact⟨g,k *6,rfl,Nz,d0⟩).ah lX.out)
       clear hE oL
       clear k1 k2 k3 k4
       refine dP (i:=6) (rs:=[]) (dh ?_ fG)
       refine jl (R:=λw0 r w'=>aB w0 w'∧∃ f,r=.agg #[f,.int .i64 204]∧qZ w' f ([((⟨g,k *6,none⟩:Addr),(m.ay (k:Int)).session)].any λx=>decide (bQ≤x.2))) Tryz.func146 (λz=>je (xs:=[((⟨g,k *6,none⟩:Addr),(m.ay (k:Int)).session)]) (ES.out.ah z.ext) (sJ.out.ah z.ext)) (λz r w5 hR=>?_)
       obtain⟨jY,f4,rfl,hC⟩:=hR
       refine⟨jY,?_⟩
       replace jY:=Et z.ext jY
       replace mZ:=Zh (mZ.out.ah jY)
       replace lX:=Zh (Et lX.out jY)
       have FH:=Zh hC
       clear hC jY z k5 ES sJ
       refine Oc (i:=7) (λq K hK=>?_)
       go_simp;refine hK _ _ _ (aB.alloc _ _) (aB.refl _) ?_;clear hK K;refine qN q ?_;generalize (World.ah _ q).heap.size=bb;intro yb k1 k2 k3 k4 k5;clear q
       have oL:=yb.ext
       generalize World.ah _ yb=W6 at *
       refine dP (i:=8) (rs:=[]) (dh ?_ fG)
       refine jl (R:=λw0 r w'=>r=.int .i64 0∧aB w0 w') Tryz.func62 (λz=>dD (xs:=[(f3,(m.ay (k:Int)).state==3||(m.ay (k:Int)).state==4,203),(f4,[((⟨g,k *6,none⟩:Addr),(m.ay (k:Int)).session)].any λx=>decide (bQ≤x.2),204)]) ((dW _ k5 rfl (by unfold maxLen;simp)).ah z.ext) (dF.cons ((mZ.out.ah oL).ah z.ext) (dF.cons ((FH.out.ah oL).ah z.ext) dF.nil)) (by simp[fA,VH.out,P9.out])) (λz r w7 hR=>?_)
       obtain⟨rfl,Gm⟩:=hR
       refine⟨Gm,?_⟩
       refine iH (i:=9) ?_
       exact oG (by kernel_rfl) ⟨rfl,_,_,rfl,hd,hA,Et lX.out (Et oL (Et z.ext Gm)),by simp[jW]⟩
      ·refine S_s (λq K hK=>?_)
       go_simp;refine hK _ _ _ (aB.alloc _ _) (aB.refl _) ?_;clear hK K;refine qN q ?_;generalize (World.ah _ q).heap.size=bb;intro yb k1 k2 k3 k4 k5;clear q
       have oL:=yb.ext
       generalize World.ah _ yb=W4 at *
       have ES:Hid (Rd Hz 1 W4 (.slice (some ⟨bb,0,none⟩) 1 1) (qG [((⟨g,k *6,none⟩:Addr),(m.ay (k:Int)).session)])):=Zh (qw [((⟨g,k *6,none⟩:Addr),(m.ay (k:Int)).session)] k5 rfl (by unfold maxLen;simp))
       have lX:Hid (aB W W4):=Zh oL
       have sJ:Hid (tJ W4 [((⟨g,k *6,none⟩:Addr),(m.ay (k:Int)).session)]):=Zh ((show tJ W [((⟨g,k *6,none⟩:Addr),(m.ay (k:Int)).session)] from λy hy=>by obtain rfl:=List.mem_singleton.1 hy;exact⟨g,k *6,rfl,Nz,d0⟩).ah lX.out)
       refine dP (i:=1) (rs:=[]) (dh ?_ fG)
       refine jl (R:=λw0 r w'=>aB w0 w'∧∃ f,r=.agg #[f,.int .i64 203]∧qZ w' f ((m.ay (k:Int)).state==3||(m.ay (k:Int)).state==4)) Tryz.func145 (λz=>jL ((HW.out.ah lX.out).ah z.ext)) (λz r w3 hR=>?_)
       obtain⟨hE,f3,rfl,hC⟩:=hR
       refine⟨hE,?_⟩
       replace hE:=Et z.ext hE
       have mZ:=Zh hC
       clear hC
       replace ES:=Zh (ES.out.ah hE)
       replace sJ:=Zh (sJ.out.ah hE)
       replace lX:=Zh (Et lX.out hE)
       clear hE oL
       clear k1 k2 k3 k4
       refine dP (i:=6) (rs:=[]) (dh ?_ fG)
       refine jl (R:=λw0 r w'=>aB w0 w'∧∃ f,r=.agg #[f,.int .i64 204]∧qZ w' f ([((⟨g,k *6,none⟩:Addr),(m.ay (k:Int)).session)].any λx=>decide (bQ≤x.2))) Tryz.func146 (λz=>je (xs:=[((⟨g,k *6,none⟩:Addr),(m.ay (k:Int)).session)]) (ES.out.ah z.ext) (sJ.out.ah z.ext)) (λz r w5 hR=>?_)
       obtain⟨jY,f4,rfl,hC⟩:=hR
       refine⟨jY,?_⟩
       replace jY:=Et z.ext jY
       replace mZ:=Zh (mZ.out.ah jY)
       replace lX:=Zh (Et lX.out jY)
       have FH:=Zh hC
       clear hC jY z k5 ES sJ
       refine Oc (i:=7) (λq K hK=>?_)
       go_simp;refine hK _ _ _ (aB.alloc _ _) (aB.refl _) ?_;clear hK K;refine qN q ?_;generalize (World.ah _ q).heap.size=bb;intro yb k1 k2 k3 k4 k5;clear q
       have oL:=yb.ext
       generalize World.ah _ yb=W6 at *
       refine dP (i:=8) (rs:=[]) (dh ?_ fG)
       refine jl (R:=λw0 r w'=>r=.int .i64 0∧aB w0 w') Tryz.func62 (λz=>dD (xs:=[(f3,(m.ay (k:Int)).state==3||(m.ay (k:Int)).state==4,203),(f4,[((⟨g,k *6,none⟩:Addr),(m.ay (k:Int)).session)].any λx=>decide (bQ≤x.2),204)]) ((dW _ k5 rfl (by unfold maxLen;simp)).ah z.ext) (dF.cons ((mZ.out.ah oL).ah z.ext) (dF.cons ((FH.out.ah oL).ah z.ext) dF.nil)) (by simp[fA,VH.out,P9.out])) (λz r w7 hR=>?_)
       obtain⟨rfl,Gm⟩:=hR
       refine⟨Gm,?_⟩
       refine iH (i:=9) ?_
       exact oG (by kernel_rfl) ⟨rfl,_,_,rfl,hd,hA,Et lX.out (Et oL (Et z.ext Gm)),by simp[jW]⟩
     ·clear hd hA A
      intro vs A W' hd hA ⟨xM,jk⟩
      subst jk
      clear d0 d2 Nz
      replace HA:=Zh (HA.out.ah xM)
      replace HW:=Zh (HW.out.ah xM)
      replace HE:=Zh (Et HE.out xM)
      have d0:=HW.out.c0
      have d2:=HW.out.c2
      have Nz:=HW.out.lt
      clear xM W
      simp only[List.zip_cons_cons,List.zip_nil_right,List.zip_nil_left]
      repeat'(first|refine aF ?_|refine au ?_|refine ak (λK hK=>?_)|refine aj ?_|refine aG ?_|refine bJ ?_|go_step)
      have hL:=HA.out.lu
      rw[xH.out]at hL
      refine kN (v:=.int .i64 ((m.ay (k:Int)).session+1)) k 0 (m.ay (k:Int),u) (({m.ay (k:Int) with session:=(m.ay (k:Int)).session+1}:bW),u) hL HU.out (λ_=>rfl) (by simp[Value.cells]) (by intro j' u' h;have hj:j'<6:=(Ge h).1;rcases(show j'=0∨j'=1∨j'=2∨j'=3∨j'=4∨j'=5 by omega) with rfl|rfl|rfl|rfl|rfl|rfl<;>simpa [Value.cells] using h) (λW2 hM hO=>?_)
      obtain⟨g',c',jf,-,-,Ym⟩:=hO.Bd (List.getElem?_set_self kS)
      simp only[List.length_set]at jf
      cases jf
      obtain⟨lg2,e0,-,e2,e3,-,-⟩:=Ym
      simp only at e0 e2 e3
      have HO:=Zh hO
      have HM:=Zh hM
      clear hO hM hL d0 d2 Nz
      repeat'(first|refine aF ?_|refine au ?_|refine ak (λK hK=>?_)|refine aj ?_|refine bH ?_|go_step)
      refine kN (v:=.int .i64 4) k 2 (({m.ay (k:Int) with session:=(m.ay (k:Int)).session+1}:bW),u) (({m.ay (k:Int) with session:=(m.ay (k:Int)).session+1,state:=4}:bW),u) HO.out (List.getElem?_set_self kS) (λ_=>rfl) (by simp[Value.cells]) (by intro j' u' h;have hj:j'<6:=(Ge h).1;rcases(show j'=0∨j'=1∨j'=2∨j'=3∨j'=4∨j'=5 by omega) with rfl|rfl|rfl|rfl|rfl|rfl<;>simpa [Value.cells] using h) (λW3 kL hO=>?_)
      rw[List.set_set]at hO
      replace HO:=Zh hO
      replace HM:=Zh (bF.trans HM.out kL (H:=(· =g)) (λ_ _ h=>h) (λ_ _ h=>h))
      clear hO kL e0 e2 e3 lg2
      repeat'(first|refine aF ?_|refine au ?_|refine ak (λK hK=>?_)|refine aj ?_|refine aC ?_|go_step)
      have QU:=HA.out.agd (i:=(k:Int)) HP.out QM.out HM.out (λk' hk=>by rw[xH.out,hk];rfl) (by rw[Int.toNat_natCast,xH.out];exact HO.out) (by rw[Int.toNat_natCast];exact HU.out) rfl
      exact dB hd ⟨rfl,QU.to HE.out HM.out (λk' _ hk=>HF.out _ (by have:=HA.out.tW k' (by rw[xH.out,hk];rfl);omega)) (λk' hk=>.inl (HF.out k' hk))⟩
    ·have VH:Hid (((m.ay (k:Int)).state==3||(m.ay (k:Int)).state==4)=false):=Zh (by simpa [aH.busy] using hb)
     have bT:m.mP (k:Int)=0:=by simp[aH.mP,hp,hb,he,hs]
     have Yl:m.mQ (k:Int)=(m.ay (k:Int)).session+1:=by simp[aH.mQ,bT]
     have bP:m.lI (k:Int)=m.kC (k:Int) {m.ay (k:Int) with session:=(m.ay (k:Int)).session+1,state:=(m.ay (k:Int)).state}:=by simp[aH.lI,hp,hb,he,hs]
     have lU:kU m.form {m.ay (k:Int) with session:=(m.ay (k:Int)).session+1,state:=(m.ay (k:Int)).state}:=by
      have hq:=h.bU.ay hp
      exact⟨by have:=hq.session;show 0≤(m.ay (k:Int)).session+1∧(m.ay (k:Int)).session+1≤bQ;omega,hq.num,hq.state,hq.parts,hq.rise,hq.offset,hq.next⟩
     have QM:=Zh lU
     have hsx:(m.ay (k:Int)).session+1<9223372036854775808:=by unfold bQ at he;omega
     have aox:0≤(m.ay (k:Int)).session:=(h.bU.ay hp).session.1
     have JK:((m.ay (k:Int)).state==2)=false:=by simp[hs]
     rw[bT,Yl,bP]
     clear bT Yl bP lU h
     have P9:Hid (decide (bQ≤(m.ay (k:Int)).session)=false):=Zh (by simpa using he)
     refine Fi (n:=56) Tryz.func101 ?_;intro A hd hA;simp only[ix,Nat.reduceAdd]
     repeat'(first|refine aF ?_|refine au ?_|refine ak (λK hK=>?_)|refine aj ?_|go_step)
     refine aX Tryz.func63 (dK (c:=false) (λw' hE=>(HH.out.ah (Et (aB.refl _) hE)).some)) (λr w1 hR=>?_)
     obtain⟨hE,f1,rfl,hC⟩:=hR
     have HE:=Zh (hE)
     have gY:=Zh hC
     clear hE hC
     repeat'(first|refine aF ?_|fail)
     refine aX Tryz.func136 (kD (k:Int) (HH.out.ah HE.out)) (λr w1 hR=>?_)
     obtain⟨hE,f2,rfl,hC⟩:=hR
     replace HE:=Zh (Et HE.out hE)
     replace gY:=Zh (gY.out.ah hE)
     have kG:=Zh hC
     clear hE hC
     obtain⟨a,jg,hF⟩:=HH.out.ah HE.out
     obtain⟨u,hu⟩:=jg.ay HP.out
     rw[Int.toNat_natCast]at hu
     obtain⟨g,c,iZ,Dq,jT,hv⟩:=jg.lu.Bd hu
     obtain⟨hlt,-,-,-,-,-,c4⟩:=jg.cells
     rw[iZ]at c4
     have kS:k<a.ws.length:=(Ge hu).1
     have sZ:(k:Int)<a.ws.length:=by omega
     have xH:=Zh iZ
     have HU:=Zh hu
     have HW:=Zh hv
     have HA:=Zh jg
     have HF:=Zh hF
     simp only at hv
     clear jg hF iZ hu
     obtain⟨lg,c0,-,c2,c3,-,-⟩:=hv
     repeat'(first|refine aN Tryz.func62 (dD (xs:=[(f1,false,1),(f2,!m.id (k:Int),2)]) (n:=0) (dW _ aS rfl (by unfold maxLen;simp)) (dF.cons (gY.out.ah (by simp)) (dF.cons (kG.out.ah (by simp)) dF.nil)) (by simp[fA,HP.out])) ?_|refine aF ?_|refine au ?_|refine ak (λK hK=>?_)|refine aj ?_|refine aG ?_|(refine dI (λx K hK=>?_);go_simp;refine hK _ _ (aB.alloc _ _) ?_;clear hK K;refine aZ x ?_;generalize (World.ah _ x).heap.size=bn;intro yn aU bD bC bG aS;clear x)|refine bJ ?_|go_step)
     clear gY kG
     have BD:=Zh (Et HE.out (by simp:aB _ (w1.ah yn)))
     have HW0:=Zh (HW.out.ah (by simp:aB _ (w1.ah yn)))
     have XM:=Zh (HA.out.ah (by simp:aB _ (w1.ah yn)))
     clear HE HW HA
     have HE:=BD
     have HW:=HW0
     have HA:=XM
     clear BD HW0 XM
     have Xf:aB w1 (w1.ah yn):=by simp
     generalize World.ah w1 yn=W at *
     clear aU bD bC bG aS
     have d0:W.cell? ⟨g,k *6,none⟩=some (.int .i64 (m.ay (k:Int)).session):=HW.out.c0
     have d2:W.cell? ⟨g,k *6+2,none⟩=some (.int .i64 (m.ay (k:Int)).state):=HW.out.c2
     have Nz:g<W.heap.size:=HW.out.lt
     clear c0 c2 c3 c4 lg hlt Xf
     refine A8 [0,1,7,8] (λvs W'=>aB W W'∧vs=[.pointer (some ⟨b,0,none⟩),.int .i64 (k:Int),.pointer (some ⟨g,k *6,none⟩),.int .i64 0]) hd hA (by decide) ?_ ?_
     ·refine vg [] (by kernel_rfl) ?_
      refine iH (i:=0) ?_
      refine iH (i:=2) ?_
      refine iH (i:=3) ?_
      refine iH (i:=4) ?_
      refine dP (i:=1) (rs:=[5]) (dh ?_ (dh ?_ fG))
      ·refine jl (R:=λw0 r w'=>aB w0 w'∧∃ f,r=.agg #[f,.int .i64 203]∧qZ w' f ((m.ay (k:Int)).state==3||(m.ay (k:Int)).state==4)) Tryz.func145 (λz=>jL (HW.out.ah z.ext)) (λz r w3 hR=>?_)
       obtain⟨hE,f3,rfl,hC⟩:=hR
       refine⟨hE,?_⟩
       replace hE:=Et z.ext hE
       have mZ:=Zh hC
       clear hC
       refine Oc (i:=5) (λq K hK=>?_)
       go_simp;refine hK _ _ _ (aB.alloc _ _) (aB.refl _) ?_;clear hK K;refine qN q ?_;generalize (World.ah _ q).heap.size=bb;intro yb k1 k2 k3 k4 k5;clear q
       have oL:=yb.ext
       generalize World.ah _ yb=W4 at *
       have ES:Hid (Rd Hz 1 W4 (.slice (some ⟨bb,0,none⟩) 1 1) (qG [((⟨g,k *6,none⟩:Addr),(m.ay (k:Int)).session)])):=Zh (qw [((⟨g,k *6,none⟩:Addr),(m.ay (k:Int)).session)] k5 rfl (by unfold maxLen;simp))
       have lX:Hid (aB W W4):=Zh (Et hE oL)
       replace mZ:=Zh (mZ.out.ah oL)
       have sJ:Hid (tJ W4 [((⟨g,k *6,none⟩:Addr),(m.ay (k:Int)).session)]):=Zh ((show tJ W [((⟨g,k *6,none⟩:Addr),(m.ay (k:Int)).session)] from λy hy=>by obtain rfl:=List.mem_singleton.1 hy;exact⟨g,k *6,rfl,Nz,d0⟩).ah lX.out)
       clear hE oL
       clear k1 k2 k3 k4
       refine dP (i:=6) (rs:=[]) (dh ?_ fG)
       refine jl (R:=λw0 r w'=>aB w0 w'∧∃ f,r=.agg #[f,.int .i64 204]∧qZ w' f ([((⟨g,k *6,none⟩:Addr),(m.ay (k:Int)).session)].any λx=>decide (bQ≤x.2))) Tryz.func146 (λz=>je (xs:=[((⟨g,k *6,none⟩:Addr),(m.ay (k:Int)).session)]) (ES.out.ah z.ext) (sJ.out.ah z.ext)) (λz r w5 hR=>?_)
       obtain⟨jY,f4,rfl,hC⟩:=hR
       refine⟨jY,?_⟩
       replace jY:=Et z.ext jY
       replace mZ:=Zh (mZ.out.ah jY)
       replace lX:=Zh (Et lX.out jY)
       have FH:=Zh hC
       clear hC jY z k5 ES sJ
       refine Oc (i:=7) (λq K hK=>?_)
       go_simp;refine hK _ _ _ (aB.alloc _ _) (aB.refl _) ?_;clear hK K;refine qN q ?_;generalize (World.ah _ q).heap.size=bb;intro yb k1 k2 k3 k4 k5;clear q
       have oL:=yb.ext
       generalize World.ah _ yb=W6 at *
       refine dP (i:=8) (rs:=[]) (dh ?_ fG)
       refine jl (R:=λw0 r w'=>r=.int .i64 0∧aB w0 w') Tryz.func62 (λz=>dD (xs:=[(f3,(m.ay (k:Int)).state==3||(m.ay (k:Int)).state==4,203),(f4,[((⟨g,k *6,none⟩:Addr),(m.ay (k:Int)).session)].any λx=>decide (bQ≤x.2),204)]) ((dW _ k5 rfl (by unfold maxLen;simp)).ah z.ext) (dF.cons ((mZ.out.ah oL).ah z.ext) (dF.cons ((FH.out.ah oL).ah z.ext) dF.nil)) (by simp[fA,VH.out,P9.out])) (λz r w7 hR=>?_)
       obtain⟨rfl,Gm⟩:=hR
       refine⟨Gm,?_⟩
       refine iH (i:=9) ?_
       exact oG (by kernel_rfl) ⟨rfl,_,_,rfl,hd,hA,Et lX.out (Et oL (Et z.ext Gm)),by simp[jW]⟩
      ·refine S_s (λq K hK=>?_)
       go_simp;refine hK _ _ _ (aB.alloc _ _) (aB.refl _) ?_;clear hK K;refine qN q ?_;generalize (World.ah _ q).heap.size=bb;intro yb k1 k2 k3 k4 k5;clear q
       have oL:=yb.ext
       generalize World.ah _ yb=W4 at *
       have ES:Hid (Rd Hz 1 W4 (.slice (some ⟨bb,0,none⟩) 1 1) (qG [((⟨g,k *6,none⟩:Addr),(m.ay (k:Int)).session)])):=Zh (qw [((⟨g,k *6,none⟩:Addr),(m.ay (k:Int)).session)] k5 rfl (by unfold maxLen;simp))
       have lX:Hid (aB W W4):=Zh oL
       have sJ:Hid (tJ W4 [((⟨g,k *6,none⟩:Addr),(m.ay (k:Int)).session)]):=Zh ((show tJ W [((⟨g,k *6,none⟩:Addr),(m.ay (k:Int)).session)] from λy hy=>by obtain rfl:=List.mem_singleton.1 hy;exact⟨g,k *6,rfl,Nz,d0⟩).ah lX.out)
       refine dP (i:=1) (rs:=[]) (dh ?_ fG)
       refine jl (R:=λw0 r w'=>aB w0 w'∧∃ f,r=.agg #[f,.int .i64 203]∧qZ w' f ((m.ay (k:Int)).state==3||(m.ay (k:Int)).state==4)) Tryz.func145 (λz=>jL ((HW.out.ah lX.out).ah z.ext)) (λz r w3 hR=>?_)
       obtain⟨hE,f3,rfl,hC⟩:=hR
       refine⟨hE,?_⟩
       replace hE:=Et z.ext hE
       have mZ:=Zh hC
       clear hC
       replace ES:=Zh (ES.out.ah hE)
       replace sJ:=Zh (sJ.out.ah hE)
       replace lX:=Zh (Et lX.out hE)
       clear hE oL
       clear k1 k2 k3 k4
       refine dP (i:=6) (rs:=[]) (dh ?_ fG)
       refine jl (R:=λw0 r w'=>aB w0 w'∧∃ f,r=.agg #[f,.int .i64 204]∧qZ w' f ([((⟨g,k *6,none⟩:Addr),(m.ay (k:Int)).session)].any λx=>decide (bQ≤x.2))) Tryz.func146 (λz=>je (xs:=[((⟨g,k *6,none⟩:Addr),(m.ay (k:Int)).session)]) (ES.out.ah z.ext) (sJ.out.ah z.ext)) (λz r w5 hR=>?_)
       obtain⟨jY,f4,rfl,hC⟩:=hR
       refine⟨jY,?_⟩
       replace jY:=Et z.ext jY
       replace mZ:=Zh (mZ.out.ah jY)
       replace lX:=Zh (Et lX.out jY)
       have FH:=Zh hC
       clear hC jY z k5 ES sJ
       refine Oc (i:=7) (λq K hK=>?_)
       go_simp;refine hK _ _ _ (aB.alloc _ _) (aB.refl _) ?_;clear hK K;refine qN q ?_;generalize (World.ah _ q).heap.size=bb;intro yb k1 k2 k3 k4 k5;clear q
       have oL:=yb.ext
       generalize World.ah _ yb=W6 at *
       refine dP (i:=8) (rs:=[]) (dh ?_ fG)
       refine jl (R:=λw0 r w'=>r=.int .i64 0∧aB w0 w') Tryz.func62 (λz=>dD (xs:=[(f3,(m.ay (k:Int)).state==3||(m.ay (k:Int)).state==4,203),(f4,[((⟨g,k *6,none⟩:Addr),(m.ay (k:Int)).session)].any λx=>decide (bQ≤x.2),204)]) ((dW _ k5 rfl (by unfold maxLen;simp)).ah z.ext) (dF.cons ((mZ.out.ah oL).ah z.ext) (dF.cons ((FH.out.ah oL).ah z.ext) dF.nil)) (by simp[fA,VH.out,P9.out])) (λz r w7 hR=>?_)
       obtain⟨rfl,Gm⟩:=hR
       refine⟨Gm,?_⟩
       refine iH (i:=9) ?_
       exact oG (by kernel_rfl) ⟨rfl,_,_,rfl,hd,hA,Et lX.out (Et oL (Et z.ext Gm)),by simp[jW]⟩
     ·clear hd hA A
      intro vs A W' hd hA ⟨xM,jk⟩
      subst jk
      clear d0 d2 Nz
      replace HA:=Zh (HA.out.ah xM)
      replace HW:=Zh (HW.out.ah xM)
      replace HE:=Zh (Et HE.out xM)
      have d0:=HW.out.c0
      have d2:=HW.out.c2
      have Nz:=HW.out.lt
      clear xM W
      simp only[List.zip_cons_cons,List.zip_nil_right,List.zip_nil_left]
      repeat'(first|refine aF ?_|refine au ?_|refine ak (λK hK=>?_)|refine aj ?_|refine aG ?_|refine bJ ?_|go_step)
      have hL:=HA.out.lu
      rw[xH.out]at hL
      refine kN (v:=.int .i64 ((m.ay (k:Int)).session+1)) k 0 (m.ay (k:Int),u) (({m.ay (k:Int) with session:=(m.ay (k:Int)).session+1}:bW),u) hL HU.out (λ_=>rfl) (by simp[Value.cells]) (by intro j' u' h;have hj:j'<6:=(Ge h).1;rcases(show j'=0∨j'=1∨j'=2∨j'=3∨j'=4∨j'=5 by omega) with rfl|rfl|rfl|rfl|rfl|rfl<;>simpa [Value.cells] using h) (λW2 hM hO=>?_)
      obtain⟨g',c',jf,-,-,Ym⟩:=hO.Bd (List.getElem?_set_self kS)
      simp only[List.length_set]at jf
      cases jf
      obtain⟨lg2,e0,-,e2,e3,-,-⟩:=Ym
      simp only at e0 e2 e3
      have HO:=Zh hO
      have HM:=Zh hM
      clear hO hM hL d0 d2 Nz
      repeat'(first|refine aF ?_|refine au ?_|refine ak (λK hK=>?_)|refine aj ?_|refine aC ?_|refine aG ?_|refine bJ ?_|go_step)
      have QU:=HA.out.agd (i:=(k:Int)) HP.out QM.out HM.out (λk' hk=>by rw[xH.out,hk];rfl) (by rw[Int.toNat_natCast,xH.out];exact HO.out) (by rw[Int.toNat_natCast];exact HU.out) rfl
      exact dB hd ⟨rfl,QU.to HE.out HM.out (λk' _ hk=>HF.out _ (by have:=HA.out.tW k' (by rw[xH.out,hk];rfl);omega)) (λk' hk=>.inl (HF.out k' hk))⟩
 ·have hp:m.id x=false:=by simpa using hp
  have HP:=Zh hp
  have bT:m.mP x=2:=by simp[aH.mP,hp]
  have Yl:m.mQ x=0:=by simp[aH.mQ,bT]
  have bP:m.lI x=m:=by simp[aH.lI,hp]
  rw[bT,Yl,bP]
  clear bT Yl bP h
  refine Fi (n:=56) Tryz.func101 ?_;intro A hd hA;simp only[ix,Nat.reduceAdd]
  repeat'(first|refine aF ?_|refine au ?_|refine ak (λK hK=>?_)|refine aj ?_|go_step)
  refine aX Tryz.func63 (dK (c:=false) (λw' hE=>(HH.out.ah (Et (aB.refl _) hE)).some)) (λr w1 hR=>?_)
  obtain⟨hE,f1,rfl,hC⟩:=hR
  have HE:=Zh (hE)
  have gY:=Zh hC
  clear hE hC
  repeat'(first|refine aF ?_|fail)
  refine aX Tryz.func136 (kD x (HH.out.ah HE.out)) (λr w1 hR=>?_)
  obtain⟨hE,f2,rfl,hC⟩:=hR
  replace HE:=Zh (Et HE.out hE)
  replace gY:=Zh (gY.out.ah hE)
  have kG:=Zh hC
  clear hE hC
  repeat'(first|refine aN Tryz.func62 (dD (xs:=[(f1,false,1),(f2,!m.id x,2)]) (n:=2) (dW _ aS rfl (by unfold maxLen;simp)) (dF.cons (gY.out.ah (by simp)) (dF.cons (kG.out.ah (by simp)) dF.nil)) (by simp[fA,HP.out])) ?_|refine aF ?_|refine au ?_|refine ak (λK hK=>?_)|refine aj ?_|refine aC ?_|(refine dI (λx K hK=>?_);go_simp;refine hK _ _ (aB.alloc _ _) ?_;clear hK K;refine aZ x ?_;generalize (World.ah _ x).heap.size=bn;intro yn aU bD bC bG aS;clear x)|refine bH ?_|go_step)
  clear gY kG
  exact dB hd ⟨rfl,HH.out.jc (Et HE.out (by simp))⟩
theorem ab5 {w:World} {b:Nat} {F:Nat→Prop} {s:aI} (h:oD w b F s) (hs:s.least≠0) (dY:Int) (hk:dY<0):
  gK Tryz.prog 114 #[.pointer (some ⟨b,0,none⟩),.int .i64 dY] w λr w'=>r=.int .i64 2∧aB w w':=by
 have HP:=Zh h
 have O7:decide (0≤dY)=false:=by simp;omega
 have BO:¬ 0≤dY:=by omega
 clear h
 refine uh Tryz.func114 rfl (Nat.le_of_ble_eq_true rfl) ?_;intro A hd hA;simp only[ix,Nat.reduceAdd];replace hA:A.tmps.size=56:=hA
 repeat'(first|refine au ?_|refine ak (λK hK=>?_)|refine aj ?_|(refine dI (λx K hK=>?_);go_simp;refine hK _ _ (aB.alloc _ _) ?_;clear hK K;refine aZ x ?_;generalize (World.ah _ x).heap.size=bn;intro yn aU bD bC bG aS;clear x)|go_step)
 refine um (be:=bn) hd hA (λW hE=>by unfold execOp gI;go_simp) ?_;have wL:=Zh (cO.one aS.out);clear hd hA A;intro A hd hA;obtain⟨be,PY⟩:∃ be:Nat,be=bn:=⟨_,rfl⟩;subst PY
 have oV:=Zh wL.out
 have hE:aB w (w.ah yn):=yn.ext
 have HE:=Zh hE
 have aoy:w.heap.size≤be:=by omega
 have Vs:=Zh (HP.out.ah hE)
 generalize World.ah _ yn=W at *
 clear wL hE aU bD bC bG aS yn
 repeat'(first|refine aN Tryz.func69 (jK Vs.out hs) ?_|(refine aN Tryz.func161 (dZ 1) ?_)|refine aF ?_|refine au ?_|refine ak (λK hK=>?_)|refine aj ?_|go_step)
 refine AZ Tryz.func161 (jD 2) (λc w' hC=>?_)
 obtain⟨rfl,fD⟩:=hC
 refine xW hd (oV.out.ah fD) (λW1 hM=>?_)
 exact⟨rfl,aB.bK (Et HE.out fD) hM (λk hk=>by subst hk;exact aoy)⟩
theorem Zd {w:World} {b:Nat} {F:Nat→Prop} {s:aI} (h:oD w b F s) (hs:s.least≠0) (hl:s.log.length≤4096) (hf0:0≤s.flushed) (NW:s.flushed≤s.log.length) (dY:Int):
  gK Tryz.prog 114 #[.pointer (some ⟨b,0,none⟩),.int .i64 dY] w λr w'=>r=.int .i64 (s.crash dY).2∧bF F w w'∧oD w' b (λk=>F k∨w.heap.size≤k) (s.crash dY).1:=by
 by_cases hk:dY<0
 ·have hc:s.crash dY=(s,2):=by unfold aI.crash;rw[if_pos hk]
  rw[hc]
  refine gK.mono (ab5 h hs dY hk) λr w' hR=>⟨hR.1,hR.2.mono (λ_ _ h=>h.elim),(h.ah hR.2).mono (λk hk=>.inl hk)⟩
 ·have hc:(s.crash dY).2=0:=by unfold aI.crash;rw[if_neg hk]
  rw[hc]
  exact abK h hs hl hf0 NW dY (by omega)
theorem Gn {a b:Value} (h:a=b):Is a b:=h▸Is.mk _
def adz:Nat→Int
 | 0=>0
 | 1=>1
 | 2=>2
 | 3=>2
 | 8=>4
 | _=>3
theorem SA (n:Nat) (hn:n≤8) (w:World):Pure Tryz.prog 252 #[.int .u64 n] w (.int .i64 (adz n)):=by
 obtain rfl|rfl|rfl|rfl|rfl|rfl|rfl|rfl|rfl:n=0∨n=1∨n=2∨n=3∨n=4∨n=5∨n=6∨n=7∨n=8:=by omega
 ·refine Fi (n:=25) Tryz.func252 ?_;intro A hd hA;simp only[ix,Nat.reduceAdd]
  repeat'(first|refine aF ?_|refine au ?_|refine ak (λK hK=>?_)|refine aj ?_|refine aC ?_|refine aG ?_|refine bJ ?_|go_step)
  exact aA hd ⟨rfl,by simp⟩ (hv:=by go_simp;exact Gn (by kernel_rfl))
 ·refine Fi (n:=25) Tryz.func252 ?_;intro A hd hA;simp only[ix,Nat.reduceAdd]
  repeat'(first|refine aF ?_|refine au ?_|refine ak (λK hK=>?_)|refine aj ?_|refine aC ?_|refine aG ?_|refine bJ ?_|go_step)
  exact aA hd ⟨rfl,by simp⟩ (hv:=by go_simp;exact Gn (by kernel_rfl))
 ·refine Fi (n:=25) Tryz.func252 ?_;intro A hd hA;simp only[ix,Nat.reduceAdd]
  repeat'(first|refine aF ?_|refine au ?_|refine ak (λK hK=>?_)|refine aj ?_|refine aC ?_|refine aG ?_|refine bJ ?_|go_step)
  exact aA hd ⟨rfl,by simp⟩ (hv:=by go_simp;exact Gn (by kernel_rfl))
 ·refine Fi (n:=25) Tryz.func252 ?_;intro A hd hA;simp only[ix,Nat.reduceAdd]
  repeat'(first|refine aF ?_|refine au ?_|refine ak (λK hK=>?_)|refine aj ?_|refine aC ?_|refine aG ?_|refine bJ ?_|go_step)
  exact aA hd ⟨rfl,by simp⟩ (hv:=by go_simp;exact Gn (by kernel_rfl))
 ·refine Fi (n:=25) Tryz.func252 ?_;intro A hd hA;simp only[ix,Nat.reduceAdd]
  repeat'(first|refine aF ?_|refine au ?_|refine ak (λK hK=>?_)|refine aj ?_|refine aC ?_|refine aG ?_|refine bJ ?_|go_step)
  exact aA hd ⟨rfl,by simp⟩ (hv:=by go_simp;exact Gn (by kernel_rfl))
 ·refine Fi (n:=25) Tryz.func252 ?_;intro A hd hA;simp only[ix,Nat.reduceAdd]
  repeat'(first|refine aF ?_|refine au ?_|refine ak (λK hK=>?_)|refine aj ?_|refine aC ?_|refine aG ?_|refine bJ ?_|go_step)
  exact aA hd ⟨rfl,by simp⟩ (hv:=by go_simp;exact Gn (by kernel_rfl))
 ·refine Fi (n:=25) Tryz.func252 ?_;intro A hd hA;simp only[ix,Nat.reduceAdd]
  repeat'(first|refine aF ?_|refine au ?_|refine ak (λK hK=>?_)|refine aj ?_|refine aC ?_|refine aG ?_|refine bJ ?_|go_step)
  exact aA hd ⟨rfl,by simp⟩ (hv:=by go_simp;exact Gn (by kernel_rfl))
 ·refine Fi (n:=25) Tryz.func252 ?_;intro A hd hA;simp only[ix,Nat.reduceAdd]
  repeat'(first|refine aF ?_|refine au ?_|refine ak (λK hK=>?_)|refine aj ?_|refine aC ?_|refine aG ?_|refine bJ ?_|go_step)
  exact aA hd ⟨rfl,by simp⟩ (hv:=by go_simp;exact Gn (by kernel_rfl))
 ·refine Fi (n:=25) Tryz.func252 ?_;intro A hd hA;simp only[ix,Nat.reduceAdd]
  repeat'(first|refine aF ?_|refine au ?_|refine ak (λK hK=>?_)|refine aj ?_|refine aC ?_|refine aG ?_|refine bJ ?_|go_step)
  exact aA hd ⟨rfl,by simp⟩ (hv:=by go_simp;exact Gn (by kernel_rfl))
theorem Ze (n:Nat) (hn:n≤8) (w:World):Pure Tryz.prog 202 #[.int .u64 n] w (.int .i64 (adz n)):=by
 refine Fi (n:=8) Tryz.func202 ?_;intro A hd hA;simp only[ix,Nat.reduceAdd]
 repeat'(first|(refine aN Tryz.func252 (SA n hn _) ?_)|refine aF ?_|refine au ?_|refine ak (λK hK=>?_)|refine aj ?_|refine aC ?_|refine aG ?_|refine bJ ?_|go_step)
 exact aA hd ⟨rfl,by simp⟩
theorem SB (n:Int) (w:World):Pure Tryz.prog 278 #[.int .i64 n] w (.bool false):=by
 refine Fi (n:=6) Tryz.func278 ?_;intro A hd hA;simp only[ix,Nat.reduceAdd]
 repeat'(first|refine aF ?_|refine au ?_|refine ak (λK hK=>?_)|refine aj ?_|refine aC ?_|go_step)
 exact aA hd ⟨rfl,by simp⟩
theorem Lm (a b:Int) (w:World):Pure Tryz.prog 248 #[.int .i64 a,.int .i64 b] w (.bool (decide (a<b))):=by
 refine Fi (n:=17) Tryz.func248 ?_;intro A hd hA;simp only[ix,Nat.reduceAdd]
 repeat'(first|(refine aN Tryz.func278 (SB _ _) ?_)|(refine pq ?_)|refine dw ?_|refine aF ?_|refine mg ?_|refine jF ?_|refine au ?_|refine ak (λK hK=>?_)|refine aj ?_|refine aC ?_|go_step)
 exact aA hd ⟨rfl,by simp⟩
def sK (n:Nat) (f:Nat→Int) (h:Nat→Value) (j:Nat):Value:=if j<n then .int .i64 (f j) else h j
def Pn (f:Nat→Int) (n:Nat) (x:Int):Prop:=∃ j,j<n∧f j=x
def yU (f:Nat→Int) (j:Nat):Nat→Int:=λi=>if i=j then f (j-1) else if i=j-1 then f j else f i
theorem ab6 {f:Nat→Int} {n j:Nat} (hj:0<j) (hn:j<n) (x:Int):Pn (yU f j) n x↔Pn f n x:=by
 constructor
 ·rintro⟨i,hi,rfl⟩
  unfold yU
  split
  ·exact⟨j-1,by omega,rfl⟩
  ·split
   ·exact⟨j,hn,rfl⟩
   ·exact⟨i,hi,rfl⟩
 ·rintro⟨i,hi,rfl⟩
  by_cases h1:i=j
  ·exact⟨j-1,by omega,by unfold yU;rw[if_neg (by omega),if_pos rfl,h1]⟩
  ·by_cases h2:i=j-1
   ·exact⟨j,hn,by unfold yU;rw[if_pos rfl,h2]⟩
   ·exact⟨i,hi,by unfold yU;rw[if_neg h1,if_neg h2]⟩
def wU (f:Nat→Int) (i:Nat):Prop:=∀ p q,p<q→q<i→f p≤f q
def yX (f:Nat→Int) (i j:Nat):Prop:=(∀p q,p<q→q≤i→p≠j→q≠j→f p≤f q)∧(∀q,j<q→q≤i→f j≤f q)
theorem Zf {f:Nat→Int} {i:Nat} (h:wU f i):yX f i i:=⟨λp q h1 h2 h3 h4=>h p q h1 (by omega),λq h1 h2=>by omega⟩
theorem XR {f:Nat→Int} {i j:Nat} (h:yX f i j) (hj:j≤i) (hs:j=0∨f (j-1)≤f j):wU f (i+1):=by
 intro p q h1 h2
 by_cases e1:p=j
 ·subst e1;exact h.2 q h1 (by omega)
 ·by_cases e2:q=j
  ·subst e2
   rcases hs with h0|h0
   ·omega
   ·by_cases e3:p=q-1
    ·rw[e3];exact h0
    ·exact Int.le_trans (h.1 p (q-1) (by omega) (by omega) e1 (by omega)) h0
  ·exact h.1 p q h1 (by omega) e1 e2
theorem ab7 {f:Nat→Int} {i j:Nat} (h:yX f i j) (hj0:0<j) (hj:j≤i) (hl:f j<f (j-1)):yX (yU f j) i (j-1):=by
 have sw1:yU f j j=f (j-1):=if_pos rfl
 have sw2:yU f j (j-1)=f j:=by unfold yU;rw[if_neg (by omega),if_pos rfl]
 have sw3:∀ k,k≠j→k≠j-1→yU f j k=f k:=λk h1 h2=>by unfold yU;rw[if_neg h1,if_neg h2]
 constructor
 ·intro p q h1 h2 h3 h4
  by_cases e1:p=j
  ·subst e1
   rw[sw1,sw3 q (by omega) h4]
   exact h.1 (p-1) q (by omega) h2 (by omega) (by omega)
  ·by_cases e2:q=j
   ·subst e2
    rw[sw1,sw3 p e1 h3]
    exact h.1 p (q-1) (by omega) (by omega) e1 (by omega)
   ·rw[sw3 p e1 h3,sw3 q e2 h4]
    exact h.1 p q h1 h2 e1 e2
 ·intro q h1 h2
  rw[sw2]
  by_cases e:q=j
  ·subst e;rw[sw1];omega
  ·rw[sw3 q e (by omega)]
   exact h.2 q (by omega) h2
theorem SC (g n c:Nat) (f:Nat→Int) (hh:Nat→Value) (w:World) (h:cO w g 3 c (sK n f hh)) (Hl:n≤c) (jT:c≤maxLen) (hn:n≤100):
  gK Tryz.prog 242 #[.slice (some ⟨g,0,none⟩) n c,.int .i64 0,.int .i64 n] w λv w'=>bF (· =g) w w'∧∃ f',cO w' g 3 c (sK n f' hh)∧wU f' n∧∀ x,Pn f' n x↔Pn f n x:=by
 have HB:=Zh h
 have hgl:=h.lt
 clear h
 refine Fi (n:=49) Tryz.func242 ?_;intro A hd hA;simp only[ix,Nat.reduceAdd]
 repeat'(first|refine aF ?_|refine au ?_|refine ak (λK hK=>?_)|refine aj ?_|refine aJ ?_|go_step)
 refine dJ [0,1,2,6] (λm vs w'=>∃ (i:Nat) (f':Nat→Int),(i+m=n∨(m=0∧n<i))∧1≤i∧vs=[.slice (some ⟨g,0,none⟩) n c,.int .i64 0,.int .i64 n,.int .i64 i]∧bF (· =g) w w'∧cO w' g 3 c (sK n f' hh)∧wU f' i∧∀ x,Pn f' n x↔Pn f n x) (n-1) hd hA (by decide) ⟨1,f,by omega,by omega,by simp,bF.refl _ _,HB.out,λp q h1 h2=>by omega,λx=>Iff.rfl⟩ ?_
 clear hd hA A;intro m vs B w' hd hA _ ⟨i,f',him,hi1,jk,hM,hB,hs,hp⟩;subst jk
 have HM:=Zh hM
 replace HB:=Zh hB
 have HS:=Zh hs
 have HP:=Zh hp
 clear hM hB hs hp
 simp only[List.zip_cons_cons,List.zip_nil_right,List.zip_nil_left]
 by_cases ou:i<n
 ·have hii:(i:Int)<n:=by omega
  repeat'(first|refine aF ?_|refine au ?_|refine ak (λK hK=>?_)|refine aj ?_|refine aG ?_|refine aJ ?_|refine bH ?_|go_step)
  refine dJ [0,1,2,6,7] (λm2 vs w2=>∃ (j:Nat) (f2:Nat→Int),m2=j∧j≤i∧vs=[.slice (some ⟨g,0,none⟩) n c,.int .i64 0,.int .i64 n,.int .i64 i,.int .i64 j]∧bF (· =g) w w2∧cO w2 g 3 c (sK n f2 hh)∧yX f2 i j∧∀ x,Pn f2 n x↔Pn f n x) i hd hA (by decide) ⟨i,f',rfl,Nat.le_refl _,by simp,HM.out,HB.out,Zf HS.out,HP.out⟩ ?_
  clear hd hA B HM HB HS HP;intro m2 vs B w2 hd hA _ ⟨j,f2,hmj,oM,jk,hM,hB,hs,hp⟩;subst jk hmj
  have HM:=Zh hM
  have HB:=Zh hB
  have HS:=Zh hs
  have HP:=Zh hp
  have aoA:=hB.lt
  clear hM hB hs hp
  simp only[List.zip_cons_cons,List.zip_nil_right,List.zip_nil_left]
  by_cases hj0:m2=0
  ·subst hj0
   have HS2:=Zh (XR HS.out (by omega) (.inl rfl))
   have hz:¬ ((0:Nat):Int)>0:=by omega
   repeat'(first|refine ak (λK hK=>?_)|fail)
   refine dn [(0,0),(1,0),(2,0),(3,0),(4,0),(5,0),(6,0),(7,0),(8,0),(9,0),(10,0),(11,0),(12,0),(13,1),(14,0)] (by kernel_rfl) (by kernel_rfl) ?_
   repeat'(first|(refine pq ?_)|refine aF ?_|refine mg ?_|refine jF ?_|refine aQ ?_|refine au ?_|refine aj ?_|refine dS ?_|refine bJ ?_|go_step)
   exact⟨_,_,rfl,hd,hA,m-1,by omega,i+1,f2,by omega,by omega,by simp,HM.out,HB.out,HS2.out,HP.out⟩
  ·obtain⟨j,hj⟩:∃ j,m2=j+1:=⟨m2-1,by omega⟩
   have hz:(0:Int)<(m2:Int):=by omega
   have hzn:0<m2:=by omega
   have Xo:(m2:Int)-1=(j:Int):=by omega
   have hjn:m2<n:=by omega
   have aul:(m2:Int)<n:=by omega
   have aum:(j:Int)<n:=by omega
   have e1:w2.cell? ⟨g,m2,none⟩=some (.int .i64 (f2 m2)):=by have:=HB.out.cell (k:=m2) (by omega);rwa [show sK n f2 hh m2=.int .i64 (f2 m2) from if_pos hjn]at this
   have e0:w2.cell? ⟨g,j,none⟩=some (.int .i64 (f2 j)):=by have:=HB.out.cell (k:=j) (by omega);rwa [show sK n f2 hh j=.int .i64 (f2 j) from if_pos (by omega)]at this
   have HJ:=Zh hj
   have hjm:m2-1=j:=by omega
   have HJM:=Zh hjm
   clear hj hjm
   by_cases lt:f2 m2<f2 j
   ·have zM:=Zh lt
    repeat'(first|refine ak (λK hK=>?_)|fail)
    refine dn [(0,0),(1,0),(2,0),(3,0),(4,0),(5,0),(6,0),(7,0),(8,0),(9,0),(10,0),(11,0),(12,0),(13,1),(14,0)] (by kernel_rfl) (by kernel_rfl) ?_
    repeat'(first|(refine dN Tryz.func248 (λ_=>Lm _ _ _) ?_)|refine dw ?_|refine aF ?_|refine aQ ?_|refine ak (λK hK=>?_)|refine aG ?_|refine aJ ?_|refine bH ?_|go_step)
    obtain⟨G,hG⟩:∃ G:Nat→Prop,G=(λk=>k=g):=⟨_,rfl⟩;have HGo:Hid (G g):=Zh (by subst hG;rfl);clear hG
    refine xZ G [(0,0),(1,0),(2,0),(3,0),(4,0),(5,0),(6,0),(7,0),(8,0),(9,3),(10,0),(11,0),(12,0),(13,3),(14,0),(15,2),(16,0),(17,2)] (by kernel_rfl) (by kernel_rfl) ?_
    repeat'(first|refine Jy ?_|refine Y_r ?_|fail)
    refine kM (off:=m2) HB.out HGo.out (λW1 fM Nb nU=>?_)
    have EO:=Zh fM
    have jO:=Zh nU
    clear fM Nb nU
    have aun:=jO.out.lt
    repeat'(first|refine Jy ?_|fail)
    refine kM (off:=j) jO.out HGo.out (λW2 kL hG2 Fh=>?_)
    have IK:=Zh kL
    have su:=Zh Fh
    clear kL hG2 Fh
    repeat'(first|refine Eh ?_)
    repeat'(first|refine aF ?_|refine au ?_|refine aj ?_|go_step)
    have HS2:=Zh (ab7 HS.out hzn oM (by rw[HJM.out];exact zM.out))
    rw[HJM.out]at HS2
    exact⟨_,_,rfl,hd,hA,j,by have:=HJ.out;omega,j,yU f2 m2,rfl,by have:=HJ.out;omega,by simp,bF.trans (bF.trans HM.out EO.out (λ_ _ h=>h) (λ_ _ h=>h)) IK.out (λ_ _ h=>h) (λ_ _ h=>h),su.out.congr (λk hk=>by
     show _=put (put (sK n f2 hh) m2 [.int .i64 (f2 j)]) j [.int .i64 (f2 m2)] k
     rw[kZ,kZ]
     unfold sK yU
     rw[HJM.out]
     have:=HJ.out
     by_cases k1:k=m2
     ·have h2:¬ k=j:=by omega
      have h3:k<n:=by omega
      simp[k1,h2,h3,hjn,show ¬m2=j by omega]
     ·by_cases k2:k=j
      ·have h3:k<n:=by omega
       simp[k2,show j<n by omega,show ¬j=m2 by omega]
      ·simp[k1,k2]),HS2.out,λx=>(ab6 hzn hjn x).trans (HP.out x)⟩
   ·have HS2:=Zh (XR HS.out (by omega) (.inr (by rw[HJM.out];omega)))
    repeat'(first|refine ak (λK hK=>?_)|fail)
    refine dn [(0,0),(1,0),(2,0),(3,0),(4,0),(5,0),(6,0),(7,0),(8,0),(9,0),(10,0),(11,0),(12,0),(13,1),(14,0)] (by kernel_rfl) (by kernel_rfl) ?_
    repeat'(first|(refine dN Tryz.func248 (λ_=>Lm _ _ _) ?_)|refine dw ?_|refine aF ?_|refine aQ ?_|refine au ?_|refine aj ?_|refine dS ?_|refine bJ ?_|go_step)
    exact⟨_,_,rfl,hd,hA,m-1,by omega,i+1,f2,by omega,by omega,by simp,HM.out,HB.out,HS2.out,HP.out⟩
 ·have hii:¬ (i:Int)<n:=by omega
  repeat'(first|refine aF ?_|refine au ?_|refine ak (λK hK=>?_)|refine aj ?_|refine dS ?_|refine bJ ?_|go_step)
  exact iL hd ⟨HM.out,f',HB.out,λp q h1 h2=>HS.out p q h1 (by omega),HP.out⟩
theorem aeM {Q:jo} {A:Act} {fl:List (Nat×Value)} {ops:Array Oper} {o:Oper} {rest:List (Oper×Nat)} {s x:Operand} {d:Nat} {w:World} (n:Nat) (h0:0<n) (hn:n≤1000)
  (h:∀ (y:bM w) (b c:Nat) (cs:Array Value),w.heap.size≤b→(w.ah y).heap[b]? =some (.cells cs 3)→cs.size=c→n≤c→c≤maxLen→jh Tryz.prog ops Q rest (fr ((d,.slice (some ⟨b,0,none⟩) n c)::fl) A) (w.ah y))
  (ho:o.op=.call {callee:=.builtin .append,args:= #[s,x],argTypes:= #[43,3]}:=by rfl) (hd:o.dst=some d:=by rfl) (hg:o.guard=none:=by rfl)
  (hs:Is ((fr fl A).eval s) (.slice none 0 0):=by go_simp;exact Is.mk _) (hx:Is ((fr fl A).eval x) (.int .i64 n):=by go_simp;exact Is.mk _):
  jh Tryz.prog ops Q ((o,2)::rest) (fr fl A) w:=by
 refine X_v (λX K hK=>?_) hd hg
 obtain⟨z,hi,hz⟩:=xU.info
 obtain⟨i,QC,Jm,zq,Dk⟩:=info_parts hi
 have hr:=Lib.run_append_grow_zeros (w.ah X) 43 3 o.type 3 i z .i64 .i64 Tryz.underlying43 Tryz.underlying3 QC Jm none 0 0 [] (run_firstCells_none _ _ _ _ _) n h0 (by rw[zq];decide) (by omega) (by omega) (by rw[Dk];omega) (by
  have Hl:Builtin.nextslicecap (0+n) 0=n:=by unfold Builtin.nextslicecap;rw[if_pos (by omega)];omega
  rw[Hl,Dk];omega)
 have jf:n≤grownCap (w.ah X) (0+n) 0 3:=by have:=grownCap_ge (w.ah X) (0+n) 0 3;omega
 have hle:=grownCap_le_maxLen (w.ah X) (0+n) 0 3 (by unfold maxLen;omega)
 generalize grownCap (w.ah X) (0+n) 0 3=cap at *
 have hzs:∀ m,(Builtin.zeroCells z.cells m).size=m:=λm=>by unfold Builtin.zeroCells;simp[hz]
 unfold uQ execOp
 simp only[ho,resolve,invoke,builtin,Sem.run_bind,Sem.run_pure,Result.andThen_ok,List.map_toArray,List.map_cons,List.map_nil,hs.eq,hx.eq,hr]
 rw[Nat.zero_add]
 refine hK _ _ (h ⟨_,Et X.2 (Et (aB.drew _) (aB.alloc _ _))⟩ (w.ah X).heap.size cap _ X.2.size (heap_alloc_new _ _) ?_ jf hle)
 simp only[Array.size_append,hzs]
 simp;omega
theorem VI (n:Nat) (h0:0<n) (hn:n≤1000) (w:World):gK Tryz.prog 256 #[.slice none 0 0,.int .i64 n] w λv w'=>aB w w'∧ig w' v []∧∀ g,v.ownBlock=some g→w.heap.size≤g:=by
 have hn0:¬ (n:Int)<0:=by omega
 have aU:(0:Int)<n:=by omega
 refine Fi (n:=27) Tryz.func256 ?_;intro A hd hA;simp only[ix,Nat.reduceAdd]
 repeat'(first|refine aF ?_|refine au ?_|refine ak (λK hK=>?_)|refine aj ?_|refine aG ?_|refine bH ?_|refine bJ ?_|go_step)
 refine aeM n h0 hn (λy b c cs hb hh hc Hl jT=>?_)
 have HOW:Hid (ig (w.ah y) (.slice (some ⟨b,0,none⟩) 0 c) []):=Zh ⟨by simp,.inr ⟨b,c,cs,rfl,Nat.zero_le _,hh,Nat.zero_le _,jT,by rw[hc];omega,by simp⟩⟩
 have Js:b<(w.ah y).heap.size:=(Array.getElem?_eq_some_iff.1 hh).1
 clear hh
 repeat'(first|refine aF ?_|refine au ?_|refine ak (λK hK=>?_)|refine aj ?_|refine aC ?_|go_step)
 exact aA hd ⟨y.ext,HOW.out,λg hg=>by cases hg;exact hb⟩
def sz2 (a b:List Int):Nat→Int
 | 0=>0
 | 1=>a.length
 | _=>a.length+b.length
def ahz (a b:List Int):Nat→List Int
 | 0=>[]
 | 1=>a
 | _=>a++b
theorem Qa (a b:List Int) (u1 u2:Value) (bq:Nat) (w:World) (ha:BU w u1 a) (hb:BU w u2 b) (hq:bq<w.heap.size) (c0:w.cell? ⟨bq,0,none⟩=some u1) (c1:w.cell? ⟨bq,1,none⟩=some u2) (hn:0<b.length) (hl:a.length+b.length≤100):
  gK Tryz.prog 214 #[.slice (some ⟨bq,0,none⟩) 2 2] w λv w'=>aB w w'∧ig w' v (a++b)∧∀ g,v.ownBlock=some g→w.heap.size≤g:=by
 have HRA:=Zh ha
 have HRB:=Zh hb
 obtain⟨A1,c3,rfl,Na,auo,-⟩:=ha.int
 obtain⟨A2,c4,rfl,Jr,aup,-⟩:=hb.int
 clear ha hb
 have hla:a.length≤100:=by omega
 have NZ:b.length≤100:=by omega
 refine Fi (n:=36) Tryz.func214 ?_;intro A hd hA;simp only[ix,Nat.reduceAdd]
 repeat'(first|refine aF ?_|refine au ?_|refine ak (λK hK=>?_)|refine aj ?_|refine aJ ?_|go_step)
 refine dJ [0,2,3,9,10,11] (λn vs w'=>∃ k:Nat,w'=w∧k+n=2∧vs=[.slice (some ⟨bq,0,none⟩) 2 2,.slice none 0 0,.int .i64 (sz2 a b k),.slice (some ⟨bq,0,none⟩) 2 2,.int .i64 2,.int .i64 k]) 2 hd hA (by decide) ⟨0,rfl,by omega,by simp[sz2]⟩ ?_
 clear hd hA A;intro n vs B w' hd hA _ ⟨k,hw,hk,jk⟩;subst hw jk
 obtain rfl|rfl|rfl:k=0∨k=1∨k=2:=by omega
 ·simp only[sz2]
  simp only[List.zip_cons_cons,List.zip_nil_right,List.zip_nil_left]
  repeat'(first|refine aF ?_|refine au ?_|refine ak (λK hK=>?_)|refine aj ?_|refine aG ?_|refine aJ ?_|refine bH ?_|refine bJ ?_|go_step)
  exact⟨_,_,rfl,hd,hA,n-1,by omega,1,trivial,by omega,by simp[sz2]⟩
 ·simp only[sz2]
  simp only[List.zip_cons_cons,List.zip_nil_right,List.zip_nil_left]
  repeat'(first|refine aF ?_|refine au ?_|refine ak (λK hK=>?_)|refine aj ?_|refine aG ?_|refine aJ ?_|refine bH ?_|refine bJ ?_|go_step)
  exact⟨_,_,rfl,hd,hA,n-1,by omega,2,trivial,by omega,by simp[sz2]⟩
 ·simp only[sz2]
  simp only[List.zip_cons_cons,List.zip_nil_right,List.zip_nil_left]
  repeat'(first|refine aF ?_|refine au ?_|refine ak (λK hK=>?_)|refine aj ?_|refine dS ?_|refine bJ ?_|go_step)
  refine aX Tryz.func256 (VI (a.length+b.length) (by omega) (by omega) _) (λr w1 hR=>?_)
  obtain⟨kY,Ba,QD⟩:=hR
  have QN:=Zh Ba
  have HF1:=Zh QD
  have qO:=Zh kY
  clear Ba QD kY
  repeat'(first|refine aF ?_|refine au ?_|refine ak (λK hK=>?_)|refine aj ?_|refine aJ ?_|go_step)
  refine dJ [2,6,25,26,27] (λn vs w2=>∃ (k:Nat) (u:Value),aB w' w2∧k+n=2∧vs=[.slice none 0 0,u,.slice (some ⟨bq,0,none⟩) 2 2,.int .i64 2,.int .i64 k]∧ig w2 u (ahz a b k)∧∀ g,u.ownBlock=some g→w'.heap.size≤g) 2 hd hA (by decide) ⟨0,r,qO.out,by omega,by simp,QN.out,HF1.out⟩ ?_
  clear hd hA B qO QN HF1;intro n2 vs B w2 hd hA _ ⟨k,u,iU,hk2,jk,nD,Kq⟩;subst jk
  have Ho:=Zh nD
  have Hf:=Zh Kq
  obtain⟨y,rfl⟩:=iU.get
  clear iU
  obtain⟨A6,m6,c6,rfl⟩:=aT nD
  clear nD Kq
  obtain rfl|rfl|rfl:k=0∨k=1∨k=2:=by omega
  ·simp only[List.zip_cons_cons,List.zip_nil_right,List.zip_nil_left]
   repeat'(first|refine aF ?_|refine au ?_|refine ak (λK hK=>?_)|refine aj ?_|refine aG ?_|refine aJ ?_|refine bH ?_|go_step)
   refine abe (w0:=w') (xs:=([]:List Int)) (by simp) xU Ho.out Hf.out (HRA.out.ah (by simp)) (by simp;omega) (by unfold maxLen;simp;omega) (λy2 v' Ey hF2 hN2 kL=>?_)
   have Zg:=Zh Ey
   have HF2:=Zh hF2
   clear Ey hF2 hN2 kL
   repeat'(first|refine aF ?_|refine au ?_|refine aj ?_|go_step)
   exact⟨_,_,rfl,hd,hA,n2-1,by omega,1,_,y2.ext,by omega,by simp,by simpa [ahz] using Zg.out,HF2.out⟩
  ·simp only[List.zip_cons_cons,List.zip_nil_right,List.zip_nil_left]
   repeat'(first|refine aF ?_|refine au ?_|refine ak (λK hK=>?_)|refine aj ?_|refine aG ?_|refine aJ ?_|refine bH ?_|go_step)
   refine abe (w0:=w') (xs:=a) (by simp) xU Ho.out Hf.out (HRB.out.ah (by simp)) (by omega) (by unfold maxLen;omega) (λy2 v' Ey hF2 hN2 kL=>?_)
   have Zg:=Zh Ey
   have HF2:=Zh hF2
   clear Ey hF2 hN2 kL
   repeat'(first|refine aF ?_|refine au ?_|refine aj ?_|go_step)
   exact⟨_,_,rfl,hd,hA,n2-1,by omega,2,_,y2.ext,by omega,by simp,by simpa [ahz] using Zg.out,HF2.out⟩
  ·have Ox:Hid (ig (w'.ah y) (.slice A6 m6 c6) (a++b)):=Zh Ho.out
   simp only[List.zip_cons_cons,List.zip_nil_right,List.zip_nil_left]
   repeat'(first|refine aF ?_|refine au ?_|refine ak (λK hK=>?_)|refine aj ?_|refine aC ?_|refine dS ?_|refine bJ ?_|go_step)
   exact aA hd ⟨y.ext,Ox.out,Hf.out⟩
theorem Zi (g n c:Nat) (lim:Int) (f:Nat→Int) (hh:Nat→Value) (w:World) (h:cO w g 3 c (sK n f hh)) (Hl:n≤c) (jT:c≤maxLen) (hn:n≤12):
  gK Tryz.prog 201 #[.slice (some ⟨g,0,none⟩) n c,.int .i64 0,.int .i64 n,.int .i64 lim] w λv w'=>bF (· =g) w w'∧∃ f',cO w' g 3 c (sK n f' hh)∧wU f' n∧∀ x,Pn f' n x↔Pn f n x:=by
 have HB:=Zh h
 clear h
 have auq:(n:Int)≤12:=by omega
 refine Fi (n:=134) Tryz.func201 ?_;intro A hd hA;simp only[ix,Nat.reduceAdd]
 repeat'(first|refine aF ?_|refine au ?_|refine ak (λK hK=>?_)|refine aj ?_|refine aJ ?_|go_step)
 refine dJ [0,1,2,3,8,9] (λm vs w'=>m=0∧w'=w∧vs=[.slice (some ⟨g,0,none⟩) n c,.int .i64 0,.int .i64 n,.int .i64 lim,.bool true,.bool true]) 0 hd hA (by decide) ⟨rfl,rfl,by simp⟩ ?_
 clear hd hA A;intro m vs B w' hd hA _ ⟨hm,hw,jk⟩;subst hm hw jk
 simp only[List.zip_cons_cons,List.zip_nil_right,List.zip_nil_left]
 repeat'(first|refine aF ?_|refine au ?_|refine ak (λK hK=>?_)|refine aj ?_|refine aJ ?_|refine bH ?_|go_step)
 refine aX Tryz.func242 (SC g n c f hh _ HB.out Hl jT (by omega)) (λr w1 hR=>?_)
 repeat'(first|refine au ?_|refine aC ?_|go_step)
 exact iL hd hR
theorem VJ (g n c:Nat) (f:Nat→Int) (hh:Nat→Value) (w:World) (h:cO w g 3 c (sK n f hh)) (Hl:n≤c) (jT:c≤maxLen) (hn:n≤8):
  gK Tryz.prog 149 #[.slice (some ⟨g,0,none⟩) n c] w λv w'=>bF (· =g) w w'∧∃ f',cO w' g 3 c (sK n f' hh)∧wU f' n∧∀ x,Pn f' n x↔Pn f n x:=by
 have HB:=Zh h
 clear h
 refine Fi (n:=11) Tryz.func149 ?_;intro A hd hA;simp only[ix,Nat.reduceAdd]
 repeat'(first|(refine aN Tryz.func202 (Ze n hn _) ?_)|refine aF ?_|refine au ?_|refine ak (λK hK=>?_)|refine aj ?_|go_step)
 refine aX Tryz.func201 (Zi g n c _ f hh _ HB.out Hl jT (by omega)) (λr w1 hR=>?_)
 repeat'(first|refine au ?_|fail)
 exact iL hd hR
theorem Qb {Q:jo} {A:Act} {fl:List (Nat×Value)} {ops:Array Oper} {o:Oper} {rest:List (Oper×Nat)} {x:Operand} {w:World} {b n c:Nat} {g:Nat→Value} (off m:Nat) (hb:cO w b 3 n g) (hm:0<m) (hom:off+m≤n)
  (h:∀ W',bF (· =b) w W'→cO W' b 3 n (put g off (List.replicate m (.int .i64 0)))→jh Tryz.prog ops Q rest (fr fl A) W')
  (ho:o.op=.call {callee:=.builtin .clear,args:= #[x],argTypes:= #[43]}:=by rfl) (hd:o.dst=none:=by rfl) (hg:o.guard=none:=by rfl)
  (hx:Is ((fr fl A).eval x) (.slice (some ⟨b,off,none⟩) m c):=by go_simp;exact Is.mk _):jh Tryz.prog ops Q ((o,2)::rest) (fr fl A) w:=by
 refine X_w (λX K hK=>?_) hd hg
 obtain⟨cs,hh,hs,rM⟩:=hb.ah X.2
 have iR:(List.replicate m (Value.int .i64 0)).length=m:=List.length_replicate
 have qR:=run_storeCells_at Tryz.prog b off 3 (List.replicate m (Value.int .i64 0)) 0 cs (w.ah X) hh (by simp;omega) (λu hu=>by rw[List.eq_of_mem_replicate hu];rfl)
 have hr:(Builtin.clear_ #[43] o.type #[.slice (some ⟨b,off,none⟩) m c]).run Tryz.prog (w.ah X)=.ok (.tuple #[]) ((w.ah X).setRow b (cs.toList.take (off+0)++List.replicate m (Value.int .i64 0)++cs.toList.drop (off+0+(List.replicate m (Value.int .i64 0)).length)).toArray):=by
  have hv:∀ w,(zeroValue 3).run Tryz.prog w=.ok (.int .i64 0) w:=λw=>by kernel_rfl
  have hzc:(Builtin.zeroCells (Value.int .i64 0).cells m).toList=List.replicate m (Value.int .i64 0):=by
   show (Builtin.zeroCells #[Value.int .i64 0] m).toList=_
   simp[Builtin.zeroCells]
   apply List.ext_getElem
   ·simp
   ·intro i h1 h2
    simp[Nat.mod_one]
  obtain⟨m',rfl⟩:∃ m',m=m'+1:=⟨m-1,by omega⟩
  simp only[Builtin.clear_]
  simp[run_underlying Tryz.underlying43,hv,hzc]
  simp at qR
  rw[qR]
  rfl
 unfold uQ execOp
 simp only[ho,resolve,invoke,builtin,Sem.run_bind,Sem.run_pure,Result.andThen_ok,List.map_toArray,List.map_cons,List.map_nil,hx.eq,hr]
 refine hK _ _ (h _ ?_ ?_)
 ·refine bF.trans X.2 (G:=(· =b)) ⟨rfl,rfl,rfl,by rw[setRow_size];exact Nat.le_refl _,λk hk jm=>setRow_other _ _ _ _ (λe=>jm (by first|exact e|exact e.symm))⟩ (λ_ _ h=>h.elim) (λ_ _ h=>h)
 ·refine⟨_,setRow_heap _ _ _ _ _ _ hh,by simp;omega,λk hk=>?_⟩
  simp only[Nat.add_zero,List.getElem?_toArray]
  unfold put
  have Fg:cs.toList.length=n:=by simp[hs]
  by_cases h1:k<off
  ·rw[if_neg (by omega),List.append_assoc,List.getElem?_append_left (by simp;omega),List.getElem?_take,if_pos h1,←rM k hk,Array.getElem?_toList]
  ·by_cases h2:k<off+m
   ·rw[if_pos ⟨by omega,by rw[iR];exact h2⟩,List.getElem?_append_left (by simp;omega),List.getElem?_append_right (by simp;omega)]
    have e:k-(cs.toList.take off).length=k-off:=by simp;omega
    rw[e,List.getD_eq_getElem?_getD]
    have hlt:k-off<(List.replicate m (Value.int .i64 0)).length:=by rw[iR];omega
    rw[List.getElem?_eq_getElem hlt];rfl
   ·rw[if_neg (by rw[iR];omega),List.getElem?_append_right (by simp;omega),List.getElem?_drop,←rM k hk,Array.getElem?_toList]
    congr 1
    simp;omega
section
variable {P : Program} {Q : jo} {w : World} {A : Act} {fl : List (Nat × Value)} {o : Oper} {ops : Array Oper} {α : Type} {enc : α → List Value} {k : Nat} {E : TypeId} {xs ys : List α}
theorem ab8 {rest:List (Oper×Nat)} {s x:Operand} {t:TypeId} {d:Nat} {bytes g n c m c':Nat} {a:Addr} (he:QB P enc k t E bytes) (nD:dQ enc k E w (.slice (some ⟨g,0,none⟩) n c) xs) (G7:Rd enc k w (.slice (some a) m c') ys) (Bl:n+m≤c)
  (h:∀ W',bF (· =g) w W'→dQ enc k E W' (.slice (some ⟨g,0,none⟩) (n+m) c) (xs++ys)→jh P ops Q rest (fr ((d,.slice (some ⟨g,0,none⟩) (n+m) c)::fl) A) W')
  (ho:o.op=.call {callee:=.builtin .append,args:= #[s,x],argTypes:= #[t,t]}:=by rfl) (hd:o.dst=some d:=by rfl) (hg:o.guard=none:=by rfl)
  (hs:Is ((fr fl A).eval s) (.slice (some ⟨g,0,none⟩) n c):=by go_simp;exact Is.mk _) (hx:Is ((fr fl A).eval x) (.slice (some a) m c'):=by go_simp;exact Is.mk _):
  jh P ops Q ((o,2)::rest) (fr fl A) w:=by
 refine X_v (λX K hK=>?_) hd hg
 obtain⟨z,hi,hz⟩:=he.info
 obtain⟨i,QC,Jm,zq,Dk⟩:=info_parts hi
 have ho1:=nD.ah X.2
 obtain⟨f,hb,hf⟩:=ho1.gy
 obtain⟨hl,ho2⟩:=ho1
 rcases ho2 with⟨h0,_⟩|⟨g',cap,cur,h0,-,rM,Hl,jT,vV,ht⟩
 ·cases h0
 injection h0 with e1 e2 e3
 injection e1 with e1
 injection e1 with e1
 subst e1 e2 e3
 have hm:m=ys.length∧Src (w.ah X) a (ys.flatMap enc):=by
  rcases(G7.ah X.2).mD he.len with⟨A0,c0,e,rfl⟩|⟨b0,o0,c0,e,hsr,-⟩
  ·injection e with e1 e2 e3
   exact⟨e2,λj u hu=>by simp at hu⟩
  ·injection e with e1 e2 e3
   injection e1 with e1
   subst e1
   exact⟨e2,hsr⟩
 obtain⟨hm,hsr⟩:=hm
 have hk0:=he.pos
 have iR:(ys.flatMap enc).length=m *i.size:=by rw[eH he.len,zq,hm]
 have h1:∀ u∈ys.flatMap enc,u.oneCell'=true:=λu hu=>by
  obtain⟨x,_,hx⟩:=List.mem_flatMap.1 hu
  exact he.one x u hx
 have hle:(xs.length+m) *k≤c *k:=Nat.mul_le_mul_right _ Bl
 rw[Nat.add_mul]at hle
 have hr:=run_append_room (P:=P) (w:=w.ah X) t o.type E i he.ty QC g xs.length c cur rM a m c' (ys.flatMap enc) iR hsr h1 Bl (by rw[zq,iR,zq,vV];exact hle)
 unfold uQ
 rw[uG ho hs.eq hx.eq hr]
 have Fg:cur.toList.length=c *k:=by rw[Array.length_toList,vV]
 have hyl:(ys.flatMap enc).length=m *k:=by rw[iR,zq]
 refine hK _ _ (h _ ?_ ?_)
 ·exact bF.trans X.2 (G:=(· =g)) ⟨rfl,rfl,rfl,by rw[setRow_size];exact Nat.le_refl _,λq hq jm=>setRow_other _ _ _ _ (λe=>jm (by first|exact e|exact e.symm))⟩ (λ_ _ h=>h.elim) (λ_ _ h=>h)
 ·have e:xs.length+m=(xs++ys).length:=by rw[List.length_append,hm]
  rw[e]
  refine⟨eH he.len _,.inr ⟨g,c,_,rfl,Nat.zero_le _,setRow_heap _ _ _ _ _ _ rM,by omega,jT,?_,?_⟩⟩
  ·rw[List.size_toArray,List.length_append,List.length_append,List.length_take,List.length_drop,Fg,hyl,zq]
   omega
  ·have e2:(xs++ys).length *k=xs.length *k+m *k:=by rw[←e,Nat.add_mul]
   have UM:cur.toList.take (xs.length *i.size)=xs.flatMap enc:=by rw[zq,ht]
   rw[List.toList_toArray,UM,e2,List.flatMap_append]
   have NU:(xs.flatMap enc++ys.flatMap enc).length=xs.length *k+m *k:=by rw[List.length_append,eH he.len,hyl]
   rw[←NU];exact List.take_left
theorem Rd.from {g n c j:Nat} (h:Rd enc k w (.slice (some ⟨g,0,none⟩) n c) xs) (hj:j≤n) (jm:j≠c):Rd enc k w (.slice (some ⟨g,j *k,none⟩) (n-j) (c-j)) (xs.drop j):=by
 obtain⟨A,c',h1,h2,h3,h4⟩:=h
 injection h1 with e1 e2 e3
 subst e1 e3
 have hl:(xs.drop j).length=n-j:=by rw[List.length_drop,e2]
 refine⟨_,_,by rw[hl],by omega,by omega,?_⟩
 rcases h4 with⟨h4,rfl⟩|⟨b,o,he,hb,hr⟩
 ·rcases h4 with h4|h4
  ·cases h4
  ·simp at e2;omega
 ·injection he with he
  injection he with e4 e5
  subst e4 e5
  right
  refine⟨g,j *k,rfl,hb,?_⟩
  have:=hr.drop j
  rwa [Nat.zero_add]at this
theorem dQ.pre {g n c i:Nat} (hk:∀ x,(enc x).length=k) (h:dQ enc k E w (.slice (some ⟨g,0,none⟩) n c) xs) (hi:i≤n):dQ enc k E w (.slice (some ⟨g,0,none⟩) i c) (xs.take i):=by
 have e:n=xs.length:=by
  rcases h.G6 with⟨e,_⟩|⟨g',c',e,-⟩
  ·cases e
  ·injection e
 subst e
 exact h.take hk hi
end
theorem ET {w:World} {g c i j:Nat} {xs:List Int} (nD:ig w (.slice (some ⟨g,0,none⟩) xs.length c) xs) (hi:i<xs.length) (hj:j=i+1) (hc:xs.length≤c) (jT:c≤9223372036854775807):gK Tryz.prog 159 #[.slice (some ⟨g,0,none⟩) xs.length c,.int .i64 i,.int .i64 j] w λr w'=>r=.slice (some ⟨g,0,none⟩) (xs.length-1) c∧bF (· =g) w w'∧ig w' r (xs.eraseIdx i):=by
 have HO:=Zh nD
 clear nD
 have h1:(i:Int)<xs.length:=by omega
 have h3:(j:Int)≤xs.length:=by omega
 have h4:j≤xs.length:=by omega
 have h5:(i:Int)≤j:=by omega
 have h6:i≤j:=by omega
 have h7:xs.length≤c:=hc
 have jm:((i:Int)==(j:Int))=false:=by rw[beq_eq_false_iff_ne];omega
 have hii:i≤c:=by omega
 have aoE:j≤c:=by omega
 have HJ:=Zh hj
 clear hj
 refine Fi (n:=33) Tryz.func159 ?_;intro A hd hA;simp only[ix,Nat.reduceAdd]
 repeat'(first|refine aF ?_|refine au ?_|refine ak (λK hK=>?_)|refine aj ?_|refine aG ?_|refine bJ ?_|go_step)
 have MK:xs.take i++xs.drop j=xs.eraseIdx i:=by rw[HJ.out,List.eraseIdx_eq_take_drop_succ]
 have hln:i+(xs.length-j)=xs.length-1:=by have:=HJ.out;omega
 have HD:=Zh MK
 clear MK
 by_cases hcj:c=j
 ·have hz:xs.length-j=0:=by omega
  have hdn:xs.drop j=[]:=List.drop_eq_nil_of_le (by omega)
  have HDN:=Zh hdn
  have HZ:=Zh hz
  clear hdn hz
  subst hcj
  refine dA (by kernel_rfl) (by kernel_rfl) ?_
  repeat'(first|refine aF ?_|fail)
  refine ab8 (a:=⟨g,0,none⟩) (m:=xs.length-c) (c':=0) (xs:=xs.take i) (ys:=xs.drop c) xU (HO.out.pre (λ_=>rfl) (by omega)) (by rw[HDN.out,HZ.out];exact⟨_,0,rfl,Nat.le_refl _,by unfold maxLen;omega,.inl ⟨.inr rfl,rfl⟩⟩) (by omega) (λW1 fM Ba=>?_)
  rw[HD.out]at Ba
  have aU:i+(xs.length-c)+1=xs.length:=by have:=HJ.out;omega
  have QN:=Zh Ba
  have EO:=Zh fM
  generalize i+(xs.length-c)=n at *
  have hcn:¬ c=n:=by omega
  have hnl:(n:Int)≤xs.length:=by omega
  have ahA:n≤xs.length:=by omega
  have Uw:xs.length-1=n:=by omega
  have HXM:=Zh Uw
  clear Ba fM Uw hln
  repeat'(first|refine aF ?_|refine aQ ?_|refine ak (λK hK=>?_)|refine aj ?_|go_step)
  obtain⟨f,hb,hf⟩:=QN.out.gy
  refine Qb n (xs.length-n) hb (by omega) (by omega) (λW2 kL Fh=>?_)
  have Ey:ig W2 (.slice (some ⟨g,0,none⟩) n c) (xs.eraseIdx i):=by
   have hl:(xs.eraseIdx i).length=n:=by rw[List.length_eraseIdx];split<;>omega
   rw[←hl]
   refine dQ.Rl (enc:=xK) (k:=1) (λ_=>rfl) Fh (by omega) jT λq u hu=>?_
   have hq:=(Ge hu).1
   rw[eH (enc:=xK) (k:=1) (λ_=>rfl),hl]at hq
   rw[oH (by omega)]
   exact hf q u hu
  have Zg:=Zh Ey
  have IK:=Zh (bF.trans EO.out kL (H:=(· =g)) (λ_ _ h=>h) (λ_ _ h=>h))
  clear Ey kL Fh hf hb
  repeat'(first|refine aF ?_|refine au ?_|refine ak (λK hK=>?_)|refine aj ?_|refine aC ?_|go_step)
  exact aA hd ⟨by rw[HXM.out],IK.out,Zg.out⟩
 ·refine dA (by kernel_rfl) (by kernel_rfl) ?_
  repeat'(first|refine aF ?_|fail)
  refine ab8 (xs:=xs.take i) (ys:=xs.drop j) xU (HO.out.pre (λ_=>rfl) (by omega)) (by have:=Rd.from (enc:=xK) (k:=1) (dQ.rd (enc:=xK) (k:=1) (λ_=>rfl) HO.out) h4 (λh=>hcj h.symm);rwa [Nat.mul_one]at this) (by omega) (λW1 fM Ba=>?_)
  rw[HD.out]at Ba
  have aU:i+(xs.length-j)+1=xs.length:=by have:=HJ.out;omega
  have QN:=Zh Ba
  have EO:=Zh fM
  generalize i+(xs.length-j)=n at *
  have hcn:¬ c=n:=by omega
  have hnl:(n:Int)≤xs.length:=by omega
  have ahA:n≤xs.length:=by omega
  have Uw:xs.length-1=n:=by omega
  have HXM:=Zh Uw
  clear Ba fM Uw hln
  repeat'(first|refine aF ?_|refine aQ ?_|refine ak (λK hK=>?_)|refine aj ?_|go_step)
  obtain⟨f,hb,hf⟩:=QN.out.gy
  refine Qb n (xs.length-n) hb (by omega) (by omega) (λW2 kL Fh=>?_)
  have Ey:ig W2 (.slice (some ⟨g,0,none⟩) n c) (xs.eraseIdx i):=by
   have hl:(xs.eraseIdx i).length=n:=by rw[List.length_eraseIdx];split<;>omega
   rw[←hl]
   refine dQ.Rl (enc:=xK) (k:=1) (λ_=>rfl) Fh (by omega) jT λq u hu=>?_
   have hq:=(Ge hu).1
   rw[eH (enc:=xK) (k:=1) (λ_=>rfl),hl]at hq
   rw[oH (by omega)]
   exact hf q u hu
  have Zg:=Zh Ey
  have IK:=Zh (bF.trans EO.out kL (H:=(· =g)) (λ_ _ h=>h) (λ_ _ h=>h))
  clear Ey kL Fh hf hb
  repeat'(first|refine aF ?_|refine au ?_|refine ak (λK hK=>?_)|refine aj ?_|refine aC ?_|go_step)
  exact aA hd ⟨by rw[HXM.out],IK.out,Zg.out⟩
end Go.Ws
