/- Lemmas for the statements of this layer (joined texts); no condition. -/
import Derived.WalkKit
import Derived.Lib.Hide
import Derived.Deep.QuietTactic
import Derived.BigQuiet
import Derived.StillTail
import Derived.OrdersIn
import Derived.RangeFuncNested
import Derived.RangeFuncBound
import Derived.RangeFuncCalls
import Derived.RangeFuncLeaves
import Derived.Deep.DeepFit
namespace Go.Ws
open Go Go.RowKit
set_option maxHeartbeats 4000000
set_option maxRecDepth 100000
set_option linter.unusedVariables false
set_option linter.unusedSimpArgs false
theorem Zh {p:Prop} (h:p):Hid p:=Lib.hid h
theorem Ge {α:Type} {l:List α} {i:Nat} {a:α} (h:l[i]? =some a):∃ h:i<l.length,l[i]=a:=List.getElem?_eq_some_iff.1 h
structure bF (F:Nat→Prop) (w w':World):Prop where
 os:w'.os=w.os
 tape:w'.tape=w.tape
 output:w'.output=w.output
 size:w.heap.size≤w'.heap.size
 block:∀ k,k<w.heap.size→¬ F k→w'.heap[k]? =w.heap[k]?
def aB (w w':World):Prop:=bF (λ_=>False) w w'
theorem bF.refl (F:Nat→Prop) (w:World):bF F w w:=⟨rfl,rfl,rfl,Nat.le_refl _,λ_ _ _=>rfl⟩
theorem bF.trans {F G H : Nat → Prop} {a b c : World} (h : bF F a b) (k : bF G b c) (hF : ∀ i, i < a.heap.size → F i → H i) (hG : ∀ i, i < a.heap.size → G i → H i) : bF H a c :=
  ⟨k.os.trans h.os, k.tape.trans h.tape, k.output.trans h.output, Nat.le_trans h.size k.size,
   fun i hi hn => (k.block i (Nat.lt_of_lt_of_le hi h.size) (fun hg => hn (hG i hi hg))).trans (h.block i hi (fun hf => hn (hF i hi hf)))⟩
theorem bF.mono {F G:Nat→Prop} {a b:World} (h:bF F a b) (hF:∀ i,i<a.heap.size→F i→G i):bF G a b:=
 ⟨h.os,h.tape,h.output,h.size,λi hi hn=>h.block i hi (λhf=>hn (hF i hi hf))⟩
theorem aB.refl (w:World):aB w w:=bF.refl _ w
theorem aB.trans {a b c:World} (h:aB a b) (k:aB b c):aB a c:=bF.trans h k (λ_ _ h=>h) (λ_ _ h=>h)
theorem Et {a b c:World} (h:aB a b) (k:aB b c):aB a c:=aB.trans h k
theorem aB.aW {F:Nat→Prop} {a b:World} (h:aB a b):bF F a b:=bF.mono h (λ_ _ h=>h.elim)
theorem aB.drew (w:World):aB w w.drew:=⟨rfl,rfl,rfl,Nat.le_refl _,λ_ _ _=>rfl⟩
theorem aB.alloc (w:World) (o:Obj):aB w (w.alloc o):=
 ⟨rfl,rfl,rfl,by simp,λk hk _=>Below.heap_alloc _ _ _ hk⟩
theorem aB.below {w w':World} (h:aB w w'):Below w.heap.size w w':=⟨h.os,h.tape,h.output,h.size,λk hk=>h.block k hk (λh=>h)⟩
def bM (w:World):Type:={w':World // aB w w'}
def _root_.Go.World.ah (w:World) (x:bM w):World:=x.1
theorem aB.get {w w':World} (h:aB w w'):∃ x:bM w,w'=w.ah x:=⟨⟨w',h⟩,rfl⟩
theorem bM.ext {w:World} (x:bM w):aB w (w.ah x):=x.2
instance (w:World):Nonempty (bM w):=⟨⟨w,aB.refl w⟩⟩
def bM.drew {w:World} (x:bM w):bM w:=⟨(w.ah x).drew,aB.trans x.2 (aB.drew _)⟩
@[simp,go_sem] theorem agR (w:World) (x:bM w):(w.ah x).drew=w.ah x.drew:=rfl
@[simp,go_sem] theorem uf (w:World) (x:bM w) (k:Nat) (h:k<w.heap.size):(w.ah x).heap[k]? =w.heap[k]? :=x.2.block k h (λh=>h)
@[simp,go_sem] theorem rP (w:World) (x:bM w) (b o:Nat) (h:b<w.heap.size):(w.ah x).cell? ⟨b,o,none⟩=w.cell? ⟨b,o,none⟩:=
 World.cell?_of_block (w:=w) (x.2.block b h (λh=>h))
@[simp,go_sem] theorem adL (w:World) (x:bM w) (b o:Nat) (h:b<w.heap.size):(w.ah x).frozen? ⟨b,o,none⟩=w.frozen? ⟨b,o,none⟩:=
 World.frozen?_of_block (w:=w) (x.2.block b h (λh=>h))
@[simp,go_sem] theorem FN (w:World) (x:bM w) (b:Nat) (h:b<w.heap.size):b<(w.ah x).heap.size:=Nat.lt_of_lt_of_le h x.2.size
@[simp,go_sem] theorem ajE (w:World) (o:Obj) (b:Nat) (h:b<w.heap.size):b<(w.alloc o).heap.size:=by simp;omega
@[simp,go_sem] theorem N9 (w:World) (x:bM w) (y:bM (w.ah x)) (b:Nat) (h:b<w.heap.size):b<((w.ah x).ah y).heap.size:=FN _ y _ (FN w x b h)
@[simp,go_sem] theorem Yv (w:World) (x:bM w) (y:bM (w.ah x)) (z:bM ((w.ah x).ah y)) (b:Nat) (h:b<w.heap.size):b<(((w.ah x).ah y).ah z).heap.size:=FN _ z _ (N9 w x y b h)
@[simp,go_sem] theorem Py (w:World) (x:bM w) (y:bM (w.ah x)) (z:bM ((w.ah x).ah y)) (b o:Nat) (h:b<w.heap.size):(((w.ah x).ah y).ah z).cell? ⟨b,o,none⟩=w.cell? ⟨b,o,none⟩:=by
 rw[rP _ z _ _ (N9 w x y b h),rP _ y _ _ (FN w x b h),rP _ x _ _ h]
@[simp,go_sem] theorem ad9 (w:World) (x:bM w) (y:bM (w.ah x)) (z:bM ((w.ah x).ah y)) (u:bM (((w.ah x).ah y).ah z)) (b o:Nat) (h:b<w.heap.size):((((w.ah x).ah y).ah z).ah u).cell? ⟨b,o,none⟩=w.cell? ⟨b,o,none⟩:=by
 rw[rP _ u _ _ (Yv w x y z b h),Py _ _ _ _ _ _ h]
theorem Ez (w:World) (x:bM w):w.heap.size≤(w.ah x).heap.size:=x.2.size
section
variable {P : Program} {ops : Array Oper} {md : Region.Mode} {Q : Exit → Act → World → Prop}
def nH (P:Program) (o:Oper) (a:Act) (K:Act→World→Prop) (Q:Exit→Act→World→Prop):Result Next→Prop
 | .ok (.value v) w'=>K (a.put o.dst v) w'
 | .ok .skip w'=>K (a.put o.dst undef) w'
 | .ok (.defer d) w'=>K ({a with defers:=d::a.defers}.put o.dst undef) w'
 | .ok (.enter f args) w'=>Calls P f args w' fun
   | .returned v,w''=>K (a.put o.dst v) w''
   | .panicked chain,w''=>Q (.panic chain) a w''
   | .outgrown,_=>False
 | .ok (.row row args) w'=>Rows P row args w' λv w''=>K (a.put o.dst v) w''
 | .ok (.round l f tmps assign body) w'=>RoundIn Fence.wide 0 P l f tmps assign body w' fun
   | .returned v,w''=>K (a.put o.dst v) w''
   | .panicked chain,w''=>Q (.panic chain) a w''
   | .outgrown,_=>False
 | .halt (.panic v) w'=>Q (.panic [{v,recovered:=false}]) a w'
 | _=>False
def Bz (P:Program) (o:Oper) (a:Act) (w:World) (K:Act→World→Prop) (Q:Exit→Act→World→Prop):Prop:=nH P o a K Q ((execOp a.eval o).run P w)
theorem Bz.mono {o:Oper} {a:Act} {w:World} {K K':Act→World→Prop} {Q Q':Exit→Act→World→Prop} (hh:Bz P o a w K Q) (h:∀ a w,K a w→K' a w) (hq:∀ c a w,Q (.panic c) a w→Q' (.panic c) a w):Bz P o a w K' Q':=by
 unfold Bz at *
 generalize (execOp a.eval o).run P w=r at *
 cases r with
 | ok n w'=>
  cases n<;>simp only[nH]at hh ⊢ <;>
   first
    | exact h _ _ hh
    | exact Calls.mono hh (λe w'' he=>by cases e<;>first|exact h _ _ he|exact hq _ _ _ he|exact he)
    | exact Rows.mono hh (λ_ _ he=>h _ _ he)
    | exact RoundIn.mono hh (λe w'' he=>by cases e<;>first|exact h _ _ he|exact hq _ _ _ he|exact he)
 | halt x w'=>cases x<;>simp only[nH]at hh ⊢ <;>exact hq _ _ _ hh
def RF (ρ:Option Nat):Fence:={Fence.wide with round:=ρ}
theorem Ky {ρ:Option Nat} {n:Nat} {f:FuncId} {args:Array Value} {w:World} {R:Ending→World→Prop} (h:Calls P f args w R):CallsIn (RF ρ) n P f args w R:=callsIn_wide.2 h
theorem Yw {ρ:Option Nat} {n:Nat} {row:String} {args:Array Value} {w:World} {R:Value→World→Prop} (h:Rows P row args w R):RowsIn (RF ρ) n P row args w R:=λc cs _=>by
 obtain⟨v,w',hR,hs⟩:=h c cs
 exact⟨v,w',hR,stepsIn_wide.2 hs⟩
theorem UW {ρ:Option Nat} {n:Nat} {l:Nat} {f:FuncId} {tmps:Array Value} {assign body:Code} {w:World} {R:Ending→World→Prop} (h:RoundIn Fence.wide 0 P l f tmps assign body w R):RoundIn (RF ρ) n P l f tmps assign body w R:=
 ⟨trivial,λc cs _=>h.2 c cs (room_wide _)⟩
def vW (o:Oper):Bool:=match o.op with|.defer _=>false|_=>true
theorem wH {ρ:Option Nat} {n:Nat} {o:Oper} {a:Act} {w:World} {K:Act→World→Prop} (hn:ρ= none∨vW o=true) (h:Bz P o a w K Q):o.wpIn (RF ρ) n P a w K Q:=by
 refine⟨λ_ _=>trivial,?_⟩
 have e:o.semAt (RF ρ).round a.eval=execOp a.eval o:=by
  rcases hn with rfl|hn
  ·exact Oper.semAt_none _ _
  ·exact Oper.semAt_eq _ _ _ (λc hc=>by rw[vW,hc]at hn;cases hn)
 rw[e]
 unfold Bz at h
 have hd:∀ n:Nat,(RF ρ).depth.isSome=true→1≤n:=λn h=>by cases h
 generalize (execOp a.eval o).run P w=r at *
 cases r with
 | ok n w'=>
  cases n<;>simp only[nH]at h<;>simp only[Oper.uponIn]
  case value=>exact h
  case skip=>exact h
  case defer=>exact h
  case enter=>exact⟨hd _,CallsIn.mono (Ky h) (λe w'' he=>by cases e<;>first|exact he|exact he.elim)⟩
  case row=>exact⟨hd _,Yw h⟩
  case round=>exact⟨hd _,RoundIn.mono (UW h) (λe w'' he=>by cases e<;>first|exact he|exact he.elim)⟩
 | halt x w'=>cases x<;>simp only[nH]at h<;>simp only[Oper.uponIn]<;>exact h
def fQ (P:Program) (ops:Array Oper) (i:Nat) (K:Act→World→Prop) (a:Act) (w:World):Prop:=
 match ops[i]? with
 | none=>False
 | some o=>if Region.wanted o (yielded ops a.tmps) then Bz P o a w K (λ_ _ _=>False) else K (a.put o.dst undef) w
theorem gW {i:Nat} {a:Act} {w:World} {K K':Act→World→Prop} (h:∀ a w,K a w→K' a w) (hh:fQ P ops i K a w):fQ P ops i K' a w:=by
 unfold fQ at *
 split
 ·rename_i ho;simp[ho]at hh
 ·rename_i o ho
  simp only[ho]at hh
  split
  ·rename_i hw;simp only[hw,if_true]at hh;exact hh.mono h (λ_ _ _ h=>h)
  ·rename_i hw;simp only[hw]at hh;exact h _ _ hh
theorem oZ {ρ:Option Nat} {n:Nat} {i:Nat} {a:Act} {w:World} {K:Act→World→Prop} (hn:ρ= none∨(∀o:Oper,ops[i]? =some o→vW o=true)) (hh:fQ P ops i K a w):wpOpIn (RF ρ) n P ops Q i K a w:=by
 unfold fQ at hh
 unfold wpOpIn
 split
 ·rename_i ho;simp[ho]at hh
 ·rename_i o ho
  simp only[ho]at hh
  split
  ·rename_i hw;simp only[hw,if_true]at hh;exact wH (hn.imp id (λh=>h o ho)) (hh.mono (λ_ _ h=>h) (λ_ _ _ h=>h.elim))
  ·rename_i hw;simp only[hw]at hh;exact⟨λ_ _=>trivial,hh⟩
def jC (P:Program) (ops:Array Oper) (o:Oper) (v:Value) (a:Act) (w:World):Prop:=
 (Region.wanted o (yielded ops a.tmps)=true∧∀ x:bM w,o.quietAt P a (aB (w.ah x)) (w.ah x) v)∨
 (Region.wanted o (yielded ops a.tmps)=false∧v=undef)
theorem jC.ah {o:Oper} {v:Value} {a:Act} {w w':World} (h:jC P ops o v a w) (hE:aB w w'):jC P ops o v a w':=by
 rcases h with⟨h1,h2⟩|h
 ·exact .inl ⟨h1,λx=>h2 ⟨w'.ah x,aB.trans hE x.2⟩⟩
 ·exact .inr h
theorem jC.AP {o:Oper} {v:Value} {a a':Act} {w:World} (hy:jC P ops o v a w) (he:execOp a'.eval o=execOp a.eval o)
  (hw:Region.wanted o (yielded ops a'.tmps)=Region.wanted o (yielded ops a.tmps)):jC P ops o v a' w:=by
 unfold jC Oper.quietAt at *
 rw[he,hw]
 exact hy
theorem ug {j:Nat} {oi oj:Oper} {v:Value} (hj:ops[j]? =some oj) (uO:oi.apart ops oj=true)
  (hsi:∀ cs b,oi.op≠ .select cs b) (hsj:∀ cs b,oj.op≠ .select cs b) {K:Act→World→Prop} {a:Act} {w:World}
  (h:fQ P ops j K (a.put oi.dst v) w):
  fQ P ops j (λa' w'=>(execOp a'.eval oi=execOp a.eval oi∧Region.wanted oi (yielded ops a'.tmps)=Region.wanted oi (yielded ops a.tmps))∧K (a'.put oi.dst v) w') a w:=by
 obtain⟨h1,h2,h3⟩:=Oper.apart_spec uO
 have dY:∀ u,execOp (a.put oj.dst u).eval oi=execOp a.eval oi∧Region.wanted oi (yielded ops (a.put oj.dst u).tmps)=Region.wanted oi (yielded ops a.tmps):=λu=>
  ⟨execOp_put oi hsi a oj.dst u h3,wanted_put oi a oj.dst u h3⟩
 unfold fQ at *
 simp only[hj]at *
 rw[wanted_put oj a oi.dst v h1]at h
 split
 ·rename_i hw
  simp only[hw,if_true]at h
  unfold Bz at *
  rw[execOp_put oj hsj a oi.dst v h1]at h
  generalize (execOp a.eval oj).run P w=r at *
  cases r with
  | ok n w'=>
   cases n<;>simp only[nH]at h ⊢
   case value u=>exact⟨dY u,by rw[←Act.put_comm a v u h2];exact h⟩
   case skip=>exact⟨dY _,by rw[←Act.put_comm a v undef h2];exact h⟩
   case defer d=>
    refine⟨⟨(execOp_put oi hsi {a with defers:=d::a.defers} oj.dst undef h3).trans rfl,(wanted_put oi {a with defers:=d::a.defers} oj.dst undef h3).trans rfl⟩,?_⟩
    rw[←Act.put_comm _ v undef h2,←Act.put_defers]
    exact h
   case enter f args=>
    refine Calls.mono h λe w'' he=>?_
    cases e with
    | returned u=>exact⟨dY u,by rw[←Act.put_comm a v u h2];exact he⟩
    | panicked c=>exact he
    | outgrown=>exact he
   case row row args=>exact Rows.mono h λu w'' he=>⟨dY u,by rw[←Act.put_comm a v u h2];exact he⟩
   case round l f tmps assign body=>
    refine RoundIn.mono h λe w'' he=>?_
    cases e with
    | returned u=>exact⟨dY u,by rw[←Act.put_comm a v u h2];exact he⟩
    | panicked c=>exact he
    | outgrown=>exact he
  | halt x w'=>cases x<;>simp only[nH]at h
 ·rename_i hw
  simp only[hw]at h
  exact⟨dY _,by rw[←Act.put_comm a v undef h2];exact h⟩
theorem jC.fQ {i:Nat} {o:Oper} {v:Value} {a:Act} {w:World} (hi:ops[i]? =some o) (hy:jC P ops o v a w) {K:Act→World→Prop}
  (h:∀ w',aB w w'→K (a.put o.dst v) w'):fQ P ops i K a w:=by
 unfold Ws.fQ
 simp only[hi]
 rcases hy with⟨hw,hv⟩|⟨hw,rfl⟩
 ·simp only[hw,if_true]
  have h3:o.quietAt P a (aB w) w v:=hv ⟨w,aB.refl w⟩
  unfold Oper.quietAt at h3
  unfold Bz
  generalize (execOp a.eval o).run P w=r at *
  cases r with
  | ok n w'=>
   cases n<;>simp only[Oper.quietUpon]at h3<;>simp only[nH]
   case value u=>obtain⟨e1,e2⟩:=h3;rw[e1,e2];exact h w (aB.refl w)
   case skip=>obtain⟨e1,e2⟩:=h3;rw[e1,←e2];exact h w (aB.refl w)
   case enter f args=>
    obtain⟨e1,hc⟩:=h3
    rw[e1]
    exact hc.mono λe w'' ⟨he,aiA⟩=>by subst he;exact h _ aiA
  | halt x w'=>simp only[Oper.quietUpon]at h3
 ·simp only[hw,Bool.false_eq_true,if_false];exact h w (aB.refl w)
def wpS (P:Program) (md:Region.Mode) (ops:Array Oper) (hard:Nat→Bool) (Q:Exit→Act→World→Prop):Nat→Array Bool→Act→World→Prop
 | 0,listed,a,w=>Region.ready md ops listed=[]∧∀ x:bM w,Q .normal a (w.ah x)
 | f+1,listed,a,w=>∀ x:bM w,(Region.ready md ops listed=[]→Q .normal a (w.ah x))∧
   ∀j∈Region.ready md ops listed,
    if hard j=true then fQ P ops j (λa' w'=>wpS P md ops hard Q f (listed.setIfInBounds j true) a' w') a (w.ah x)
    else fQ P ops j (λa' w'=>aB (w.ah x) w'∧wpS P md ops hard Q f (listed.setIfInBounds j true) a' w') a (w.ah x)
theorem wpS.ah {hard:Nat→Bool} {f:Nat} {listed:Array Bool} {a:Act} {w w':World} (h:wpS P md ops hard Q f listed a w) (hE:aB w w'):wpS P md ops hard Q f listed a w':=by
 cases f with
 | zero=>exact⟨h.1,λx=>h.2 ⟨w'.ah x,aB.trans hE x.2⟩⟩
 | succ f=>exact λx=>h ⟨w'.ah x,aB.trans hE x.2⟩
theorem vX {ρ:Option Nat} {n:Nat} (hn:ρ= none∨(∀(i:Nat) (o:Oper),ops[i]? =some o→vW o=true)) {hard:Nat→Bool}:∀ (f:Nat) (listed:Array Bool) (a:Act) (w:World),wpS P md ops hard Q f listed a w→wpAnyIn (RF ρ) n P md ops Q f listed a w
 | 0,_,_,w,h=>⟨h.1,h.2 ⟨w,aB.refl w⟩⟩
 | f+1,listed,a,w,h=>by
  obtain⟨h0,h1⟩:=h ⟨w,aB.refl w⟩
  refine⟨h0,λj hj=>?_⟩
  have h2:=h1 j hj
  split at h2
  ·exact oZ (hn.imp id (λh=>h j)) (gW (λa' w' h=>vX hn f _ a' w' h) h2)
  ·exact oZ (hn.imp id (λh=>h j)) (gW (λa' w' h=>vX hn f _ a' w' h.2) h2)
inductive Reach (md:Region.Mode) (ops:Array Oper):Nat→Nat→Prop
 | one {i j:Nat}:Region.waitsFor md ops j i=true→Reach md ops i j
 | more {i k j:Nat}:Reach md ops i k→Region.waitsFor md ops j k=true→Reach md ops i j
def uz (md:Region.Mode) (ops:Array Oper) (listed:Array Bool):Prop:=
 ∀j oj,ops[j]? =some oj→listed.getD j false=true→∀ e∈oj.after,Region.binds md e=true→listed.getD e.on false=true
theorem uz.set {i:Nat} {listed:Array Bool} (hc:uz md ops listed) (hi:i∈Region.ready md ops listed):uz md ops (listed.setIfInBounds i true):=by
 obtain⟨_,oi,hoi,jB⟩:=mem_ready.1 hi
 intro j oj hj hl e he hb
 by_cases hij:i=j
 ·subst hij
  have:oj=oi:=Option.some.inj (hj.symm.trans hoi)
  subst this
  exact getD_set_true (jB e he hb)
 ·rw[getD_set_ne false hij]at hl
  exact getD_set_true (hc j oj hj hl e he hb)
theorem Reach.listed {i j:Nat} {listed:Array Bool} (h:Reach md ops i j) (hc:uz md ops listed) (hj:listed.getD j false=true∨j∈Region.ready md ops listed):listed.getD i false=true:=by
 have step:∀ {i j:Nat},Region.waitsFor md ops j i=true→(listed.getD j false=true∨j∈Region.ready md ops listed)→listed.getD i false=true:=by
  intro i j hw hj
  obtain⟨oj,JE,e,he,hb,hon⟩:=Region.waitsFor_spec hw
  rcases hj with hj|hj
  ·exact hon▸hc j oj JE hj e he hb
  ·obtain⟨_,o',ho',jB⟩:=mem_ready.1 hj
   have:oj=o':=Option.some.inj (JE.symm.trans ho')
   subst this
   exact hon▸jB e he hb
 induction h with
 | one h=>exact step h hj
 | more _ h ih=>exact ih (.inl (step h hj))
def Oper.Jl (o:Oper):Bool:=o.guard.isNone&&match o.op with|.move (.tmp _)=>true|.extract (.tmp _) _=>true|_=>false
theorem jC.alK {o:Oper} {v:Value} {a:Act} {w:World} (h:jC P ops o v a w) (hm:Oper.Jl o=true) (w':World):jC P ops o v a w':=by
 simp only[Oper.Jl,Bool.and_eq_true]at hm
 obtain⟨hg,hm⟩:=hm
 have hw:Region.wanted o (yielded ops a.tmps)=true:=by
  have:o.guard=none:=by simpa using hg
  simp[Region.wanted,this]
 rcases h with⟨_,h⟩|⟨h,_⟩
 ·refine .inl ⟨hw,λx=>?_⟩
  have h1:=h ⟨w,aB.refl w⟩
  split at hm
  ·rename_i s hs
   unfold Oper.quietAt execOp at *
   simp only[hs,Sem.run_pure,Oper.quietUpon]at *
   exact⟨trivial,h1.2⟩
  ·rename_i s k hs
   unfold Oper.quietAt execOp at *
   simp only[hs]at *
   generalize a.eval (.tmp s)=u at *
   unfold Instr.extract at *
   split at h1
   ·split at h1
    ·exact⟨rfl,h1.2⟩
    ·simp[go_sem,Oper.quietUpon]at h1
   ·simp[go_sem,Oper.quietUpon]at h1
  ·cases hm
 ·rw[hw]at h;cases h
theorem Oa {hard:Nat→Bool} {i:Nat} {oi:Oper} {v:Value} (hi:ops[i]? =some oi) (kF:∀ (j:Nat) (o:Oper) cs b,ops[j]? =some o→o.op≠ .select cs b)
  (hih:hard i=false) (lH:(∀j,hard j=true→Reach md ops i j∨Reach md ops j i)∨Oper.Jl oi=true):
  ∀(f:Nat) (listed:Array Bool) (a:Act) (w:World),uz md ops listed→
   (∀j oj,ops[j]? =some oj→j≠i→listed.getD j true=false→(∀e∈oj.after,Region.binds md e=true→e.on≠i)→oi.apart ops oj=true)→
   i∈Region.ready md ops listed→jC P ops oi v a w→
   wpS P md ops hard Q f (listed.setIfInBounds i true) (a.put oi.dst v) w→wpS P md ops hard Q (f+1) listed a w:=by
 intro f
 induction f with
 | zero=>
  intro listed a w _ _ hr hy H x
  refine⟨λh=>(by rw[h]at hr;cases hr),λj hj=>?_⟩
  by_cases oM:j=i
  ·subst oM
   simp only[hih,Bool.false_eq_true,if_false]
   exact(hy.ah x.2).fQ hi λw' yI=>⟨yI,H.ah (aB.trans x.2 yI)⟩
  ·have:=ready_mono hj oM
   rw[H.1]at this
   cases this
 | succ f ih=>
  intro listed a w hc xB hr hy H x
  refine⟨λh=>(by rw[h]at hr;cases hr),λj hj=>?_⟩
  by_cases oM:j=i
  ·subst oM
   simp only[hih,Bool.false_eq_true,if_false]
   exact(hy.ah x.2).fQ hi λw' yI=>⟨yI,H.ah (aB.trans x.2 yI)⟩
  ·have EC:=(mem_ready.1 hr).1
   have BG:=(mem_ready.1 hj).1
   have h1:=(H x).2 j (ready_mono hj oM)
   obtain⟨BG,oj,JE,jB⟩:=mem_ready.1 hj
   have GY:∀ e∈oj.after,Region.binds md e=true→e.on≠i:=λe he hb heq=>by
    have h1:=jB e he hb
    rw[heq,getD_both EC]at h1
    cases h1
   have yJ:∀ k ok,ops[k]? =some ok→k≠i→(listed.setIfInBounds j true).getD k true=false→
     (∀e∈ok.after,Region.binds md e=true→e.on≠i)→oi.apart ops ok=true:=λk ok hk sZ O5 bT=>by
    refine xB k ok hk sZ ?_ bT
    by_cases UJ:j=k
    ·subst UJ;exact BG
    ·rw[getD_set_ne true UJ]at O5;exact O5
   cases hjh:hard j with
   | false=>
    simp only[hjh,Bool.false_eq_true,if_false]at h1 ⊢
    have h2:=ug JE (xB j oj JE oM BG GY) (λcs b=>kF i oi cs b hi) (λcs b=>kF j oj cs b JE) h1
    refine gW (λa' w' h3=>?_) h2
    obtain⟨⟨he,hw⟩,hE,h4⟩:=h3
    refine⟨hE,ih _ a' w' (hc.set hj) yJ (ready_mono hr (Ne.symm oM)) ((hy.AP he hw).ah (aB.trans x.2 hE)) ?_⟩
    rw[Array.setIfInBounds_comm _ _ oM]
    exact h4
   | true=>
    rcases lH with lH|hmv
    ·exfalso
     rcases lH j hjh with h|h
     ·have:=h.listed hc (.inr hj)
      rw[getD_both EC]at this;cases this
     ·have:=h.listed hc (.inr hr)
      rw[getD_both BG]at this;cases this
    ·simp only[hjh,if_true]at h1 ⊢
     have h2:=ug JE (xB j oj JE oM BG GY) (λcs b=>kF i oi cs b hi) (λcs b=>kF j oj cs b JE) h1
     refine gW (λa' w' h3=>?_) h2
     obtain⟨⟨he,hw⟩,h4⟩:=h3
     refine ih _ a' w' (hc.set hj) yJ (ready_mono hr (Ne.symm oM)) ((hy.AP he hw).alK hmv w') ?_
     rw[Array.setIfInBounds_comm _ _ oM]
     exact h4
def D9 (P:Program) (ops:Array Oper) (Q:Exit→Act→World→Prop):List (Nat×Nat)→Act→World→Prop
 | [],a,w=>∀ x:bM w,Q .normal a (w.ah x)
 | (i,0)::rest,a,w=>∃ v o,ops[i]? =some o∧jC P ops o v a w∧D9 P ops Q rest (a.put o.dst v) w
 | (i,1)::rest,a,w=>∀ x:bM w,fQ P ops i (λa' w'=>aB (w.ah x) w'∧D9 P ops Q rest a' w') a (w.ah x)
 | (i,_)::rest,a,w=>∀ x:bM w,fQ P ops i (λa' w'=>D9 P ops Q rest a' w') a (w.ah x)
theorem D9.ah {σ:List (Nat×Nat)} {a:Act} {w w':World} (h:D9 P ops Q σ a w) (hE:aB w w'):D9 P ops Q σ a w':=by
 induction σ generalizing a with
 | nil=>exact λx=>h ⟨w'.ah x,aB.trans hE x.2⟩
 | cons p rest ih=>
  obtain⟨i,k⟩:=p
  match k with
  | 0=>obtain⟨v,o,ho,hy,hr⟩:=h;exact⟨v,o,ho,hy.ah hE,ih hr⟩
  | 1=>exact λx=>h ⟨w'.ah x,aB.trans hE x.2⟩
  | k+2=>exact λx=>h ⟨w'.ah x,aB.trans hE x.2⟩
def Pz (md : Region.Mode) (ops : Array Oper) : List (Nat × Nat) → Array Bool → Bool
  | [], listed => (Region.ready md ops listed).isEmpty
  | (i, k) :: rest, listed =>
    (match k with
     | 0 => (Region.ready md ops listed).contains i && Region.free md ops listed i
     | _ => decide (Region.ready md ops listed = [i])) && Pz md ops rest (listed.setIfInBounds i true)
theorem lM (ops:Array Oper) (i j:Nat) (h:((Region.before ops).getD j 0).testBit i=true):Reach .any ops i j:=by
 have key:∀ (l:List Oper) (n:Nat) (acc:Array Nat),(∀k,l[k]? =ops[n+k]?)→acc.size=n→(∀j i,(acc.getD j 0).testBit i=true→Reach .any ops i j)→
   ∀j i,((l.foldl (λ(acc:Array Nat) (o:Oper)=>acc.push (o.after.foldl (λs e=>if Region.binds .any e then s ||| 2^e.on ||| acc.getD e.on 0 else s) 0)) acc).getD j 0).testBit i=true→Reach .any ops i j:=by
  intro l
  induction l with
  | nil=>intro n acc _ _ h j i hj;exact h j i hj
  | cons o l ih=>
   intro n acc hl hn h j i hj
   rw[List.foldl_cons]at hj
   refine ih (n+1) _ (λk=>by have:=hl (k+1);simp only[List.getElem?_cons_succ]at this;rw[this];congr 1;omega) (by simp[hn]) ?_ j i hj
   intro j i hj
   have ho:ops[n]? =some o:=by have:=hl 0;simpa using this.symm
   by_cases hjn:j<n
   ·refine h j i ?_
    rw[←hj]
    simp only[Array.getD_eq_getD_getElem?]
    rw[Array.getElem?_push_lt (by omega)]
    simp[show j<acc.size by omega]
   ·by_cases anO:j=n
    ·subst anO
     have hv:(acc.push (o.after.foldl (λs e=>if Region.binds .any e then s ||| 2^e.on ||| acc.getD e.on 0 else s) 0)).getD j 0=o.after.foldl (λs e=>if Region.binds .any e then s ||| 2^e.on ||| acc.getD e.on 0 else s) 0:=by
      rw[Array.getD_eq_getD_getElem?,←hn,Array.getElem?_push_size];rfl
     rw[hv]at hj
     have step:∀ (es:List Edge) (s:Nat),(∀e∈es,e∈o.after)→((es.foldl (λs e=>if Region.binds .any e then s ||| 2^e.on ||| acc.getD e.on 0 else s) s).testBit i=true)→s.testBit i=true∨Reach .any ops i j:=by
      intro es
      induction es with
      | nil=>intro s _ h;exact .inl h
      | cons e es ihe=>
       intro s hm h'
       rw[List.foldl_cons]at h'
       rcases ihe _ (λe' he'=>hm e' (by simp[he'])) h' with h1|h1
       ·by_cases hb:Region.binds .any e=true
        ·rw[if_pos hb]at h1
         simp only[Nat.testBit_or,Bool.or_eq_true,Nat.testBit_two_pow]at h1
         have hw:Region.waitsFor .any ops j e.on=true:=by
          unfold Region.waitsFor
          simp only[ho]
          exact Array.any_eq_true'.2 ⟨e,hm e (by simp),by simp[hb]⟩
         rcases h1 with(h1|h1)|h1
         ·exact .inl h1
         ·have:e.on=i:=by simpa using h1
          subst this
          exact .inr (.one hw)
         ·exact .inr (.more (h e.on i h1) hw)
        ·rw[if_neg hb]at h1;exact .inl h1
       ·exact .inr h1
     rw[←Array.foldl_toList]at hj
     rcases step o.after.toList 0 (λe he=>by simpa using he) hj with h1|h1
     ·simp at h1
     ·exact h1
    ·exfalso
     rw[Array.getD_eq_getD_getElem?,Array.getElem?_eq_none (by simp;omega)]at hj
     simp at hj
 unfold Region.before at h
 rw[←Array.foldl_toList]at h
 exact key ops.toList 0 #[] (by simp) rfl (λj i hj=>by simp at hj) j i h
def anP (ops:Array Oper) (σ:List (Nat×Nat)):Bool:=
 σ.all λq=> !(decide (2≤q.2))||σ.all λp=>decide (2≤p.2)||((Region.before ops).getD q.1 0).testBit p.1||((Region.before ops).getD p.1 0).testBit q.1||(match ops[p.1]? with|some o=>Oper.Jl o|none=>true)
def afV (n:Nat) (σ:List (Nat×Nat)):Bool:=(σ.all λp=>σ.all λq=> !(p.1==q.1)||(p.2==q.2))&&(List.range n).all λi=>σ.any (·.1==i)
def QW (md:Region.Mode) (ops:Array Oper) (σ:List (Nat×Nat)):Bool:=
 Region.noSelect ops&&decide (σ.length=ops.size)&&afV ops.size σ&&anP ops σ&&Pz md ops σ (Array.replicate ops.size false)
theorem zG {hard:Nat→Bool} (kF:Region.noSelect ops=true)
  (lH:∀ i oi,hard i=false→ops[i]? =some oi→(∀j,hard j=true→Reach md ops i j∨Reach md ops j i)∨Oper.Jl oi=true):
  ∀(σ:List (Nat×Nat)) (listed:Array Bool) (a:Act) (w:World),uz md ops listed→Pz md ops σ listed=true→
   (∀p∈σ,(hard p.1=decide (2≤p.2)))→D9 P ops Q σ a w→wpS P md ops hard Q σ.length listed a w
 | [],listed,a,w,_,hB,_,h=>⟨by simpa [Pz] using hB,h⟩
 | (i,0)::rest,listed,a,w,hc,hB,hh,h=>by
  simp only[Pz,Bool.and_eq_true]at hB
  obtain⟨⟨hr,hf⟩,GZ⟩:=hB
  obtain⟨v,o,ho,hy,Ui⟩:=h
  have tC:i∈Region.ready md ops listed:=by simpa using hr
  have UK:hard i=false:=by rw[hh (i,0) (by simp)];rfl
  exact Oa ho (Region.noSelect_spec kF) UK (lH i o UK ho) rest.length listed a w hc (Region.free_spec ho hf) tC hy
   (zG kF lH rest _ _ w (hc.set tC) GZ (λp hp=>hh p (by simp[hp])) Ui)
 | (i,1)::rest,listed,a,w,hc,hB,hh,h=>by
  simp only[Pz,Bool.and_eq_true,decide_eq_true_eq]at hB
  intro x
  refine⟨λh0=>(by rw[hB.1]at h0;cases h0),λj hj=>?_⟩
  have AQ:=hj
  rw[hB.1]at AQ
  obtain rfl:j=i:=by simpa using AQ
  have UK:hard j=false:=by rw[hh (j,1) (by simp)];rfl
  simp only[UK,Bool.false_eq_true,if_false]
  exact gW (λa' w' h'=>⟨h'.1,zG kF lH rest _ _ w' (hc.set hj) hB.2 (λp hp=>hh p (by simp[hp])) h'.2⟩) (h x)
 | (i,k+2)::rest,listed,a,w,hc,hB,hh,h=>by
  simp only[Pz,Bool.and_eq_true,decide_eq_true_eq]at hB
  intro x
  refine⟨λh0=>(by rw[hB.1]at h0;cases h0),λj hj=>?_⟩
  have AQ:=hj
  rw[hB.1]at AQ
  obtain rfl:j=i:=by simpa using AQ
  have UK:hard j=true:=by rw[hh (j,k+2) (by simp)];simp
  simp only[UK,if_true]
  exact gW (λa' w' h'=>zG kF lH rest _ _ w' (hc.set hj) hB.2 (λp hp=>hh p (by simp[hp])) h') (h x)
def BQ (ρ:Option Nat) (l:List Oper):Prop:=ρ= none∨l.all vW=true
theorem BQ.get {ρ:Option Nat} {l:List Oper} (h:BQ ρ l):ρ= none∨(∀(i:Nat) (o:Oper),l.toArray[i]? =some o→vW o=true):=
 h.imp id λh i o ho=>List.all_eq_true.1 h o (List.mem_of_getElem? (i:=i) (by simpa using ho))
theorem Ea {ρ:Option Nat} {n:Nat} {id:Nat} {a:Act} {w:World} {l:List Oper} (σ:List (Nat×Nat)) (hnd:BQ ρ l) (hm:P.follows .mixedOrders=true) (hB:QW .any l.toArray σ=true)
  (h:D9 P l.toArray Q σ a w):(Code.region id l.toArray true).wpIn (RF ρ) n P Q a w:=by
 simp only[QW,Bool.and_eq_true,decide_eq_true_eq]at hB
 obtain⟨⟨⟨⟨kF,iR⟩,aa6⟩,aiB⟩,UY⟩:=hB
 simp only[afV,Bool.and_eq_true]at aa6
 refine wpIn_region_any hm ?_
 let hard:Nat→Bool:=λi=>σ.any λp=>p.1==i&&decide (2≤p.2)
 have Bj:∀ p∈σ,∀q∈σ,p.1=q.1→p=q:=by
  intro p hp q hq e
  have h1:=List.all_eq_true.1 (List.all_eq_true.1 aa6.1 p hp) q hq
  simp only[e,beq_self_eq_true,Bool.not_true,Bool.false_or,beq_iff_eq]at h1
  exact Prod.ext e h1
 have afW:∀ p∈σ,hard p.1=decide (2≤p.2):=by
  intro p hp
  by_cases h2:2≤p.2
  ·simp only[h2,decide_true]
   exact List.any_eq_true.2 ⟨p,hp,by simp[h2]⟩
  ·simp only[h2,decide_false]
   cases hc:hard p.1 with
   | false=>rfl
   | true=>
    obtain⟨q,hq,jM⟩:=List.any_eq_true.1 hc
    simp only[Bool.and_eq_true,beq_iff_eq,decide_eq_true_eq]at jM
    have:=Bj q hq p hp jM.1
    subst this
    exact absurd jM.2 h2
 have jB:∀ i,i<l.toArray.size→∃ p∈σ,p.1=i:=by
  intro i hi
  obtain⟨p,hp,e⟩:=List.any_eq_true.1 (List.all_eq_true.1 aa6.2 i (List.mem_range.2 hi))
  exact⟨p,hp,by simpa using e⟩
 have lH:∀ i oi,hard i=false→l.toArray[i]? =some oi→(∀j,hard j=true→Reach .any l.toArray i j∨Reach .any l.toArray j i)∨Oper.Jl oi=true:=by
  intro i oi hi hoi
  have aiC:i<l.toArray.size:=(Array.getElem?_eq_some_iff.1 hoi).1
  obtain⟨p,hp,rfl⟩:=jB i aiC
  cases hmv:Oper.Jl oi with
  | true=>exact .inr rfl
  | false=>
   refine .inl λj hj=>?_
   obtain⟨q,hq,jM⟩:=List.any_eq_true.1 hj
   simp only[Bool.and_eq_true,beq_iff_eq,decide_eq_true_eq]at jM
   obtain⟨rfl,jM⟩:=jM
   have h1:=List.all_eq_true.1 aiB q hq
   have sF:(!(decide (2≤q.2)))=false:=by simp[jM]
   rw[sF,Bool.false_or]at h1
   have h2:=List.all_eq_true.1 h1 p hp
   have hp2:decide (2≤p.2)=false:=by rw[←afW p hp];exact hi
   simp only[hp2,hoi,hmv,Bool.or_false,Bool.false_or,Bool.or_eq_true]at h2
   exact h2.imp (lM l.toArray p.1 q.1) (lM l.toArray q.1 p.1)
 have H:=zG (P:=P) (Q:=Q) (hard:=hard) kF lH σ _ a _ (λj oj _ hl=>(by rw[getD_replicate_false]at hl;cases hl)) UY afW (h.ah (aB.drew w))
 rw[iR]at H
 exact vX hnd.get _ _ _ _ H
end
section
variable {κ β : Type} [DecidableEq κ]
def lZ (k:κ):List κ→Option Nat
 | []=>none
 | x::xs=>if x=k then some 0 else(lZ k xs).map (· +1)
theorem ED {k:κ}:∀ {l:List κ},lZ k l=none↔k∉l
 | []=>by simp[lZ]
 | x::xs=>by
  unfold lZ
  by_cases h:x=k
  ·simp[h]
  ·have ih:= @ED k xs
   rw[if_neg h,Option.map_eq_none_iff,ih]
   simp[Ne.symm h]
structure NS (P:Program) (kt:TypeId) (bZ:κ→ Value):Prop where
 check:∀ (b:Bool) (k:κ) (w:World),(Instr.checkKey b 10000 kt (bZ k)).run P w=.ok () w
 find:∀ (k:κ) (es:List MapEntry) (ks:List κ) (w:World),es.map (·.key)=ks.map bZ→
  (Instr.findKey kt (bZ k) es).run P w=.ok ((lZ k ks).bind λi=>(es[i]?).map λe=>(i,e.val)) w
 stays:∀ (k:κ) (w:World),(Instr.keyThatStays (bZ k) (bZ k)).run P w=.ok (bZ k) w
abbrev DN (bZ:κ→ Value) (dG:β→ Value) (x:κ× β×Nat):MapEntry:=⟨bZ x.1,dG x.2.1,x.2.2⟩
structure yN (bZ:κ→ Value) (dG:β→ Value) (w:World) (b:Nat) (L:List (κ×β× Nat)) (clock:Nat):Prop where
 heap:w.heap[b]? =some (.map (L.map (DN bZ dG)).toArray clock)
 keys:(L.map (·.1)).Nodup
 Iy:(L.map (·.2.2)).Nodup
 bK:∀ x∈L,x.2.2<clock
def BH (L:List (κ×β× Nat)) (k:κ):Option β:=(L.find? (λx=>decide (x.1=k))).map (·.2.1)
def eU (bZ:κ→ Value) (dG:β→ Value) (w:World) (b:Nat) (f:κ→ Option β):Prop:=
 ∃L clock,yN bZ dG w b L clock∧∀ k,f k=BH L k
theorem eU.lt {bZ:κ→ Value} {dG:β→ Value} {w:World} {b:Nat} {f:κ→ Option β} (h:eU bZ dG w b f):b<w.heap.size:=by
 obtain⟨L,c,h,_⟩:=h
 exact(Array.getElem?_eq_some_iff.1 h.heap).1
theorem eU.qC {bZ:κ→ Value} {dG:β→ Value} {w w':World} {b:Nat} {f:κ→ Option β} (h:eU bZ dG w b f) (hb:w'.heap[b]? =w.heap[b]?):eU bZ dG w' b f:=by
 obtain⟨L,c,h,hf⟩:=h
 exact⟨L,c,⟨by rw[hb];exact h.heap,h.keys,h.Iy,h.bK⟩,hf⟩
theorem QX {L:List (κ×β× Nat)} {k:κ}:BH L k=(lZ k (L.map (·.1))).bind λi=>(L[i]?).map (·.2.1):=by
 induction L with
 | nil=>rfl
 | cons x xs ih=>
  unfold BH at *
  simp only[List.map_cons,lZ,List.find?_cons]
  by_cases h:x.1=k
  ·simp[h]
  ·simp only[h,decide_false,if_false]
   rw[ih]
   cases lZ k (xs.map (·.1))<;>simp
theorem Dw {k:κ}:∀ {l:List κ} {i:Nat},lZ k l=some i→l[i]? =some k
 | [],_,h=>by simp[lZ]at h
 | x::xs,i,h=>by
  unfold lZ at h
  by_cases hx:x=k
  ·rw[if_pos hx]at h;obtain rfl:=Option.some.inj h;simp[hx]
  ·rw[if_neg hx]at h
   cases hp:lZ k xs with
   | none=>simp[hp]at h
   | some j=>simp[hp]at h;subst h;simpa using Dw hp
theorem ajF {L:List (κ×β× Nat)} (hn:(L.map (·.1)).Nodup) {k:κ} {v:β} {n:Nat} (h:(k,v,n)∈L):BH L k=some v:=by
 induction L with
 | nil=>cases h
 | cons x xs ih=>
  simp only[List.map_cons,List.nodup_cons]at hn
  unfold BH
  simp only[List.find?_cons]
  rcases List.mem_cons.1 h with rfl|h'
  ·simp
  ·have jm:x.1≠k:=λe=>hn.1 (List.mem_map.2 ⟨_,h',e.symm⟩)
   simp only[jm,decide_false]
   exact ih hn.2 h'
variable {P : Program} {t kt et : TypeId} {bZ : κ → Value} {dG : β → Value} {w : World} {b : Nat} {f : κ → Option β}
omit [DecidableEq κ] in
theorem MH (L:List (κ×β× Nat)):(L.map (DN bZ dG)).map (·.key)=(L.map (·.1)).map bZ:=by simp
theorem eU.lookup (hK:NS P kt bZ) (ht:P.underlying t=some (.map kt et)) {z:Value} (hz:(zeroValue et).run P w=.ok z w) (h:eU bZ dG w b f) (k:κ) (ok:Bool):
  (Instr.lookup t (.map (some b)) (bZ k) ok).run P w=.ok (if ok then .tuple #[((f k).map dG).getD z,.bool (f k).isSome] else((f k).map dG).getD z) w:=by
 obtain⟨L,c,h,hf⟩:=h
 have Uj:=hK.find k (L.map (DN bZ dG)) (L.map (·.1)) w (MH L)
 have hgo:Sem.run P (getObj b) w=.ok (.map (L.map (DN bZ dG)).toArray c) w:=by simp[getObj,Sem.run,h.heap]
 have hl:f k=(lZ k (L.map (·.1))).bind λi=>(L[i]?).map (·.2.1):=(hf k).trans QX
 unfold Instr.lookup
 simp only[Sem.run_bind,run_underlying ht,Result.andThen_ok,hgo,Sem.run_pure,hK.check,Uj]
 cases hp:lZ k (L.map (·.1)) with
 | none=>
  rw[hp]at hl
  simp only[Option.bind_none]at hl ⊢
  simp only[Sem.run_bind,hz,Result.andThen_ok,Sem.run_pure,hl]
  cases ok<;>rfl
 | some i=>
  have hi:=Dw hp
  rw[List.getElem?_map]at hi
  cases hL:L[i]? with
  | none=>simp[hL]at hi
  | some x=>
   rw[hp]at hl
   simp only[Option.bind_some,hL,Option.map_some]at hl
   simp only[Option.bind_some,List.getElem?_map,hL,Option.map_some,hl]
   cases ok<;>rfl
def yu (f:κ→ Option β) (k:κ) (v:Option β):κ→ Option β:=λx=>if x=k then v else f x
theorem Kz {k:κ} {v:β}:∀ {L:List (κ×β× Nat)} {i:Nat},(L.map (·.1)).Nodup→lZ k (L.map (·.1))=some i→
  L.modify i (λx=>(x.1,v,x.2.2))=L.map (λx=>if x.1=k then(x.1,v,x.2.2) else x)
 | [],_,_,h=>by simp[lZ]at h
 | x::xs,i,hn,h=>by
  simp only[List.map_cons,lZ]at h
  simp only[List.map_cons,List.nodup_cons]at hn
  by_cases hx:x.1=k
  ·rw[if_pos hx]at h
   obtain rfl:=Option.some.inj h
   simp only[List.modify_zero_cons,List.map_cons,if_pos hx]
   congr 1
   conv=>lhs;rw[←List.map_id xs]
   refine List.map_congr_left λy hy=>?_
   have:y.1≠k:=λe=>hn.1 (List.mem_map.2 ⟨y,hy,e.trans hx.symm⟩)
   simp[this]
  ·rw[if_neg hx]at h
   cases hp:lZ k (xs.map (·.1)) with
   | none=>simp[hp]at h
   | some j=>
    simp[hp]at h
    subst h
    simp only[List.modify_succ_cons,List.map_cons,if_neg hx]
    rw[Kz hn.2 hp]
theorem Ob {k:κ}:∀ {L:List (κ×β× Nat)} {i:Nat},(L.map (·.1)).Nodup→lZ k (L.map (·.1))=some i→
  L.eraseIdx i=L.filter (λx=>decide (x.1≠k))
 | [],_,_,h=>by simp[lZ]at h
 | x::xs,i,hn,h=>by
  simp only[List.map_cons,lZ]at h
  simp only[List.map_cons,List.nodup_cons]at hn
  by_cases hx:x.1=k
  ·rw[if_pos hx]at h
   obtain rfl:=Option.some.inj h
   simp only[List.eraseIdx_zero,List.tail_cons,List.filter_cons,hx,ne_eq,not_true_eq_false,decide_false]
   symm
   simp only[Bool.false_eq_true,if_false]
   rw[List.filter_eq_self]
   intro y hy
   have:y.1≠k:=λe=>hn.1 (List.mem_map.2 ⟨y,hy,e.trans hx.symm⟩)
   simp[this]
  ·rw[if_neg hx]at h
   cases hp:lZ k (xs.map (·.1)) with
   | none=>simp[hp]at h
   | some j=>
    simp[hp]at h
    subst h
    simp only[List.eraseIdx_cons_succ,List.filter_cons,ne_eq,hx,not_false_eq_true,decide_true,if_true]
    rw[Ob hn.2 hp]
theorem G5 {α γ:Type} (g:α→ γ):∀ (l:List α) (i:Nat),(l.eraseIdx i).map g=(l.map g).eraseIdx i
 | [],_=>by simp
 | x::xs,0=>by simp
 | x::xs,i+1=>by simp[G5 g xs i]
theorem aa7 {L:List (κ×β× Nat)} {k:κ} {v:β} (hk:k∈L.map (·.1)) (x:κ):BH (L.map (λy=>if y.1=k then(y.1,v,y.2.2) else y)) x=yu (BH L) k (some v) x:=by
 induction L with
 | nil=>simp at hk
 | cons y ys ih=>
  unfold BH yu at *
  simp only[List.map_cons,List.find?_cons]
  by_cases hy:y.1=k
  ·rw[if_pos hy]
   by_cases hx:x=k
   ·subst hx;simp[hy]
   ·have:y.1≠x:=λe=>hx (e.symm.trans hy)
    simp only[this,decide_false,if_neg hx]
    by_cases sF:k∈ys.map (·.1)
    ·have:=ih sF;rw[if_neg hx]at this;exact this
    ·have e:ys.map (λy=>if y.1=k then(y.1,v,y.2.2) else y)=ys:=by
      conv=>rhs;rw[←List.map_id ys]
      refine List.map_congr_left λz hz=>?_
      have:z.1≠k:=λe=>sF (List.mem_map.2 ⟨z,hz,e⟩)
      simp[this]
     rw[e]
  ·rw[if_neg hy]
   have sF:k∈ys.map (·.1):=by
    rcases List.mem_cons.1 hk with h|h
    ·exact absurd h.symm hy
    ·exact h
   have ih':=ih sF
   by_cases hx:y.1=x
   ·have hxk:x≠k:=λe=>hy (hx.trans e)
    simp[hx,hxk]
   ·simp only[hx,decide_false]
    exact ih'
theorem Yx {L:List (κ×β× Nat)} {k:κ} {v:β} {n:Nat} (hk:k∉L.map (·.1)) (x:κ):BH (L++[(k,v,n)]) x=yu (BH L) k (some v) x:=by
 unfold BH yu
 rw[List.find?_append]
 by_cases hx:x=k
 ·subst hx
  have:L.find? (λy=>decide (y.1=x))=none:=List.find?_eq_none.2 λy hy=>by
   simp;exact λe=>hk (List.mem_map.2 ⟨y,hy,e⟩)
  simp[this]
 ·have jm:¬ k=x:=λe=>hx e.symm
  simp[hx,jm]
theorem UZ {L:List (κ×β× Nat)} {k:κ} (x:κ):BH (L.filter (λy=>decide (y.1≠k))) x=yu (BH L) k none x:=by
 unfold BH yu
 rw[List.find?_filter]
 by_cases hx:x=k
 ·subst hx
  have:L.find? (λa=>decide (a.1≠x)&&decide (a.1=x))=none:=List.find?_eq_none.2 λy _=>by
   by_cases h:y.1=x<;>simp[h]
  simp only[if_true]
  rw[show (λa:κ× β×Nat=>decide (decide (a.fst≠x)=true∧decide (a.fst=x)=true))=(λa=>decide (a.1≠x)&&decide (a.1=x)) from by funext a;by_cases h:a.1=x<;>simp[h]]
  rw[this];rfl
 ·simp only[if_neg hx]
  rw[show (λa:κ× β×Nat=>decide (decide (a.fst≠k)=true∧decide (a.fst=x)=true))=(λa=>decide (a.1=x)) from by
   funext a;by_cases h:a.1=x
   ·have:a.1≠k:=λe=>hx (h.symm.trans e)
    simp[h];exact hx
   ·simp[h]]
def _root_.Go.World.setObj (w:World) (b:Nat) (o:Obj):World:={w with heap:=w.heap.setIfInBounds b o}
@[simp] theorem afX (w:World) (b:Nat) (o:Obj):(w.setObj b o).heap.size=w.heap.size:=by simp[World.setObj]
theorem KA (w:World) {b k:Nat} (o:Obj) (h:b≠k):(w.setObj b o).heap[k]? =w.heap[k]? :=by
 simp only[World.setObj];exact Array.getElem?_setIfInBounds_ne h
theorem mJ (w:World) {b:Nat} (o:Obj) (h:b<w.heap.size):(w.setObj b o).heap[b]? =some o:=by
 simp[World.setObj,h]
theorem zH (w:World) (b:Nat) (o:Obj):bF (· =b) w (w.setObj b o):=
 ⟨rfl,rfl,rfl,by simp,λk _ hk=>KA w o (λe=>hk e.symm)⟩
theorem Di {es:Array MapEntry} {c:Nat} (h:w.heap[b]? =some (.map es c)):Sem.run P (getObj b) w=.ok (.map es c) w:=by simp[getObj,Sem.run,h]
theorem sU {es:Array MapEntry} {c:Nat} (o:Obj) (h:w.heap[b]? =some (.map es c)):Sem.run P (setObj b o) w=.ok () (w.setObj b o):=by simp[setObj,Sem.run,h,World.setObj]
theorem eU.adi (hK:NS P kt bZ) (ht:P.underlying t=some (.map kt et)) (h:eU bZ dG w b f) (k:κ) (v:β):
  ∃o,(Instr.mapUpdate t (.map (some b)) (bZ k) (dG v)).run P w=.ok () (w.setObj b o)∧eU bZ dG (w.setObj b o) b (yu f k (some v)):=by
 have hlt:=h.lt
 obtain⟨L,c,h,hf⟩:=h
 have Uj:=hK.find k (L.map (DN bZ dG)) (L.map (·.1)) w (MH L)
 have hgo:=Di (P:=P) h.heap
 unfold Instr.mapUpdate
 simp only[Sem.run_bind,run_underlying ht,Result.andThen_ok,hgo,hK.check,Uj]
 cases hp:lZ k (L.map (·.1)) with
 | none=>
  have hk:k∉L.map (·.1):=ED.1 hp
  refine⟨.map ((L.map (DN bZ dG)).toArray.push ⟨bZ k,dG v,c⟩) (c+1),?_,L++[(k,v,c)],c+1,⟨?_,?_,?_,?_⟩,?_⟩
  ·simp only[Option.bind_none];exact sU _ h.heap
  ·rw[mJ _ _ hlt];simp
  ·rw[List.map_append];simp only[List.map_cons,List.map_nil]
   rw[List.nodup_append]
   exact⟨h.keys,by simp,λx hx y hy=>by simp at hy;subst hy;exact λe=>hk (e▸hx)⟩
  ·rw[List.map_append];simp only[List.map_cons,List.map_nil]
   rw[List.nodup_append]
   exact⟨h.Iy,by simp,λx hx y hy=>by
    simp at hy;subst hy
    obtain⟨z,hz,rfl⟩:=List.mem_map.1 hx
    have:=h.bK z hz;omega⟩
  ·intro x hx
   rcases List.mem_append.1 hx with hx|hx
   ·have:=h.bK x hx;omega
   ·simp at hx;subst hx;simp
  ·intro x;rw[Yx hk];unfold yu;split;· rfl
   ·exact hf x
 | some i=>
  have hi:=Dw hp
  rw[List.getElem?_map]at hi
  cases hL:L[i]? with
  | none=>simp[hL]at hi
  | some x=>
   have hx:x.1=k:=by simpa [hL] using hi
   have hkm:k∈L.map (·.1):=List.mem_map.2 ⟨x,List.mem_of_getElem? hL,hx⟩
   simp only[Option.bind_some,List.getElem?_map,hL,Option.map_some,Sem.run_bind,List.getElem?_toArray,Option.getD_some,hx,hK.stays,Result.andThen_ok]
   refine⟨_,sU _ h.heap,L.map (λy=>if y.1=k then(y.1,v,y.2.2) else y),c,⟨?_,?_,?_,?_⟩,?_⟩
   ·rw[mJ _ _ hlt]
    congr 2
    apply Array.ext'
    simp only[List.modify_toArray]
    rw[←Kz h.keys hp]
    apply List.ext_getElem?
    intro j
    simp only[List.getElem?_modify,List.getElem?_map]
    by_cases hj:i=j
    ·subst hj;simp[hL,hx]
    ·simp[hj]
   ·rw[List.map_map]
    have:L.map ((λx=>x.1)∘λy=>if y.1=k then(y.1,v,y.2.2) else y)=L.map (·.1):=List.map_congr_left λy _=>by
     simp only[Function.comp];split<;>rfl
    rw[this];exact h.keys
   ·rw[List.map_map]
    have:L.map ((λx=>x.2.2)∘λy=>if y.1=k then(y.1,v,y.2.2) else y)=L.map (·.2.2):=List.map_congr_left λy _=>by
     simp only[Function.comp];split<;>rfl
    rw[this];exact h.Iy
   ·intro y hy
    obtain⟨z,hz,rfl⟩:=List.mem_map.1 hy
    have:=h.bK z hz
    split<;>exact this
   ·intro y;rw[aa7 hkm];unfold yu;split;· rfl
    ·exact hf y
theorem eU.delete (hK:NS P kt bZ) (ht:P.underlying t=some (.map kt et)) (h:eU bZ dG w b f) (k:κ) (ts:Array TypeId) (hts:ts[0]? =some t) (ty:TypeId):
  ∃o,(Builtin.delete_ ts ty #[.map (some b),bZ k]).run P w=.ok (.tuple #[]) (w.setObj b o)∧eU bZ dG (w.setObj b o) b (yu f k none):=by
 have hlt:=h.lt
 obtain⟨L,c,h,hf⟩:=h
 have Uj:=hK.find k (L.map (DN bZ dG)) (L.map (·.1)) w (MH L)
 have hgo:=Di (P:=P) h.heap
 unfold Builtin.delete_
 have a0:(#[Value.map (some b),bZ k])[0]? =some (.map (some b)):=rfl
 have a1:(#[Value.map (some b),bZ k])[1]? =some (bZ k):=rfl
 simp only[hts,a0,a1,Sem.run_bind,run_underlying ht,Result.andThen_ok,hgo,hK.check,Uj]
 cases hp:lZ k (L.map (·.1)) with
 | none=>
  have hk:k∉L.map (·.1):=ED.1 hp
  simp only[Option.bind_none]
  refine⟨.map (L.map (DN bZ dG)).toArray c,?_,L,c,⟨mJ _ _ hlt,h.keys,h.Iy,h.bK⟩,?_⟩
  ·simp only[Sem.run_bind,sU _ h.heap,Result.andThen_ok,Sem.run_pure]
  ·intro x;unfold yu
   split
   ·rename_i e;subst e
    rw[QX,hp];rfl
   ·exact hf x
 | some i=>
  have hi:=Dw hp
  rw[List.getElem?_map]at hi
  cases hL:L[i]? with
  | none=>simp[hL]at hi
  | some x=>
   simp only[Option.bind_some,List.getElem?_map,hL,Option.map_some]
   refine⟨.map ((L.map (DN bZ dG)).toArray.eraseIdxIfInBounds i) c,?_,L.filter (λy=>decide (y.1≠k)),c,⟨?_,?_,?_,?_⟩,?_⟩
   ·simp only[Sem.run_bind,sU _ h.heap,Result.andThen_ok,Sem.run_pure]
   ·rw[mJ _ _ hlt]
    congr 2
    apply Array.ext'
    have aiC:i<(L.map (DN bZ dG)).toArray.size:=by simpa using(Ge hL).1
    simp only[Array.eraseIdxIfInBounds,aiC,dif_pos,Array.toList_eraseIdx]
    rw[←Ob h.keys hp]
    exact(G5 _ _ _).symm
   ·exact(List.filter_sublist.map _).nodup h.keys
   ·exact(List.filter_sublist.map _).nodup h.Iy
   ·exact λy hy=>h.bK y (List.mem_filter.1 hy).1
   ·intro y;rw[UZ];unfold yu;split;· rfl
    ·exact hf y
end
abbrev ki (n:Int):Value:=.int .i64 n
theorem FP (k:Int):∀ (es:List MapEntry) (ks:List Int) (i:Nat),es.map (·.key)=ks.map ki→
  Instr.findNow (.int .i64) (ki k) es i=some ((lZ k ks).bind λj=>(es[j]?).map λe=>(i+j,e.val))
 | [],[],_,_=>rfl
 | [],_::_,_,h=>by simp at h
 | _::_,[],_,h=>by simp at h
 | e::es,x::xs,i,h=>by
  simp only[List.map_cons,List.cons.injEq]at h
  unfold Instr.findNow
  rw[h.1]
  by_cases hx:x=k
  ·subst hx
   simp[Instr.sameNow,lZ]
  ·have hb:(k==x)=false:=by simp;exact λe=>hx e.symm
   simp only[Instr.sameNow,if_true,hb,lZ,if_neg hx]
   rw[FP k es xs (i+1) h.2]
   cases lZ k xs with
   | none=>rfl
   | some j=>simp only[Option.bind_some,Option.map_some,List.getElem?_cons_succ,Nat.add_assoc,Nat.add_comm 1 j]
theorem dU {P:Program} {kt:TypeId} (hk:P.underlying kt=some (.int .i64)):NS P kt ki where
 check b k w:=by
  rw[show (10000:Nat)=9999+1 from rfl,Instr.checkKey]
  simp only[Sem.run_bind,run_underlying hk,Result.andThen_ok]
  rfl
 find k es ks w h:=by
  unfold Instr.findKey
  simp only[Sem.run_bind,run_underlying hk,Result.andThen_ok]
  rw[FP k es ks 0 h]
  simp only[Nat.zero_add,Sem.run_pure]
 stays k w:=by
  unfold Instr.keyThatStays
  rw[show Instr.sameBits 10000 (ki k) (ki k)=true from by simp[Instr.sameBits]]
  rfl
theorem QY {P:Program} {e:TypeId} (he:P.underlying e=some (.int .i64)) (d:Nat) (a b:Int) (w:World):
  (Op.equalIn (d+1) e (.int .i64 a) (.int .i64 b)).run P w=.ok (a==b) w:=by
 rw[Op.equalIn]
 simp only[Sem.run_bind,run_underlying he,Result.andThen_ok,if_true]
 rfl
theorem QZ {P:Program} {e:TypeId} (he:P.underlying e=some (.int .i64)) (cs:Array Value) (i:Nat) (v:Value) (w:World) (h:cs[i]? =some v):
  (part e cs i).run P w=.ok v w:=by
 simp[part,isAgg,run_underlying he,h]
theorem _root_.Go.Code.pR {F:Fence} {n:Nat} {P:Program} {c:Code} {Q Q':Exit→Act→World→Prop} {a:Act} {w:World} (hq:∀ e a w,Q e a w→Q' e a w) (h:c.wpIn F n P Q a w):c.wpIn F n P Q' a w:=Go.wpIn_mono h hq
abbrev jo:=Exit→Act→World→Prop
abbrev Hq:=Ending→World→Prop
def QJ (Q:jo):jo:=λe a w'=>∃ w0,aB w0 w'∧Q e a w0
def Up (R:Hq):Hq:=λe w'=>∃ w0,aB w0 w'∧R e w0
def Wp (ρ:Option Nat) (P:Program) (c:Code) (Q:jo) (a:Act) (w:World):Prop:=∀ x:bM w,c.wpIn (RF ρ) 0 P (QJ Q) a (w.ah x)
def Fn (P:Program) (f:FuncId) (args:Array Value) (w:World) (R:Hq):Prop:=∀ x:bM w,Calls P f args (w.ah x) (Up R)
def anQ (R:Value→World→Prop):Hq:=λe w'=>match e with|.returned v=>R v w'|_=>False
abbrev gK (P:Program) (f:FuncId) (args:Array Value) (w:World) (R:Value→World→Prop):Prop:=Fn P f args w (anQ R)
abbrev Pure (P:Program) (f:FuncId) (args:Array Value) (w:World) (v:Value):Prop:=gK P f args w λv' w'=>v'=v∧aB w w'
theorem Wp.intro {ρ:Option Nat} {P:Program} {c:Code} {Q:jo} {a:Act} {w:World} (h:∀ x:bM w,c.wpIn (RF ρ) 0 P (QJ Q) a (w.ah x)):Wp ρ P c Q a w:=h
theorem Wp.get {ρ:Option Nat} {P:Program} {c:Code} {Q:jo} {a:Act} {w:World} (h:Wp ρ P c Q a w) (x:bM w):c.wpIn (RF ρ) 0 P (QJ Q) a (w.ah x):=h x
theorem Fn.intro {P:Program} {f:FuncId} {args:Array Value} {w:World} {R:Hq} (h:∀ x:bM w,Calls P f args (w.ah x) (Up R)):Fn P f args w R:=h
theorem Fn.get {P:Program} {f:FuncId} {args:Array Value} {w:World} {R:Hq} (h:Fn P f args w R) (x:bM w):Calls P f args (w.ah x) (Up R):=h x
theorem Fn.mono {P:Program} {f:FuncId} {args:Array Value} {w:World} {R R':Hq} (h:Fn P f args w R) (hr:∀ e w',R e w'→R' e w'):Fn P f args w R':=
 λx=>(h x).mono λ_ _ ⟨w0,hE,hR⟩=>⟨w0,hE,hr _ _ hR⟩
theorem gK.mono {P:Program} {f:FuncId} {args:Array Value} {w:World} {R R':Value→World→Prop} (h:gK P f args w R) (hr:∀ v w',R v w'→R' v w'):gK P f args w R':=
 Fn.mono h λe w' hR=>by cases e with|returned v=>exact hr _ _ hR|_=>exact hR
theorem Fn.Dj {P:Program} {f:FuncId} {args:Array Value} {w:World} {R:Hq} (h:Fn P f args w R):Calls P f args w (Up R):=h ⟨w,aB.refl w⟩
section
variable {ρ : Option Nat} {P : Program} {Q : jo} {a : Act} {w : World}
theorem U0 {c:Code} {Q':jo} (h:Wp ρ P c Q a w) (hq:∀ e a w,Q e a w→Q' e a w):Wp ρ P c Q' a w:=
 λx=>Code.pR (λ_ _ _ ⟨w0,hE,hQ⟩=>⟨w0,hE,hq _ _ _ hQ⟩) (h x)
theorem aG (h:Q .normal a w):Wp ρ P .skip Q a w:=λx=>wpIn_skip ⟨w,x.2,h⟩
theorem aC (h:Q .ret a w):Wp ρ P .ret Q a w:=λx=>wpIn_ret ⟨w,x.2,h⟩
theorem dS {id:Nat} (h:Q (.exit id) a w):Wp ρ P (.exit id) Q a w:=λx=>wpIn_exit ⟨w,x.2,h⟩
theorem EF {l:Nat} (h:Q (.goto l) a w):Wp ρ P (.goto l) Q a w:=λx=>wpIn_goto ⟨w,x.2,h⟩
theorem aea {l:Nat} (h:Q .normal a w):Wp ρ P (.label l) Q a w:=λx=>wpIn_label ⟨w,x.2,h⟩
theorem ajG {c d:Code} (h:Wp ρ P c (Exit.then (Wp ρ P d Q) Q) a w):Wp ρ P (.seq c d) Q a w:=λx=>
 wpIn_seq (Code.pR (λe a' w' hq=>by
  obtain⟨w0,hE,hQ⟩:=hq
  cases e with
  | normal=>exact hQ ⟨w',hE⟩
  | _=>exact⟨w0,hE,hQ⟩) (h x))
theorem ak {c d:Code} (h:∀ K:Act→World→Prop,(∀a w,Wp ρ P d Q a w→K a w)→Wp ρ P c (Exit.then K Q) a w):Wp ρ P (.seq c d) Q a w:=ajG (h _ λ_ _ h=>h)
theorem agS {c:Operand} {d e:Code} {t:Bool} (hc:a.eval c=.bool t) (ht:t=true→Wp ρ P d Q a w) (hf:t=false→Wp ρ P e Q a w):Wp ρ P (.cond c d e) Q a w:=λx=>
 wpIn_cond_split hc (λh=>ht h x) (λh=>hf h x)
theorem anR {c:Operand} {d e:Code} (hc:a.eval c=.bool true) (ht:Wp ρ P d Q a w):Wp ρ P (.cond c d e) Q a w:=λx=>wpIn_cond_true hc (ht x)
theorem agT {c:Operand} {d e:Code} (hc:a.eval c=.bool false) (ht:Wp ρ P e Q a w):Wp ρ P (.cond c d e) Q a w:=λx=>wpIn_cond_false hc (ht x)
theorem aJ {id:Nat} {c:Code} (h:Wp ρ P c (Exit.inBlock id Q) a w):Wp ρ P (.block id c) Q a w:=λx=>
 wpIn_block (Code.pR (λe a' w' hq=>by
  obtain⟨w0,hE,hQ⟩:=hq
  cases e with
  | exit id'=>
   simp only[Exit.inBlock]at hQ ⊢
   by_cases hid:id'=id
   ·simp only[hid,if_true]at hQ ⊢;exact⟨w0,hE,hQ⟩
   ·simp only[hid,if_false]at hQ ⊢;exact⟨w0,hE,hQ⟩
  | _=>exact⟨w0,hE,hQ⟩) (h x))
theorem aa8 {c:Code} (I:Nat→Act→World→Prop) (n:Nat) (h0:I n a w)
  (round:∀ n a w,I n a w→Wp ρ P c (Exit.then (λa' w'=>∃ m,m<n∧I m a' w') Q) a w):Wp ρ P (.loop c) Q a w:=by
 intro x b k cs MX hb hr
 have key:∀ n a w w1,aB w w1→I n a w→
   ∃e a' w',QJ Q e a' w'∧ArrivesIn (Machine.fenced P (RF ρ)) P (lone (b.atR a (.code c:: .inLoop c::k)) cs w1) b k cs e a' w':=by
  intro n
  induction n using Nat.strongRecOn with
  | _ n ih=>
   intro a w w1 hE hI
   obtain⟨e,a₁,w₁,hq,xC⟩:=round n a w hI ⟨w1,hE⟩ b (.inLoop c::k) cs MX hb hr
   obtain⟨w0,ny,hq⟩:=hq
   cases e with
   | normal=>
    obtain⟨m,hlt,hI₁⟩:=hq
    obtain⟨e₂,a₂,w₂,hq₂,harr₂⟩:=ih m hlt a₁ w0 w₁ ny hI₁
    exact⟨e₂,a₂,w₂,hq₂,.of_steps (StepsIn.trans xC (.one (fenced_calm hb hr rfl) stepR_inLoop)) harr₂⟩
   | exit id=>exact⟨_,a₁,w₁,⟨w0,ny,hq⟩,.pass (x:=.inLoop c) rfl (λ_ _=>.inl (by simp)) xC⟩
   | goto l=>exact⟨_,a₁,w₁,⟨w0,ny,hq⟩,.pass (x:=.inLoop c) rfl (λ_ _=>.inl (by simp)) xC⟩
   | ret=>exact⟨_,a₁,w₁,⟨w0,ny,hq⟩,.pass (x:=.inLoop c) rfl (λ_ _=>.inl (by simp)) xC⟩
   | panic ch=>exact⟨_,a₁,w₁,⟨w0,ny,hq⟩,.pass (x:=.inLoop c) rfl (λ_ _=>.inl (by simp)) xC⟩
   | outgrown=>exact⟨_,a₁,w₁,⟨w0,ny,hq⟩,.pass (x:=.inLoop c) rfl (λ_ _=>.inl (by simp)) xC⟩
 obtain⟨e,a',w',hq,xC⟩:=key n a w (w.ah x) x.2 h0
 exact⟨e,a',w',hq,.of_steps (.one (fenced_calm hb hr rfl) stepR_loop) xC⟩
def O6:List Deferred→World→World→Prop
 | [],w,w'=>w'=w
 | d::ds,w,w'=>∃ r,d.target=.collected r∧w.heap[r]? =some (.deferred (some []))∧O6 ds (w.putObj r (.deferred none)) w'
theorem U1 {w W:World} (h:aB w W) (r:Nat) (o:Obj):aB (w.putObj r o) (W.putObj r o):=by
 refine⟨h.os,h.tape,h.output,?_,λk hk _=>?_⟩
 ·simp only[World.putObj,Array.size_setIfInBounds];exact h.size
 ·simp only[World.putObj,Array.size_setIfInBounds]at hk ⊢
  by_cases hkr:r=k
  ·subst hkr
   have:r<W.heap.size:=Nat.lt_of_lt_of_le hk h.size
   simp[hk,this]
  ·rw[Array.getElem?_setIfInBounds_ne hkr,Array.getElem?_setIfInBounds_ne hkr]
   exact h.block k hk (λh=>h)
theorem qW {fn:Func} {tmps:Array Value} {R:Ending→World→Prop} {u:FrameMode} (hu:u≠ .run):∀ (ds:List Deferred) (w w' W:World),O6 ds w w'→aB w W→
  (∀W',aB w' W'→LeavesInM (RF none) 0 P fn tmps R [] u W')→LeavesInM (RF none) 0 P fn tmps R ds u W
 | [],w,w',W,h,hE,hl=>by cases h;exact hl W hE
 | d::ds,w,w',W,h,hE,hl=>by
  obtain⟨r,ht,hr,h⟩:=h
  have hlt:r<w.heap.size:=(Array.getElem?_eq_some_iff.1 hr).1
  exact⟨hu,.inl ⟨r,_,ht,run_takeDeferred ((hE.block r hlt (λh=>h)).trans hr),qW hu ds _ _ _ h (U1 hE r _) hl⟩⟩
def zo (P:Program) (fn:Func) (R:Hq):jo
 | .normal,a,w|.ret,a,w=>∃ w',O6 a.defers w w'∧∃ v,(∀x:bM w',(results fn a.tmps).run P (w'.ah x)=.ok v (w'.ah x))∧R (.returned v) w'
 | .panic chain,a,w=>∃ w',O6 a.defers w w'∧R (.panicked chain) w'
 | .outgrown,_,w=>R .outgrown w
 | _,_,_=>False
theorem agU {f:FuncId} {fn:Func} {c:Code} {args:Array Value} {R:Hq} (hf:P.funcs[f]? =some fn) (hb:fn.body=some c)
  (h:Wp none P c (zo P fn R) {tmps:=args++Array.replicate (fn.ntmps-args.size) undef,defers:=[]} w):Fn P f args w R:=λx=>by
 refine(callsIn_wide (n:=0)).1 (callsIn_of_wp_marks (F:=RF none) hf hb trivial (Code.pR (λe a' w' hq=>?_) (h x)))
 obtain⟨w0,hE,hq⟩:=hq
 cases e with
 | normal=>obtain⟨w1,hA,v,hr,hR⟩:=hq;exact qW (by simp) _ _ _ _ hA hE λW' Ko=>⟨v,hr ⟨W',Ko⟩,w1,Ko,hR⟩
 | ret=>obtain⟨w1,hA,v,hr,hR⟩:=hq;exact qW (by simp) _ _ _ _ hA hE λW' Ko=>⟨v,hr ⟨W',Ko⟩,w1,Ko,hR⟩
 | panic chain=>obtain⟨w1,hA,hR⟩:=hq;exact qW (by simp) _ _ _ _ hA hE λW' Ko=>⟨w1,Ko,hR⟩
 | outgrown=>exact⟨w0,hE,hq⟩
 | exit id=>exact hq
 | goto l=>exact hq
def Is {α:Type} (a b:α):Prop:=a=b
theorem Is.mk {α:Type} (a:α):Is a a:=rfl
inductive Eqn {α:Type}:α→ α→Prop
 | mk (a:α):Eqn a a
theorem Is.eq {α:Type} {a b:α} (h:Is a b):a=b:=h
def jW (t:Nat):List (Nat×Value)→Act→Value
 | [],A=>A.tmps.getD t undef
 | (d,v)::l,A=>if d=t then v else jW t l A
def kX:List (Nat×Value)→Array Value→Array Value
 | [],B=>B
 | (d,v)::l,B=>(kX l B).setIfInBounds d v
def fr (l:List (Nat×Value)) (A:Act):Act:={tmps:=kX l A.tmps,defers:=A.defers}
@[congr] theorem ajH (l:List (Nat×Value)) (A:Act):fr l A=fr l A:=rfl
@[simp] theorem Iz (B:Array Value):∀ l,(kX l B).size=B.size
 | []=>rfl
 | (d,v)::l=>by simp[kX,Iz B l]
theorem rD (A:Act) (t:Nat) (ht:t<A.tmps.size):∀ l,(kX l A.tmps).getD t undef=jW t l A
 | []=>rfl
 | (d,v)::l=>by
  unfold kX jW
  rw[←rD A t ht l]
  by_cases h:d=t
  ·subst h;simp[ht]
  ·simp[h]
theorem vY (l:List (Nat×Value)) (A:Act):(fr l A).tmps=kX l A.tmps:=rfl
theorem aa9 (l:List (Nat×Value)) (A:Act) (t:Array Value) (d:List Deferred) (h:A.tmps=t):({tmps:=kX l t,defers:=d}:Act)=fr l {tmps:=A.tmps,defers:=d}:=by rw[h];rfl
theorem eF (l:List (Nat×Value)) (A:Act):(fr l A).defers=A.defers:=rfl
@[go_sem ↓,simp ↓] theorem aec (l:List (Nat×Value)) (A:Act) (t:Nat) (ht:t<A.tmps.size):(fr l A).eval (.tmp t)=jW t l A:=rD A t ht l
@[go_sem ↓,simp ↓] theorem ajI (l:List (Nat×Value)) (A:Act) (v:Value):(fr l A).eval (.const v)=v:=rfl
@[go_sem ↓,simp ↓] theorem amL (l:List (Nat×Value)) (A:Act) (f:FuncId):(fr l A).eval (.func f)=.func (.func f) #[] #[]:=rfl
@[go_sem ↓,simp ↓] theorem abb (l:List (Nat×Value)) (A:Act) (t:Nat) (ht:t<A.tmps.size):(fr l A).tmps.getD t undef=jW t l A:=rD A t ht l
@[go_sem,simp] theorem amM (l:List (Nat×Value)) (A:Act) (t:Nat) (ht:t<A.tmps.size):((fr l A).tmps[t]?).getD undef=jW t l A:=by rw[←abb l A t ht,Array.getD_eq_getD_getElem?]
@[go_sem ↓,simp ↓] theorem aed (t:Nat) (v:Value) (l:List (Nat×Value)) (A:Act):jW t ((t,v)::l) A=v:=by simp[jW]
@[go_sem ↓,simp ↓] theorem ajJ (t d:Nat) (v:Value) (l:List (Nat×Value)) (A:Act) (h:d≠t):jW t ((d,v)::l) A=jW t l A:=by simp[jW,h]
@[congr] theorem ai5 (t:Nat) (l:List (Nat×Value)) (A:Act):jW t l A=jW t l A:=rfl
theorem lW (l:List (Nat×Value)) (A:Act) (d:Nat) (v:Value):(fr l A).put (some d) v=fr ((d,v)::l) A:=rfl
def ix:Nat→List Value→List (Nat×Value)
 | _,[]=>[]
 | k,v::vs=>(k,v)::ix (k+1) vs
theorem BR:∀ (vals pre:List Value) (m:Nat),(pre++(vals++List.replicate m undef)).toArray=kX (ix pre.length vals) (pre++(vals++List.replicate m undef)).toArray
 | [],pre,m=>by simp[ix,kX]
 | v::vs,pre,m=>by
  have ih:=BR vs (pre++[v]) m
  simp only[List.append_assoc,List.singleton_append,List.length_append,List.length_singleton]at ih
  simp only[ix,kX,List.cons_append]
  rw[←ih]
  simp
theorem ajK {f:FuncId} {fn:Func} {c:Code} {vals:List Value} {R:Hq} (hf:P.funcs[f]? =some fn) (hb:fn.body=some c) (hn:vals.length≤fn.ntmps)
  (h:∀ A:Act,A.defers=[]→A.tmps.size=fn.ntmps→Wp none P c (zo P fn R) (fr (ix 0 vals) A) w):Fn P f vals.toArray w R:=by
 refine agU hf hb ?_
 have h1:=BR vals [] (fn.ntmps-vals.length)
 simp only[List.nil_append,List.length_nil]at h1
 have h2:vals.toArray++Array.replicate (fn.ntmps-vals.toArray.size) undef=(vals++List.replicate (fn.ntmps-vals.length) undef).toArray:=by
  apply Array.ext';simp
 rw[h2]
 have h3:=h {tmps:=(vals++List.replicate (fn.ntmps-vals.length) undef).toArray,defers:=[]} rfl (by simp;omega)
 unfold fr at h3
 rw[←h1]at h3
 exact h3
theorem Fi {n:Nat} {f:FuncId} {fn:Func} {c:Code} {vals:List Value} {R:Hq} (hf:P.funcs[f]? =some fn) (h:∀ A:Act,A.defers=[]→A.tmps.size=n→Wp none P c (zo P fn R) (fr (ix 0 vals) A) w) (hb:fn.body=some c:=by rfl) (hn:vals.length≤fn.ntmps:=by exact Nat.le_of_ble_eq_true rfl) (hs:fn.ntmps=n:=by rfl):Fn P f vals.toArray w R:=ajK hf hb hn λA h1 h2=>h A h1 (h2.trans hs)
theorem aA {fn:Func} {R:Hq} {e:Exit} {t:Tmp} {v:Value} {l:List (Nat×Value)} {A:Act} (hd:A.defers=[]) (hR:R (.returned v) w) (hr:fn.results= #[.tmp t]:=by rfl) (he:e=.ret∨e=.normal:=by first|exact .inl rfl|exact .inr rfl)
  (hv:Is ((fr l A).tmps.getD t undef) v:=by go_simp;exact Is.mk _):zo P fn R e (fr l A) w:=by
 rcases he with rfl|rfl<;>exact⟨w,by rw[eF,hd];rfl,v,λx=>by rw[results_tmp hr,hv.eq],hR⟩
theorem dB {fn:Func} {R:Hq} {e:Exit} {t u:Tmp} {v v':Value} {l:List (Nat×Value)} {A:Act} (hd:A.defers=[]) (hR:R (.returned (.tuple #[v,v'])) w) (hr:fn.results= #[.tmp t,.tmp u]:=by rfl) (he:e=.ret∨e=.normal:=by first|exact .inl rfl|exact .inr rfl)
  (hv:Is ((fr l A).tmps.getD t undef) v:=by go_simp;exact Is.mk _) (FI:Is ((fr l A).tmps.getD u undef) v':=by go_simp;exact Is.mk _):zo P fn R e (fr l A) w:=by
 rcases he with rfl|rfl<;>exact⟨w,by rw[eF,hd];rfl,_,λx=>by rw[results_tmp2 hr,hv.eq,FI.eq],hR⟩
theorem Yy {fn:Func} {R:Hq} {e:Exit} {t u s:Tmp} {v v' v'':Value} {l:List (Nat×Value)} {A:Act} (hd:A.defers=[]) (hR:R (.returned (.tuple #[v,v',v''])) w) (hr:fn.results= #[.tmp t,.tmp u,.tmp s]:=by rfl) (he:e=.ret∨e=.normal:=by first|exact .inl rfl|exact .inr rfl)
  (hv:Is ((fr l A).tmps.getD t undef) v:=by go_simp;exact Is.mk _) (FI:Is ((fr l A).tmps.getD u undef) v':=by go_simp;exact Is.mk _) (anS:Is ((fr l A).tmps.getD s undef) v'':=by go_simp;exact Is.mk _):zo P fn R e (fr l A) w:=by
 rcases he with rfl|rfl<;>exact⟨w,by rw[eF,hd];rfl,.tuple #[v,v',v''],λx=>by simp[results,hr,←hv.eq,←FI.eq,←anS.eq],hR⟩
theorem iL {fn:Func} {R:Hq} {e:Exit} {l:List (Nat×Value)} {A:Act} (hd:A.defers=[]) (hR:R (.returned (.tuple #[])) w) (hr:fn.results= #[]:=by rfl) (he:e=.ret∨e=.normal:=by first|exact .inl rfl|exact .inr rfl):zo P fn R e (fr l A) w:=by
 rcases he with rfl|rfl<;>exact⟨w,by rw[eF,hd];rfl,_,λx=>results_none hr _ _ _,hR⟩
theorem rE {c:Operand} {d e:Code} {t:Bool} {l:List (Nat×Value)} {A:Act} (ht:t=true→Wp ρ P d Q (fr l A) w) (hf:t=false→Wp ρ P e Q (fr l A) w) (hc:Is ((fr l A).eval c) (.bool t):=by go_simp;exact Is.mk _):Wp ρ P (.cond c d e) Q (fr l A) w:=
 agS hc.eq ht hf
theorem bH {c:Operand} {d e:Code} {l:List (Nat×Value)} {A:Act} (ht:Wp ρ P d Q (fr l A) w) (hc:Is ((fr l A).eval c) (.bool true):=by go_simp;exact Is.mk _):Wp ρ P (.cond c d e) Q (fr l A) w:=
 anR hc.eq ht
theorem bJ {c:Operand} {d e:Code} {l:List (Nat×Value)} {A:Act} (ht:Wp ρ P e Q (fr l A) w) (hc:Is ((fr l A).eval c) (.bool false):=by go_simp;exact Is.mk _):Wp ρ P (.cond c d e) Q (fr l A) w:=
 agT hc.eq ht
theorem dJ {c:Code} {l:List (Nat×Value)} {A:Act} {N:Nat} {ds:List Deferred} (ss:List Nat) (I:Nat→List Value→World→Prop) (n:Nat) (hd:A.defers=ds) (hA:A.tmps.size=N) (hs:∀ s∈ss,s<N) (h0:I n (ss.map λs=>jW s l A) w)
  (round:∀ (n:Nat) (vs:List Value) (B:Act) (w:World),B.defers=ds→B.tmps.size=N→vs.length=ss.length→I n vs w→
   Wp ρ P c (Exit.then (λa' w'=>∃ (l':List (Nat×Value)) (B':Act),a'=fr l' B'∧B'.defers=ds∧B'.tmps.size=N∧∃ m,m<n∧I m (ss.map λs=>jW s l' B') w') Q) (fr (ss.zip vs) B) w):Wp ρ P (.loop c) Q (fr l A) w:=by
 subst hA
 refine aa8 (λn a w=>a.defers=ds∧a.tmps.size=A.tmps.size∧I n (ss.map λs=>a.tmps.getD s undef) w) n ⟨hd,by simp[fr],?_⟩ ?_
 ·have:(ss.map λs=>(fr l A).tmps.getD s undef)=ss.map λs=>jW s l A:=List.map_congr_left λs zq=>rD A s (hs s zq) l
  rw[this];exact h0
 ·intro n a w hI
  obtain⟨had,has,hI⟩:=hI
  have hr:=round n (ss.map λs=>a.tmps.getD s undef) a w had has (by simp) hI
  have Kq:fr (ss.zip (ss.map λs=>a.tmps.getD s undef)) a=a:=by
   obtain⟨tm,de⟩:=a
   unfold fr
   simp only
   congr 1
   clear hI hr round h0 hs
   induction ss with
   | nil=>rfl
   | cons s ss ih=>
    simp only[List.map_cons,List.zip_cons_cons,kX]
    rw[ih]
    apply Array.ext
    ·simp
    ·intro i h1 h2
     rw[Array.getElem_setIfInBounds]
     split
     ·rename_i e;subst e;simp[h2]
     ·rfl
  rw[Kq]at hr
  refine U0 hr ?_
  intro e a' w' hQ
  cases e with
  | normal=>
   obtain⟨l',B',rfl,hd',zq,m,hm,hI'⟩:=hQ
   refine⟨m,hm,hd',by simp[fr,zq],?_⟩
   have:(ss.map λs=>(fr l' B').tmps.getD s undef)=ss.map λs=>jW s l' B':=List.map_congr_left λs anT=>rD B' s (by rw[zq];exact hs s anT) l'
   rw[this];exact hI'
  | _=>exact hQ
def gv (g:Bool) (v:Value):Value:=match g with|true=>v|false=>undef
def gw (v:Value) (want:Bool):Bool:=match v with|.bool b=>b==want|_=>false
@[simp,go_sem] theorem amN (v:Value):gv true v=v:=rfl
@[simp,go_sem] theorem ajL (v:Value):gv false v=undef:=rfl
@[simp,go_sem] theorem amO (b:Bool):gw (.bool b) true=b:=by cases b<;>rfl
@[simp,go_sem] theorem ajM (b:Bool):gw (.bool b) false= !b:=by cases b<;>rfl
@[simp,go_sem] theorem ajN (b:Bool):gw undef b=false:=rfl
@[simp,go_sem] theorem ara (g:Bool) (v:Value) (b:Bool):gw (gv g v) b=(g&&gw v b):=by cases g<;>rfl
@[simp,go_sem] theorem amP (x y:Bool):(if x=true then Value.bool true else gv (!x) (.bool y))=.bool (x||y):=by cases x<;>rfl
@[simp,go_sem] theorem ajO (x y:Bool):(if x=true then gv x (.bool y) else Value.bool false)=.bool (x&&y):=by cases x<;>rfl
theorem jA {ops:Array Oper} {o:Oper} {j t:Nat} {want:Bool} (hg:o.guard=some (j,want)) (ht:(ops[j]?).bind (·.dst)=some t) (tmps:Array Value):
  Region.wanted o (yielded ops tmps)=gw (tmps.getD t undef) want:=by
 unfold Region.wanted yielded
 simp only[hg,ht,Option.bind_some]
 rw[Array.getD_eq_getD_getElem?]
 cases tmps[t]? with
 | none=>rfl
 | some v=>cases v<;>simp[gw]
def WZ (o:Oper):Nat:=
 match o.op with
 | .move _|.assign _|.pick ..| .load ..| .nilCheck _|.binOp ..| .unOp ..| .convert ..| .fieldAddr ..| .field ..| .indexAddr ..| .index ..| .extract ..| .slice ..| .build ..| .lookup ..| .entry _
 | .typeAssert ..| .makeInterface ..| .makeFunc .. =>0
 | .alloc _|.box ..| .buildSlice ..| .makeMap ..| .makeSlice ..| .range .. =>1
 | .call {callee:=.builtin .len,..}|.call {callee:=.builtin .cap,..}|.call {callee:=.builtin .min,..}|.call {callee:=.builtin .max,..}=>0
 | _=>2
abbrev tag (o:Oper):Oper×Nat:=(o,WZ o)
def jh (P:Program) (ops:Array Oper) (Q:jo):List (Oper×Nat)→Act→World→Prop
 | [],a,w=>Q .normal a w
 | (o,0)::rest,a,w=>∃ v,jC P ops o v a w∧jh P ops Q rest (a.put o.dst v) w
 | (o,1)::rest,a,w=>∀ x:bM w,if Region.wanted o (yielded ops a.tmps)=true
   then Bz P o a (w.ah x) (λa' w'=>aB (w.ah x) w'∧∃ w0,aB w0 w'∧jh P ops Q rest a' w0) (λ_ _ _=>False)
   else ∃w0,aB w0 (w.ah x)∧jh P ops Q rest (a.put o.dst undef) w0
 | (o,_)::rest,a,w=>∀ x:bM w,if Region.wanted o (yielded ops a.tmps)=true
   then Bz P o a (w.ah x) (λa' w'=>∃ w0,aB w0 w'∧jh P ops Q rest a' w0) (QJ Q)
   else ∃w0,aB w0 (w.ah x)∧jh P ops Q rest (a.put o.dst undef) w0
theorem jC.wp {ops:Array Oper} {o:Oper} {v:Value} (hy:jC P ops o v a w) {K:Act→World→Prop} {Q':jo} (x:bM w)
  (h:∀ w',aB w w'→K (a.put o.dst v) w'):
  if Region.wanted o (yielded ops a.tmps)=true then Bz P o a (w.ah x) K Q' else K (a.put o.dst undef) (w.ah x):=by
 rcases hy with⟨hw,hv⟩|⟨hw,rfl⟩
 ·simp only[hw,if_true]
  have h3:=hv x
  unfold Oper.quietAt at h3
  unfold Bz
  generalize (execOp a.eval o).run P (w.ah x)=r at *
  cases r with
  | ok n w'=>
   cases n<;>simp only[Oper.quietUpon]at h3<;>simp only[nH]
   case value u=>obtain⟨e1,e2⟩:=h3;rw[e1,e2];exact h _ x.2
   case skip=>obtain⟨e1,e2⟩:=h3;rw[e1,←e2];exact h _ x.2
   case enter f args=>
    obtain⟨e1,hc⟩:=h3
    rw[e1]
    exact hc.mono λe w'' ⟨he,aiA⟩=>by subst he;exact h _ (Et x.2 aiA)
  | halt x w'=>simp only[Oper.quietUpon]at h3
 ·simp only[hw,Bool.false_eq_true,if_false];exact h _ x.2
theorem oh {ops:Array Oper}:∀ (l:List (Oper×Nat)),(ρ=none∨∀ p∈l,vW p.1=true)→∀ (a:Act) (w w1:World),aB w w1→jh P ops Q l a w→wpListIn (RF ρ) 0 P ops (QJ Q) (l.map (·.1)) a w1
 | [],_,a,w,w1,hE,h=>⟨w,hE,h⟩
 | (o,0)::rest,hn,a,w,w1,hE,h=>by
  obtain⟨v,hy,hr⟩:=h
  have:=hy.wp (K:=wpListIn (RF ρ) 0 P ops (QJ Q) (rest.map (·.1))) (Q':=QJ Q) ⟨w1,hE⟩ (λw' yI=>oh rest (hn.imp id λh p hp=>h p (by simp[hp])) _ _ _ yI hr)
  simp only[List.map_cons,wpListIn]
  split
  ·rename_i hw;rw[if_pos hw]at this;exact wH (hn.imp id λh=>h (o,0) (by simp)) this
  ·rename_i hw;rw[if_neg hw]at this;exact⟨λ_ _=>trivial,this⟩
 | (o,1)::rest,hn,a,w,w1,hE,h=>by
  have:=h ⟨w1,hE⟩
  simp only[List.map_cons,wpListIn]
  split
  ·rename_i hw;rw[if_pos hw]at this
   exact wH (hn.imp id λh=>h (o,1) (by simp)) (this.mono (λa' w' ⟨_,w0,ny,h0⟩=>oh rest (hn.imp id λh p hp=>h p (by simp[hp])) _ _ _ ny h0) (λ_ _ _ h=>h.elim))
  ·rename_i hw;rw[if_neg hw]at this
   obtain⟨w0,ny,h0⟩:=this
   exact⟨λ_ _=>trivial,oh rest (hn.imp id λh p hp=>h p (by simp[hp])) _ _ _ ny h0⟩
 | (o,k+2)::rest,hn,a,w,w1,hE,h=>by
  have:=h ⟨w1,hE⟩
  simp only[List.map_cons,wpListIn]
  split
  ·rename_i hw;rw[if_pos hw]at this
   exact wH (hn.imp id λh=>h (o,k+2) (by simp)) (this.mono (λa' w' ⟨w0,ny,h0⟩=>oh rest (hn.imp id λh p hp=>h p (by simp[hp])) _ _ _ ny h0) (λ_ _ _ h=>h))
  ·rename_i hw;rw[if_neg hw]at this
   obtain⟨w0,ny,h0⟩:=this
   exact⟨λ_ _=>trivial,oh rest (hn.imp id λh p hp=>h p (by simp[hp])) _ _ _ ny h0⟩
def Xa (Q:jo):jo
 | .normal,a,w=>Q .normal a w
 | _,_,_=>False
theorem Xw {Q:jo} (e:Exit) (a:Act) (w:World) (h:QJ (Xa Q) e a w):QJ Q e a w:=by
 obtain⟨w0,hE,h⟩:=h
 cases e with
 | normal=>exact⟨w0,hE,h⟩
 | _=>exact h.elim
theorem lN {ops:Array Oper}:∀ (l:List (Oper×Nat)) (σ:List (Nat×Nat)) (a:Act) (w:World),(∀p∈l.zip σ,ops[p.2.1]? =some p.1.1∧p.1.2=p.2.2)→l.length=σ.length→jh P ops (Xa Q) l a w→D9 P ops (QJ (Xa Q)) σ a w
 | [],[],a,w,_,_,h=>λx=>⟨w,x.2,h⟩
 | [],_::_,_,_,_,hl,_=>by cases hl
 | _::_,[],_,_,_,hl,_=>by cases hl
 | (o,k)::rest,(i,k')::σ,a,w,hz,hl,h=>by
  have h0:=hz ((o,k),(i,k')) (by simp)
  obtain⟨ho,rfl⟩:ops[i]? =some o∧k=k':=h0
  have Jm:∀ p∈rest.zip σ,ops[p.2.1]? =some p.1.1∧p.1.2=p.2.2:=λp hp=>hz p (by simp[hp])
  have zF:rest.length=σ.length:=by simpa using hl
  match k with
  | 0=>
   obtain⟨v,hy,hr⟩:=h
   exact⟨v,o,ho,hy,lN rest σ _ _ Jm zF hr⟩
  | 1=>
   intro x
   have:=h x
   unfold fQ
   simp only[ho]
   split
   ·rename_i hw;rw[if_pos hw]at this
    exact this.mono (λa' w' ⟨h1,w0,ny,h0⟩=>⟨h1,(lN rest σ _ _ Jm zF h0).ah ny⟩) (λ_ _ _ h=>h)
   ·rename_i hw;rw[if_neg hw]at this
    obtain⟨w0,ny,h0⟩:=this
    exact⟨aB.refl _,(lN rest σ _ _ Jm zF h0).ah ny⟩
  | k+2=>
   intro x
   have:=h x
   unfold fQ
   simp only[ho]
   split
   ·rename_i hw;rw[if_pos hw]at this
    exact this.mono (λa' w' ⟨w0,ny,h0⟩=>(lN rest σ _ _ Jm zF h0).ah ny) (λ_ _ _ ⟨_,_,h⟩=>h)
   ·rename_i hw;rw[if_neg hw]at this
    obtain⟨w0,ny,h0⟩:=this
    exact(lN rest σ _ _ Jm zF h0).ah ny
theorem aj {rid:Nat} {l:List Oper} (h:jh P l.toArray Q (l.map tag) a w) (hnd:BQ ρ l:=by first|exact .inl rfl|exact .inr (by kernel_rfl)):Wp ρ P (.region rid l.toArray false) Q a w:=λx=>by
 have:=oh (ρ:=ρ) _ (hnd.imp id λh p hp=>by
  obtain⟨o,ho,rfl⟩:=List.mem_map.1 hp
  exact List.all_eq_true.1 h o ho) _ _ _ x.2 h
 simp only[List.map_map]at this
 rw[show (λx:Oper×Nat=>x.fst)∘tag=id from rfl,List.map_id]at this
 exact wpIn_region_lit this
def aee (l:List Oper):List (Nat×Nat):=l.zipIdx.map λp=>(p.2,WZ p.1)
theorem Xx {ops:Array Oper}:∀ (l:List Oper) (n:Nat),(∀j,l[j]? =ops[n+j]?)→∀ p∈(l.map tag).zip ((l.zipIdx n).map λp=>(p.2,WZ p.1)),ops[p.2.1]? =some p.1.1∧p.1.2=p.2.2
 | [],_,_,p,hp=>by simp at hp
 | o::l,n,h,p,hp=>by
  simp only[List.map_cons,List.zipIdx_cons,List.zip_cons_cons,List.mem_cons]at hp
  rcases hp with rfl|hp
  ·exact⟨by have:=h 0;simpa using this.symm,rfl⟩
  ·exact Xx l (n+1) (λj=>by have:=h (j+1);simp only[List.getElem?_cons_succ]at this;rw[this];congr 1;omega) p hp
theorem dA {id:Nat} {l:List Oper} (hm:P.follows .mixedOrders=true) (hB:QW .any l.toArray (aee l)=true) (h:jh P l.toArray (Xa Q) (l.map tag) a w) (hnd:BQ ρ l:=by first|exact .inl rfl|exact .inr (by kernel_rfl)):Wp ρ P (.region id l.toArray true) Q a w:=λx=>by
 refine Code.pR Xw (Ea (aee l) hnd hm hB ?_)
 exact(lN (l.map tag) (aee l) a w (Xx l 0 (by simp)) (by simp[aee]) h).ah x.2
theorem dn {id:Nat} {l:List Oper} (σ:List (Nat×Nat)) (hm:P.follows .mixedOrders=true) (hB:QW .any l.toArray σ=true)
  (h:jh P l.toArray (Xa Q) (σ.map λp=>(l.getD p.1 default,p.2)) a w) (hnd:BQ ρ l:=by first|exact .inl rfl|exact .inr (by kernel_rfl)):Wp ρ P (.region id l.toArray true) Q a w:=λx=>by
 refine Code.pR Xw (Ea σ hnd hm hB ?_)
 refine(lN _ σ a w ?_ (by simp) h).ah x.2
 have hlt:∀ (σ:List (Nat×Nat)) (listed:Array Bool),Pz .any l.toArray σ listed=true→∀ p∈σ,p.1<l.toArray.size:=by
  intro σ
  induction σ with
  | nil=>intro _ _ p hp;cases hp
  | cons q rest ih=>
   intro listed hB p hp
   obtain⟨i,k⟩:=q
   simp only[Pz,Bool.and_eq_true]at hB
   rcases List.mem_cons.1 hp with rfl|hp
   ·have hr:i∈Region.ready .any l.toArray listed:=by
     match k with
     | 0=>have h1:=hB.1;simp only[Bool.and_eq_true]at h1;simpa using h1.1
     | k+1=>have:=hB.1;simp only[decide_eq_true_eq]at this;rw[this];simp
    obtain⟨_,o,ho,_⟩:=mem_ready.1 hr
    exact(Array.getElem?_eq_some_iff.1 ho).1
   ·exact ih _ hB.2 p hp
 simp only[QW,Bool.and_eq_true]at hB
 have afv:=hlt σ _ hB.2
 intro p hp
 have:∀ (τ:List (Nat×Nat)),(∀q∈τ,q.1<l.toArray.size)→p∈(τ.map λq=>(l.getD q.1 default,q.2)).zip τ→l.toArray[p.2.1]? =some p.1.1∧p.1.2=p.2.2:=by
  intro τ
  induction τ with
  | nil=>intro _ h;simp at h
  | cons q τ ih=>
   intro hq h
   simp only[List.map_cons,List.zip_cons_cons,List.mem_cons]at h
   rcases h with rfl|h
   ·have:=hq q (by simp)
    simp only[List.size_toArray]at this
    refine⟨?_,rfl⟩
    simp[this]
   ·exact ih (λr hr=>hq r (by simp[hr])) h
 exact this σ afv hp
def alM (ops:Array Oper) (o:Oper):Bool:=
 ops.toList.any λo'=>match o'.guard with|some (j,_)=>(match ops[j]? with|some oj=>o.dst.isSome&&oj.dst==o.dst|none=>false)|none=>false
variable {ops : Array Oper} {o : Oper} {l : List Oper}
theorem au (h:Q .normal a w):jh P ops Q [] a w:=h
theorem aQ (h:Q .normal a w):jh P ops (Xa Q) [] a w:=h
variable {A : Act} {fl : List (Nat × Value)}
theorem aF {rest:List (Oper×Nat)} {v:Value} {d:Nat} (h:jh P ops Q rest (fr ((d,v)::fl) A) w) (hd:o.dst=some d:=by rfl) (hg:o.guard=none:=by rfl)
  (hv:∀ x:bM w,o.quietAt P (fr fl A) (aB (w.ah x)) (w.ah x) v:=by intro x;go_simp;(try go_bits);exact rfl):jh P ops Q ((o,0)::rest) (fr fl A) w:=
 ⟨v,.inl ⟨by simp[Region.wanted,hg],hv⟩,by rw[hd];exact h⟩
theorem mg {rest:List (Oper×Nat)} {v:Value} {d:Nat} {j t:Nat} {want g:Bool} (h:jh P ops Q rest (fr ((d,gv g v)::fl) A) w) (hd:o.dst=some d:=by rfl) (hg:o.guard=some (j,want):=by rfl) (ht:(ops[j]?).bind (·.dst)=some t:=by rfl)
  (rM:Is (gw ((fr fl A).tmps.getD t undef) want) g:=by go_simp;exact Is.mk _)
  (hv:g=true→∀ x:bM w,o.quietAt P (fr fl A) (aB (w.ah x)) (w.ah x) v:=by intro hb x;(try simp only[Bool.and_eq_true,Bool.not_eq_true',Bool.or_eq_true,Bool.or_eq_false_iff]at hb);go_simp;(try go_bits);exact rfl):jh P ops Q ((o,0)::rest) (fr fl A) w:=by
 refine⟨gv g v,?_,by rw[hd];exact h⟩
 cases hc:g with
 | true=>exact .inl ⟨by rw[jA hg ht,rM.eq,hc],hv hc⟩
 | false=>exact .inr ⟨by rw[jA hg ht,rM.eq,hc],rfl⟩
theorem jF {rest:List (Oper×Nat)} {d:Nat} {j t m:Nat} {want:Bool} (h:jh P ops Q rest (fr ((d,undef)::fl) A) w) (hd:o.dst=some d:=by rfl) (hg:o.guard=some (j,want):=by rfl) (ht:(ops[j]?).bind (·.dst)=some t:=by rfl)
  (rM:Is (gw ((fr fl A).tmps.getD t undef) want) false:=by go_simp;exact Is.mk _) (hm:m=0:=by rfl):jh P ops Q ((o,m)::rest) (fr fl A) w:=by
 subst hm
 exact⟨undef,.inr ⟨by rw[jA hg ht,rM.eq],rfl⟩,by rw[hd];exact h⟩
theorem X_d {rest:List (Oper×Nat)} {e:Bool} {s d:Nat} (h:∀ b,Eqn b e→jh P ops Q rest (fr ((d,.bool b)::fl) A) w) (yL:o.op=.move (.tmp s):=by rfl) (hd:o.dst=some d:=by rfl) (hg:o.guard=none:=by rfl) (hdf:alM ops o=true:=by rfl)
  (hv:Is ((fr fl A).eval (.tmp s)) (.bool e):=by go_simp;exact Is.mk _):jh P ops Q ((o,0)::rest) (fr fl A) w:=
 ⟨.bool e,.inl ⟨by simp[Region.wanted,hg],λx=>by
  have:=hv.eq
  simp only[Oper.quietAt,execOp,yL,Sem.run_pure,Oper.quietUpon]
  exact⟨trivial,this⟩⟩,by rw[hd];exact h e (.mk e)⟩
theorem anU {rest:List (Oper×Nat)} {e:Bool} {s d:Nat} {j t:Nat} {want g:Bool} (h:∀ b,Eqn b e→jh P ops Q rest (fr ((d,gv g (.bool b))::fl) A) w) (yL:o.op=.move (.tmp s):=by rfl) (hd:o.dst=some d:=by rfl)
  (hg:o.guard=some (j,want):=by rfl) (ht:(ops[j]?).bind (·.dst)=some t:=by rfl) (hdf:alM ops o=true:=by rfl)
  (rM:Is (gw ((fr fl A).tmps.getD t undef) want) g:=by go_simp;exact Is.mk _)
  (hv:Is ((fr fl A).eval (.tmp s)) (gv g (.bool e)):=by go_simp;exact Is.mk _):jh P ops Q ((o,0)::rest) (fr fl A) w:=by
 refine⟨gv g (.bool e),?_,by rw[hd];exact h e (.mk e)⟩
 cases hc:g with
 | true=>
  have hv:=hv.eq
  rw[hc]at hv
  refine .inl ⟨by rw[jA hg ht,rM.eq,hc],λx=>?_⟩
  simp only[Oper.quietAt,execOp,yL,Sem.run_pure,Oper.quietUpon]
  exact⟨trivial,hv⟩
 | false=>exact .inr ⟨by rw[jA hg ht,rM.eq,hc],rfl⟩
def Q5 (K:Value→World→Prop):Result Next→Prop
 | .ok (.value v) w'=>K v w'
 | .ok .skip w'=>K undef w'
 | _=>False
@[go_sem] theorem afY (K:Value→World→Prop) (v:Value) (w':World):Q5 K (.ok (.value v) w')=K v w':=rfl
@[go_sem] theorem agV (K:Value→World→Prop) (w':World):Q5 K (.ok .skip w')=K undef w':=rfl
@[go_sem] def uQ (P:Program) (o:Oper) (a:Act) (w:World) (K:Value→World→Prop):Prop:=Q5 K ((execOp a.eval o).run P w)
theorem rF {K:Value→World→Prop} {K':Act→World→Prop} {Q':jo} (h:uQ P o a w K) (hk:∀ v w',K v w'→K' (a.put o.dst v) w'):Bz P o a w K' Q':=by
 unfold uQ at h
 unfold Bz
 generalize (execOp a.eval o).run P w=r at *
 cases r with
 | ok n w'=>cases n<;>simp only[Q5]at h<;>simp only[nH]<;>exact hk _ _ h
 | halt x w'=>simp only[Q5]at h
theorem dI {rest:List (Oper×Nat)} {d:Nat} (h:∀ (x:bM w) (K:Value→World→Prop),(∀v w',aB (w.ah x) w'→jh P ops Q rest (fr ((d,v)::fl) A) w'→K v w')→uQ P o (fr fl A) (w.ah x) K) (hd:o.dst=some d:=by rfl) (hg:o.guard=none:=by rfl):
  jh P ops Q ((o,1)::rest) (fr fl A) w:=λx=>by
 rw[if_pos (by simp[Region.wanted,hg])]
 exact rF (h x (λv w'=>aB (w.ah x) w'∧jh P ops Q rest (fr ((d,v)::fl) A) w') λv w' hE h=>⟨hE,h⟩) λv w' hk=>⟨hk.1,w',aB.refl _,by rw[hd];exact hk.2⟩
theorem X_w {rest:List (Oper×Nat)} (h:∀ (x:bM w) (K:Value→World→Prop),(∀v w',jh P ops Q rest (fr fl A) w'→K v w')→uQ P o (fr fl A) (w.ah x) K) (hd:o.dst=none:=by rfl) (hg:o.guard=none:=by rfl):
  jh P ops Q ((o,2)::rest) (fr fl A) w:=λx=>by
 rw[if_pos (by simp[Region.wanted,hg])]
 exact rF (h x (λv w'=>jh P ops Q rest (fr fl A) w') λv w' h=>h) λv w' hk=>⟨w',aB.refl _,by rw[hd];exact hk⟩
theorem X_v {rest:List (Oper×Nat)} {d:Nat} (h:∀ (x:bM w) (K:Value→World→Prop),(∀v w',jh P ops Q rest (fr ((d,v)::fl) A) w'→K v w')→uQ P o (fr fl A) (w.ah x) K) (hd:o.dst=some d:=by rfl) (hg:o.guard=none:=by rfl):
  jh P ops Q ((o,2)::rest) (fr fl A) w:=λx=>by
 rw[if_pos (by simp[Region.wanted,hg])]
 exact rF (h x (λv w'=>jh P ops Q rest (fr ((d,v)::fl) A) w') λv w' h=>h) λv w' hk=>⟨w',aB.refl _,by rw[hd];exact hk⟩
def iC (fn : Func) : Bool := fn.name != "runtime.NumGoroutine" && fn.body.isSome
theorem o9 {f:FuncId} {fn:Func} (hf:P.funcs[f]? =some fn) (hn:iC fn=true) {la:List Operand} {ats:Array TypeId} (yL:o.op=.call {callee:=.value (.func f),args:=la.toArray,argTypes:=ats}) (w:World):
  (execOp a.eval o).run P w=.ok (.enter f (la.map a.eval).toArray) w:=by
 obtain⟨dst,op,type,pos,after,guard⟩:=o
 simp only at yL
 subst yL
 simp only[iC,Bool.and_eq_true]at hn
 have h1 : (fn.name == "runtime.NumGoroutine") = false := by have := hn.1; simpa [bne] using this
 have h2:fn.body.isNone=false:=by cases hb:fn.body<;>simp_all
 rw[execOp_call_go]
 unfold callFunc
 simp only[program,Sem.run_bind,Sem.run,hf,h1,h2,Result.andThen_ok,Bool.false_eq_true,if_false,Sem.run_pure,List.map_toArray,Array.empty_append,Array.append_empty]
theorem agX {rest:List (Oper×Nat)} {f:FuncId} {fn:Func} {la:List Operand} {ats:Array TypeId} {lv yO:List Value} {R:Value→World→Prop} (hf:P.funcs[f]? =some fn)
  (hc:gK P f lv.toArray w R) (h:∀ v w',R v w'→jh P ops Q rest ((fr fl A).put o.dst v) w') (yL:o.op=.call {callee:=.value (.func f),args:=la.toArray,argTypes:=ats}:=by rfl) (hn:iC fn=true:=by kernel_rfl)
  (hg:o.guard=none:=by rfl) (mW:Is (la.map (fr fl A).eval) yO:=by go_simp;exact Is.mk _) (hlv:yO=lv:=by rfl):jh P ops Q ((o,2)::rest) (fr fl A) w:=by
 intro x
 rw[if_pos (by simp[Region.wanted,hg])]
 unfold Bz
 rw[o9 hf hn yL,mW.eq,hlv]
 simp only[nH]
 refine Calls.mono (hc x) λe w' hR=>?_
 obtain⟨w0,hE,hR⟩:=hR
 cases e with
 | returned v=>exact⟨w0,hE,h v w0 hR⟩
 | panicked c=>exact hR.elim
 | outgrown=>exact hR.elim
theorem aX {rest:List (Oper×Nat)} {f:FuncId} {fn:Func} {la:List Operand} {ats:Array TypeId} {lv yO:List Value} {R:Value→World→Prop} {d:Nat} (hf:P.funcs[f]? =some fn)
  (hc:gK P f lv.toArray w R) (h:∀ v w',R v w'→jh P ops Q rest (fr ((d,v)::fl) A) w') (hd:o.dst=some d:=by rfl) (yL:o.op=.call {callee:=.value (.func f),args:=la.toArray,argTypes:=ats}:=by rfl) (hn:iC fn=true:=by kernel_rfl)
  (hg:o.guard=none:=by rfl) (mW:Is (la.map (fr fl A).eval) yO:=by go_simp;exact Is.mk _) (hlv:yO=lv:=by rfl):jh P ops Q ((o,2)::rest) (fr fl A) w:=
 agX hf hc (λv w' hR=>by rw[hd,lW];exact h v w' hR) yL hn hg mW hlv
theorem aN {rest:List (Oper×Nat)} {f:FuncId} {fn:Func} {la:List Operand} {ats:Array TypeId} {lv yO:List Value} {v:Value} {d:Nat} (hf:P.funcs[f]? =some fn)
  (hc:Pure P f lv.toArray w v) (h:jh P ops Q rest (fr ((d,v)::fl) A) w) (hd:o.dst=some d:=by rfl) (yL:o.op=.call {callee:=.value (.func f),args:=la.toArray,argTypes:=ats}:=by rfl) (hn:iC fn=true:=by kernel_rfl)
  (hg:o.guard=none:=by rfl) (mW:Is (la.map (fr fl A).eval) yO:=by go_simp;exact Is.mk _) (hlv:yO=lv:=by rfl):jh P ops Q ((o,2)::rest) (fr fl A) w:=by
 intro x
 rw[if_pos (by simp[Region.wanted,hg])]
 unfold Bz
 rw[o9 hf hn yL,mW.eq,hlv]
 simp only[nH]
 refine Calls.mono (hc x) λe w' hR=>?_
 obtain⟨w0,hE,hR⟩:=hR
 cases e with
 | returned v'=>obtain⟨rfl,ny⟩:=hR;exact⟨w,Et ny hE,by rw[hd];exact h⟩
 | panicked c=>exact hR.elim
 | outgrown=>exact hR.elim
theorem fU {rest:List (Oper×Nat)} {f:FuncId} {fn:Func} {la:List Operand} {ats:Array TypeId} {lv yO:List Value} {v:Value} {d:Nat} {j t:Nat} {want g:Bool} (hf:P.funcs[f]? =some fn)
  (hc:g=true→Pure P f lv.toArray w v) (h:jh P ops Q rest (fr ((d,gv g v)::fl) A) w) (hd:o.dst=some d:=by rfl) (yL:o.op=.call {callee:=.value (.func f),args:=la.toArray,argTypes:=ats}:=by rfl) (hn:iC fn=true:=by kernel_rfl)
  (hg:o.guard=some (j,want):=by rfl) (ht:(ops[j]?).bind (·.dst)=some t:=by rfl)
  (rM:Is (gw ((fr fl A).tmps.getD t undef) want) g:=by go_simp;exact Is.mk _)
  (mW:g=true→Is (la.map (fr fl A).eval) yO:=by intro hb;(try simp only[Bool.and_eq_true,Bool.not_eq_true',Bool.or_eq_true,Bool.or_eq_false_iff]at hb);go_simp;exact Is.mk _) (hlv:yO=lv:=by rfl):jh P ops Q ((o,2)::rest) (fr fl A) w:=by
 intro x
 rw[jA hg ht,rM.eq]
 cases hgb:g with
 | true=>
  simp only[if_true]
  unfold Bz
  rw[o9 hf hn yL,(mW hgb).eq,hlv]
  simp only[nH]
  refine Calls.mono (hc hgb x) λe w' hR=>?_
  obtain⟨w0,hE,hR⟩:=hR
  cases e with
  | returned v'=>obtain⟨rfl,ny⟩:=hR;rw[hgb]at h;exact⟨w,Et ny hE,by rw[hd];exact h⟩
  | panicked c=>exact hR.elim
  | outgrown=>exact hR.elim
 | false=>
  simp only[Bool.false_eq_true,if_false]
  rw[hgb]at h
  exact⟨w,x.2,by rw[hd];exact h⟩
theorem dN {rest:List (Oper×Nat)} {f:FuncId} {fn:Func} {la:List Operand} {ats:Array TypeId} {lv yO:List Value} {v:Value} {d:Nat} (hf:P.funcs[f]? =some fn)
  (hc:∀ x:bM w,Pure P f lv.toArray (w.ah x) v) (h:jh P ops Q rest (fr ((d,v)::fl) A) w) (hd:o.dst=some d:=by rfl) (yL:o.op=.call {callee:=.value (.func f),args:=la.toArray,argTypes:=ats}:=by rfl) (hn:iC fn=true:=by kernel_rfl)
  (hg:o.guard=none:=by rfl) (mW:Is (la.map (fr fl A).eval) yO:=by go_simp;exact Is.mk _) (hlv:yO=lv:=by rfl):jh P ops Q ((o,1)::rest) (fr fl A) w:=by
 intro x
 rw[if_pos (by simp[Region.wanted,hg])]
 unfold Bz
 rw[o9 hf hn yL,mW.eq,hlv]
 simp only[nH]
 refine Calls.mono (Fn.Dj (hc x)) λe w' hR=>?_
 obtain⟨w0,hE,hR⟩:=hR
 cases e with
 | returned v'=>obtain⟨rfl,ny⟩:=hR;exact⟨Et ny hE,w,Et x.2 (Et ny hE),by rw[hd];exact h⟩
 | panicked c=>exact hR.elim
 | outgrown=>exact hR.elim
theorem abd {rest:List (Oper×Nat)} {f:FuncId} {fn:Func} {la:List Operand} {ats:Array TypeId} {lv yO:List Value} {v:Value} {d:Nat} {j t:Nat} {want g:Bool} (hf:P.funcs[f]? =some fn)
  (hc:g=true→∀ x:bM w,Pure P f lv.toArray (w.ah x) v) (h:jh P ops Q rest (fr ((d,gv g v)::fl) A) w) (hd:o.dst=some d:=by rfl) (yL:o.op=.call {callee:=.value (.func f),args:=la.toArray,argTypes:=ats}:=by rfl) (hn:iC fn=true:=by kernel_rfl)
  (hg:o.guard=some (j,want):=by rfl) (ht:(ops[j]?).bind (·.dst)=some t:=by rfl)
  (rM:Is (gw ((fr fl A).tmps.getD t undef) want) g:=by go_simp;exact Is.mk _)
  (mW:g=true→Is (la.map (fr fl A).eval) yO:=by intro hb;(try simp only[Bool.and_eq_true,Bool.not_eq_true',Bool.or_eq_true,Bool.or_eq_false_iff]at hb);go_simp;exact Is.mk _) (hlv:yO=lv:=by rfl):jh P ops Q ((o,1)::rest) (fr fl A) w:=by
 intro x
 rw[jA hg ht,rM.eq]
 cases hgb:g with
 | true=>
  simp only[if_true]
  unfold Bz
  rw[o9 hf hn yL,(mW hgb).eq,hlv]
  simp only[nH]
  refine Calls.mono (Fn.Dj (hc hgb x)) λe w' hR=>?_
  obtain⟨w0,hE,hR⟩:=hR
  cases e with
  | returned v'=>obtain⟨rfl,ny⟩:=hR;rw[hgb]at h;exact⟨Et ny hE,w,Et x.2 (Et ny hE),by rw[hd];exact h⟩
  | panicked c=>exact hR.elim
  | outgrown=>exact hR.elim
 | false=>
  simp only[Bool.false_eq_true,if_false]
  rw[hgb]at h
  exact⟨w,x.2,by rw[hd];exact h⟩
theorem dw {rest:List (Oper×Nat)} {dst:Option Tmp} {op:Op} {type:TypeId} {pos:String} {after:Array Edge} {j t k:Nat} {want:Bool}
  (h:jh P ops Q ((⟨dst,op,type,pos,after,none⟩,k)::rest) (fr fl A) w) (ht:(ops[j]?).bind (·.dst)=some t:=by rfl)
  (rM:Is (gw ((fr fl A).tmps.getD t undef) want) true:=by go_simp;exact Is.mk _):jh P ops Q ((⟨dst,op,type,pos,after,some (j,want)⟩,k)::rest) (fr fl A) w:=by
 have hw:Region.wanted (⟨dst,op,type,pos,after,some (j,want)⟩:Oper) (yielded ops (fr fl A).tmps)=true:=by rw[jA rfl ht,rM.eq]
 have yI:Region.wanted (⟨dst,op,type,pos,after,none⟩:Oper) (yielded ops (fr fl A).tmps)=true:=by simp[Region.wanted]
 match k with
 | 0=>
  obtain⟨v,hy,hr⟩:=h
  refine⟨v,.inl ⟨hw,?_⟩,hr⟩
  rcases hy with⟨_,hv⟩|⟨hn,_⟩
  ·exact hv
  ·rw[yI]at hn;cases hn
 | 1=>
  intro x
  have:=h x
  rw[if_pos yI]at this
  rw[if_pos hw]
  exact this
 | k+2=>
  intro x
  have:=h x
  rw[if_pos yI]at this
  rw[if_pos hw]
  exact this
theorem Yz {rest:List (Oper×Nat)} (h:∀ x:bM w,Bz P o (fr fl A) (w.ah x) (λa' w'=>∃ w0,aB w0 w'∧jh P ops Q rest a' w0) (QJ Q)) (hg:o.guard=none:=by rfl):jh P ops Q ((o,2)::rest) (fr fl A) w:=λx=>by
 rw[if_pos (by simp[Region.wanted,hg])]
 exact h x
theorem ajQ {rest:List (Oper×Nat)} {j t:Nat} {want g:Bool} (h:g=true→∀ x:bM w,Bz P o (fr fl A) (w.ah x) (λa' w'=>∃ w0,aB w0 w'∧jh P ops Q rest a' w0) (QJ Q)) (hf:g=false→jh P ops Q rest ((fr fl A).put o.dst undef) w)
  (hg:o.guard=some (j,want):=by rfl) (ht:(ops[j]?).bind (·.dst)=some t:=by rfl) (rM:Is (gw ((fr fl A).tmps.getD t undef) want) g:=by go_simp;exact Is.mk _):jh P ops Q ((o,2)::rest) (fr fl A) w:=λx=>by
 rw[jA hg ht,rM.eq]
 cases hc:g with
 | true=>simp only[if_true];exact h hc x
 | false=>simp only[Bool.false_eq_true,if_false];exact⟨w,x.2,hf hc⟩
theorem Q7 {f:FuncId} {fn:Func} (hf:P.funcs[f]? =some fn) (hn:iC fn=true) {s:Operand} {la:List Operand} {ats:Array TypeId} {first captured:Array Value} (yL:o.op=.call {callee:=.value s,args:=la.toArray,argTypes:=ats})
  (hs:a.eval s=.func (.func f) first captured) (w:World):(execOp a.eval o).run P w=.ok (.enter f (first++(la.map a.eval).toArray++captured)) w:=by
 obtain⟨dst,op,type,pos,after,guard⟩:=o
 simp only at yL
 subst yL
 simp only[iC,Bool.and_eq_true]at hn
 have h1 : (fn.name == "runtime.NumGoroutine") = false := by have := hn.1; simpa [bne] using this
 have h2:fn.body.isNone=false:=by cases hb:fn.body<;>simp_all
 have e:execOp a.eval {dst:=dst,op:=.call {callee:=.value s,args:=la.toArray,argTypes:=ats},type:=type,pos:=pos,after:=after,guard:=guard}=
   (do let d ←Deferred.ofValue (a.eval s) (la.toArray.map a.eval);invoke d.target d.args):=rfl
 rw[e,hs]
 simp only[Deferred.ofValue,Sem.run_bind,Sem.run_pure,Result.andThen_ok,invoke]
 unfold callFunc
 simp only[program,Sem.run_bind,Sem.run,hf,h1,h2,Result.andThen_ok,Bool.false_eq_true,if_false,Sem.run_pure,List.map_toArray]
theorem Nh {l:Nat} {s:Operand} {la:List Operand} {ats:Array TypeId} (yL:o.op=.call {callee:=.value s,args:=la.toArray,argTypes:=ats}) (hs:a.eval s=.func (.yield l) #[] #[]) (w:World):
  (execOp a.eval o).run P w=(Instr.yield l (la.map a.eval).toArray).run P w:=by
 obtain⟨dst,op,type,pos,after,guard⟩:=o
 simp only at yL
 subst yL
 have e:execOp a.eval {dst:=dst,op:=.call {callee:=.value s,args:=la.toArray,argTypes:=ats},type:=type,pos:=pos,after:=after,guard:=guard}=
   (do let d ←Deferred.ofValue (a.eval s) (la.toArray.map a.eval);invoke d.target d.args):=rfl
 rw[e,hs]
 simp[Deferred.ofValue,invoke]
theorem dM {rest:List (Oper×Nat)} {f:FuncId} {fn:Func} {s:Operand} {la:List Operand} {ats:Array TypeId} {lv yO:List Value} {first captured:Array Value} {R:Value→World→Prop} {d:Nat} (hf:P.funcs[f]? =some fn)
  (hc:gK P f (first++lv.toArray++captured) w R) (h:∀ v w',R v w'→jh P ops Q rest (fr ((d,v)::fl) A) w') (hd:o.dst=some d:=by rfl) (yL:o.op=.call {callee:=.value s,args:=la.toArray,argTypes:=ats}:=by rfl) (hn:iC fn=true:=by kernel_rfl)
  (hg:o.guard=none:=by rfl) (hs:Is ((fr fl A).eval s) (.func (.func f) first captured):=by go_simp;exact Is.mk _) (mW:Is (la.map (fr fl A).eval) yO:=by go_simp;exact Is.mk _) (hlv:yO=lv:=by rfl):jh P ops Q ((o,2)::rest) (fr fl A) w:=by
 refine Yz (λx=>?_) hg
 unfold Bz
 rw[Q7 hf hn yL hs.eq,mW.eq,hlv]
 simp only[nH]
 refine Calls.mono (hc x) λe w' hR=>?_
 obtain⟨w0,hE,hR⟩:=hR
 cases e with
 | returned v=>exact⟨w0,hE,by rw[hd,lW];exact h v w0 hR⟩
 | panicked c=>exact hR.elim
 | outgrown=>exact hR.elim
theorem aZ {rest:List (Oper×Nat)} (x:bM w) {cs:Array Value} {e:TypeId} (h:∀ y:bM w,w.heap.size≤(w.ah x).heap.size→(w.ah x).heap.size<(w.ah y).heap.size→
  (∀k,(w.ah y).cell? ⟨(w.ah x).heap.size,k,none⟩=cs[k]?)→(∀k,(w.ah y).frozen? ⟨(w.ah x).heap.size,k,none⟩=false)→Hid ((w.ah y).heap[(w.ah x).heap.size]? =some (.cells cs e))→jh P ops Q rest a (w.ah y)):
  jh P ops Q rest a ((w.ah x).alloc (.cells cs e)):=
 h ⟨_,Et x.2 (aB.alloc _ _)⟩ (Ez _ _) (by show _<((w.ah x).alloc _).heap.size;simp) (λk=>World.cell?_alloc_new _ _ _ _) (λk=>World.frozen?_alloc_new _ _ _ _) (heap_alloc_new _ _)
theorem Q8 {rest:List (Oper×Nat)} (x:bM w) {es:Array MapEntry} {c:Nat} (h:∀ y:bM w,w.heap.size≤(w.ah x).heap.size→(w.ah x).heap.size<(w.ah y).heap.size→
  Hid ((w.ah y).heap[(w.ah x).heap.size]? =some (.map es c))→jh P ops Q rest a (w.ah y)):jh P ops Q rest a ((w.ah x).alloc (.map es c)):=
 h ⟨_,Et x.2 (aB.alloc _ _)⟩ (Ez _ _) (by show _<((w.ah x).alloc _).heap.size;simp) (heap_alloc_new _ _)
@[simp] theorem amQ (w:World):aB w w:=aB.refl w
@[simp] theorem PD (w:World) (y:bM w):aB w (w.ah y):=y.2
@[simp] theorem agY (w:World) (y:bM w) (z:bM (w.ah y)):aB w ((w.ah y).ah z):=Et y.2 z.2
@[simp] theorem agZ (w:World) (y:bM w) (z:bM (w.ah y)) (u:bM ((w.ah y).ah z)):aB w (((w.ah y).ah z).ah u):=Et y.2 (Et z.2 u.2)
@[simp] theorem anV (w:World) (y:bM w) (z:bM (w.ah y)) (u:bM ((w.ah y).ah z)) (t:bM (((w.ah y).ah z).ah u)):aB w ((((w.ah y).ah z).ah u).ah t):=Et y.2 (Et z.2 (Et u.2 t.2))
@[simp] theorem anW (w:World) (y:bM w) (z:bM (w.ah y)) (u:bM ((w.ah y).ah z)) (t:bM (((w.ah y).ah z).ah u)) (s:bM ((((w.ah y).ah z).ah u).ah t)):aB w (((((w.ah y).ah z).ah u).ah t).ah s):=Et y.2 (Et z.2 (Et u.2 (Et t.2 s.2)))
@[simp] theorem anX {w W:World} (y:bM W) (h:aB w W):aB w (W.ah y):=Et h y.2
end
attribute [irreducible] jh Wp fr jW kX gv gw Fn zo Is
structure cZ where
 ep:Int
 id:Int
 num:Int
 seq:Int
 kind:Int
 val:Int
 deriving DecidableEq,Inhabited
def cZ.cs (e:cZ):List Value:=[.int .i64 e.ep,.int .i64 e.id,.int .i64 e.num,.int .i64 e.seq,.int .i64 e.kind,.int .i64 e.val]
abbrev cZ.v (e:cZ):Value:=.agg #[.int .i64 e.ep,.int .i64 e.id,.int .i64 e.num,.int .i64 e.seq,.int .i64 e.kind,.int .i64 e.val]
def yP {α:Type} (enc:α→ List Value) (k:Nat) (w:World) (b o:Nat) (xs:List α):Prop:=
 ∀i x,xs[i]? =some x→∀ j u,(enc x)[j]? =some u→w.cell? ⟨b,o+i *k+j,none⟩=some u
def Rd {α:Type} (enc:α→ List Value) (k:Nat) (w:World) (v:Value) (xs:List α):Prop:=
 ∃A c,v=.slice A xs.length c∧xs.length≤c∧c≤maxLen∧(((A=none∨c=0)∧xs=[])∨∃ b o,A=some ⟨b,o,none⟩∧b<w.heap.size∧yP enc k w b o xs)
variable {α : Type} {enc : α → List Value} {k : Nat} {w w' : World} {v : Value} {xs : List α}
theorem yP.qC {b o:Nat} (h:yP enc k w b o xs) (hb:w'.heap[b]? =w.heap[b]?):yP enc k w' b o xs:=
 λi x hx j u hu=>(World.cell?_of_block (a:=⟨b,o+i *k+j,none⟩) hb).trans (h i x hx j u hu)
theorem yP.ah {b o:Nat} (h:yP enc k w b o xs) (hb:b<w.heap.size) (hE:aB w w'):yP enc k w' b o xs:=
 h.qC (hE.block b hb (λh=>h))
theorem Rd.ah (h:Rd enc k w v xs) (hE:aB w w'):Rd enc k w' v xs:=by
 obtain⟨A,c,h1,h2,h3,h4⟩:=h
 refine⟨A,c,h1,h2,h3,?_⟩
 rcases h4 with h4|⟨b,o,e,hb,hr⟩
 ·exact .inl h4
 ·exact .inr ⟨b,o,e,Nat.lt_of_lt_of_le hb hE.size,hr.ah hb hE⟩
theorem Rd.aW {F:Nat→Prop} (h:Rd enc k w v xs) (hM:bF F w w') (hF:∀ b,v.ownBlock=some b→¬ F b):Rd enc k w' v xs:=by
 obtain⟨A,c,rfl,h2,h3,h4⟩:=h
 refine⟨A,c,rfl,h2,h3,?_⟩
 rcases h4 with h4|⟨b,o,rfl,hb,hr⟩
 ·exact .inl h4
 ·exact .inr ⟨b,o,rfl,Nat.lt_of_lt_of_le hb hM.size,hr.qC (hM.block b hb (hF b rfl))⟩
theorem Rd.ajR {F:Nat→Prop} (h:Rd enc k w v xs) (hM:bF F w w') (hF:∀ b,v.ownBlock=some b→xs=[]∨¬ F b):Rd enc k w' v xs:=by
 obtain⟨A,c,rfl,h2,h3,h4⟩:=h
 refine⟨A,c,rfl,h2,h3,?_⟩
 rcases h4 with h4|⟨b,o,rfl,hb,hr⟩
 ·exact .inl h4
 ·refine .inr ⟨b,o,rfl,Nat.lt_of_lt_of_le hb hM.size,?_⟩
  rcases hF b rfl with rfl|hn
  ·exact λi x hx=>by simp at hx
  ·exact hr.qC (hM.block b hb hn)
theorem Rd.lt (h:Rd enc k w v xs) (hx:xs≠[]):∀ b,v.ownBlock=some b→b<w.heap.size:=λb hb=>by
 obtain⟨A,c,rfl,h2,h3,h4⟩:=h
 rcases h4 with h4|⟨b',o,rfl,Dk,hr⟩
 ·exact(hx h4.2).elim
 ·cases hb;exact Dk
theorem Rd.nil (w:World):Rd enc k w (.slice none 0 0) ([]:List α):=⟨none,0,rfl,Nat.le_refl _,Nat.zero_le _,.inl ⟨.inl rfl,rfl⟩⟩
theorem yP.take {b o:Nat} (h:yP enc k w b o xs) (n:Nat):yP enc k w b o (xs.take n):=λi x hx j u hu=>by
 rw[List.getElem?_take]at hx
 split at hx
 ·exact h i x hx j u hu
 ·cases hx
theorem yP.drop {b o:Nat} (h:yP enc k w b o xs) (n:Nat):yP enc k w b (o+n *k) (xs.drop n):=λi x hx j u hu=>by
 rw[List.getElem?_drop]at hx
 have:=h (n+i) x hx j u hu
 rw[Nat.add_mul]at this
 rw[←this];congr 2;omega
theorem Rd.take {A:Option Addr} {n c:Nat} (h:Rd enc k w (.slice A n c) xs) (m:Nat) (hm:m≤xs.length):Rd enc k w (.slice A m c) (xs.take m):=by
 obtain⟨A',c',h1,h2,h3,h4⟩:=h
 cases h1
 have hl:(xs.take m).length=m:=by simp;omega
 refine⟨A,c,by rw[hl],by rw[hl];omega,h3,?_⟩
 rcases h4 with⟨h,h'⟩|⟨b,o,e,hb,hr⟩
 ·exact .inl ⟨h,by simp[h']⟩
 ·exact .inr ⟨b,o,e,hb,hr.take m⟩
theorem Rd.length {A:Option Addr} {n c:Nat} (h:Rd enc k w (.slice A n c) xs):xs.length=n:=by
 obtain⟨A',c',h1,h2,h3,h4⟩:=h
 cases h1;rfl
theorem Rd.ent {w:World} {v:Value} {l:List cZ} (h:Rd cZ.cs 6 w v l):∃ A c,v=.slice A l.length c∧l.length≤c∧c≤9223372036854775807∧
  Hid (∀i,i<l.length→∃ e b o,Hid (l[i]? =some e)∧A=some ⟨b,o,none⟩∧b<w.heap.size∧w.cell? ⟨b,o+i *6,none⟩=some (.int .i64 e.ep)∧w.cell? ⟨b,o+i *6+1,none⟩=some (.int .i64 e.id)∧
   w.cell? ⟨b,o+i *6+2,none⟩=some (.int .i64 e.num)∧w.cell? ⟨b,o+i *6+3,none⟩=some (.int .i64 e.seq)∧w.cell? ⟨b,o+i *6+4,none⟩=some (.int .i64 e.kind)∧w.cell? ⟨b,o+i *6+5,none⟩=some (.int .i64 e.val)):=by
 obtain⟨A,c,h1,h2,h3,h4⟩:=h
 refine⟨A,c,h1,h2,h3,λi hi=>?_⟩
 have he:l[i]? =some l[i]:=by simp[hi]
 rcases h4 with⟨_,rfl⟩|⟨b,o,hA,hb,hr⟩
 ·simp at hi
 ·exact⟨l[i],b,o,he,hA,hb,hr i _ he 0 _ rfl,hr i _ he 1 _ rfl,hr i _ he 2 _ rfl,hr i _ he 3 _ rfl,hr i _ he 4 _ rfl,hr i _ he 5 _ rfl⟩
theorem gV {α:Type} {l:List α} {k:Nat} {e:α} (h:l[k]? =some e):l.take (k+1)=l.take k++[e]:=by
 rw[List.take_add_one,h];rfl
theorem zI {α:Type} {l:List α} {k:Nat} {e:α} (h:l[k]? =some e):e∈l:=List.mem_of_getElem? h
abbrev yQ:=Rd cZ.cs 6
abbrev BU:=Rd (λn:Int=>[Value.int .i64 n]) 1
end Go.Ws
