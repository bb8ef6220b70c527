/- Lemmas for the statements of this layer (joined texts); no condition. -/
import Derived.WalkKit
import Derived.Lib.Hide
import Derived.Deep.QuietTactic
import Derived.BigQuiet
import Derived.StillTail
import Derived.OrdersIn
import Derived.RangeFuncNested
import Derived.RangeFuncBound
import Derived.RangeFuncCalls
import Derived.RangeFuncLeaves
import Derived.Deep.DeepFit
namespace Go.Ws
open Go Go.RowKit
structure Mod (F:Nat→Prop) (w w':World):Prop where
  os:w'.os = w.os
  tape:w'.tape = w.tape
  output:w'.output = w.output
  size:w.heap.size≤w'.heap.size
  block:∀ k,k < w.heap.size→¬ F k→w'.heap[k]? = w.heap[k]?
def Ext (w w':World):Prop:=Mod (fun _=>False) w w'
theorem Mod.refl (F:Nat→Prop) (w:World):Mod F w w:=⟨rfl,rfl,rfl,Nat.le_refl _,fun _ _ _=>rfl⟩
theorem Mod.trans {F G H:Nat→Prop} {a b c:World} (h:Mod F a b) (k:Mod G b c) (hF:∀ i,i < a.heap.size→F i→H i) (hG:∀ i,i < a.heap.size→G i→H i):Mod H a c :=
  ⟨k.os.trans h.os,k.tape.trans h.tape,k.output.trans h.output,Nat.le_trans h.size k.size,
   fun i hi hn=>(k.block i (Nat.lt_of_lt_of_le hi h.size) (fun hg=>hn (hG i hi hg))).trans (h.block i hi (fun hf=>hn (hF i hi hf)))⟩
theorem Mod.mono {F G:Nat→Prop} {a b:World} (h:Mod F a b) (hF:∀ i,i < a.heap.size→F i→G i):Mod G a b :=
  ⟨h.os,h.tape,h.output,h.size,fun i hi hn=>h.block i hi (fun hf=>hn (hF i hi hf))⟩
theorem Ext.refl (w:World):Ext w w:=Mod.refl _ w
theorem Ext.trans {a b c:World} (h:Ext a b) (k:Ext b c):Ext a c:=Mod.trans h k (fun _ _ h=>h) (fun _ _ h=>h)
theorem Ext.mod {F:Nat→Prop} {a b:World} (h:Ext a b):Mod F a b:=Mod.mono h (fun _ _ h=>h.elim)
theorem Ext.drew (w:World):Ext w w.drew:=⟨rfl,rfl,rfl,Nat.le_refl _,fun _ _ _=>rfl⟩
theorem Ext.alloc (w:World) (o:Obj):Ext w (w.alloc o) :=
  ⟨rfl,rfl,rfl,by simp,fun k hk _=>Below.heap_alloc _ _ _ hk⟩
theorem Ext.below {w w':World} (h:Ext w w'):Below w.heap.size w w':=⟨h.os,h.tape,h.output,h.size,fun k hk=>h.block k hk (fun h=>h)⟩
def Later (w:World):Type:={ w':World // Ext w w' }
def _root_.Go.World.later (w:World) (x:Later w):World:=x.1
theorem Ext.get {w w':World} (h:Ext w w'):∃ x:Later w,w' = w.later x:=⟨⟨w',h⟩,rfl⟩
theorem Later.ext {w:World} (x:Later w):Ext w (w.later x):=x.2
instance (w:World):Nonempty (Later w):=⟨⟨w,Ext.refl w⟩⟩
def Later.trans {w:World} (x:Later w) (y:Later (w.later x)):Later w:=⟨(w.later x).later y,Ext.trans x.2 y.2⟩
def Later.drew {w:World} (x:Later w):Later w:=⟨(w.later x).drew,Ext.trans x.2 (Ext.drew _)⟩
@[simp,go_sem] theorem later_drew (w:World) (x:Later w):(w.later x).drew = w.later x.drew:=rfl
@[simp,go_sem] theorem heap_later (w:World) (x:Later w) (k:Nat) (h:k < w.heap.size):(w.later x).heap[k]? = w.heap[k]?:=x.2.block k h (fun h=>h)
@[simp,go_sem] theorem cell?_later (w:World) (x:Later w) (b o:Nat) (h:b < w.heap.size):(w.later x).cell? ⟨b,o,none⟩ = w.cell? ⟨b,o,none⟩ :=
  World.cell?_of_block (w:=w) (x.2.block b h (fun h=>h))
@[simp,go_sem] theorem frozen?_later (w:World) (x:Later w) (b o:Nat) (h:b < w.heap.size):(w.later x).frozen? ⟨b,o,none⟩ = w.frozen? ⟨b,o,none⟩ :=
  World.frozen?_of_block (w:=w) (x.2.block b h (fun h=>h))
@[simp,go_sem] theorem lt_later (w:World) (x:Later w) (b:Nat) (h:b < w.heap.size):b < (w.later x).heap.size:=Nat.lt_of_lt_of_le h x.2.size
@[simp,go_sem] theorem lt_alloc (w:World) (o:Obj) (b:Nat) (h:b < w.heap.size):b < (w.alloc o).heap.size:=by simp;omega
@[simp,go_sem] theorem lt_later2 (w:World) (x:Later w) (y:Later (w.later x)) (b:Nat) (h:b < w.heap.size):b < ((w.later x).later y).heap.size:=lt_later _ y _ (lt_later w x b h)
@[simp,go_sem] theorem lt_later3 (w:World) (x:Later w) (y:Later (w.later x)) (z:Later ((w.later x).later y)) (b:Nat) (h:b < w.heap.size):b < (((w.later x).later y).later z).heap.size:=lt_later _ z _ (lt_later2 w x y b h)
@[simp,go_sem] theorem cell?_later3 (w:World) (x:Later w) (y:Later (w.later x)) (z:Later ((w.later x).later y)) (b o:Nat) (h:b < w.heap.size):(((w.later x).later y).later z).cell? ⟨b,o,none⟩ = w.cell? ⟨b,o,none⟩:=by
  rw [cell?_later _ z _ _ (lt_later2 w x y b h),cell?_later _ y _ _ (lt_later w x b h),cell?_later _ x _ _ h]
@[simp,go_sem] theorem cell?_later4 (w:World) (x:Later w) (y:Later (w.later x)) (z:Later ((w.later x).later y)) (u:Later (((w.later x).later y).later z)) (b o:Nat) (h:b < w.heap.size):((((w.later x).later y).later z).later u).cell? ⟨b,o,none⟩ = w.cell? ⟨b,o,none⟩:=by
  rw [cell?_later _ u _ _ (lt_later3 w x y z b h),cell?_later3 _ _ _ _ _ _ h]
theorem size_later (w:World) (x:Later w):w.heap.size≤(w.later x).heap.size:=x.2.size
section
variable {P:Program} {ops:Array Oper} {md:Region.Mode} {Q:Exit→Act→World→Prop}
def uponW (P:Program) (o:Oper) (a:Act) (K:Act→World→Prop) (Q:Exit→Act→World→Prop):Result Next→Prop
  | .ok (.value v) w'=>K (a.put o.dst v) w'
  | .ok .skip w'=>K (a.put o.dst undef) w'
  | .ok (.defer d) w'=>K ({ a with defers:=d :: a.defers }.put o.dst undef) w'
  | .ok (.enter f args) w' => Calls P f args w' fun
      | .returned v,w''=>K (a.put o.dst v) w''
      | .panicked chain,w''=>Q (.panic chain) a w''
      | .outgrown,_=>False
  | .ok (.row row args) w'=>Rows P row args w' fun v w''=>K (a.put o.dst v) w''
  | .ok (.round l f tmps assign body) w' => RoundIn Fence.wide 0 P l f tmps assign body w' fun
      | .returned v,w''=>K (a.put o.dst v) w''
      | .panicked chain,w''=>Q (.panic chain) a w''
      | .outgrown,_=>False
  | .halt (.panic v) w'=>Q (.panic [{ v,recovered:=false }]) a w'
  | _=>False
def OpW (P:Program) (o:Oper) (a:Act) (w:World) (K:Act→World→Prop) (Q:Exit→Act→World→Prop):Prop:=uponW P o a K Q ((execOp a.eval o).run P w)
theorem OpW.mono {o:Oper} {a:Act} {w:World} {K K':Act→World→Prop} {Q Q':Exit→Act→World→Prop} (hh:OpW P o a w K Q) (h:∀ a w,K a w→K' a w) (hq:∀ c a w,Q (.panic c) a w→Q' (.panic c) a w):OpW P o a w K' Q':=by
  unfold OpW at *
  generalize (execOp a.eval o).run P w = r at *
  cases r with
  | ok n w' =>
    cases n <;> simp only [uponW] at hh ⊢ <;>
      first
        | exact h _ _ hh
        | exact Calls.mono hh (fun e w'' he=>by cases e <;> first|exact h _ _ he|exact hq _ _ _ he|exact he)
        | exact Rows.mono hh (fun _ _ he=>h _ _ he)
        | exact RoundIn.mono hh (fun e w'' he=>by cases e <;> first|exact h _ _ he|exact hq _ _ _ he|exact he)
  | halt x w'=>cases x <;> simp only [uponW] at hh ⊢ <;> exact hq _ _ _ hh
def RF (ρ:Option Nat):Fence:={ Fence.wide with round:=ρ }
theorem callsIn_RF {ρ:Option Nat} {n:Nat} {f:FuncId} {args:Array Value} {w:World} {R:Ending→World→Prop} (h:Calls P f args w R):CallsIn (RF ρ) n P f args w R:=callsIn_wide.2 h
theorem rowsIn_RF {ρ:Option Nat} {n:Nat} {row:String} {args:Array Value} {w:World} {R:Value→World→Prop} (h:Rows P row args w R):RowsIn (RF ρ) n P row args w R:=fun c cs _=>by
  obtain ⟨v,w',hR,hs⟩:=h c cs
  exact ⟨v,w',hR,stepsIn_wide.2 hs⟩
theorem roundIn_RF {ρ:Option Nat} {n:Nat} {l:Nat} {f:FuncId} {tmps:Array Value} {assign body:Code} {w:World} {R:Ending→World→Prop} (h:RoundIn Fence.wide 0 P l f tmps assign body w R):RoundIn (RF ρ) n P l f tmps assign body w R :=
  ⟨trivial,fun c cs _=>h.2 c cs (room_wide _)⟩
def noDefer (o:Oper):Bool:=match o.op with|.defer _=>false|_=>true
theorem opIn_of_W {ρ:Option Nat} {n:Nat} {o:Oper} {a:Act} {w:World} {K:Act→World→Prop} (hn:ρ = none∨noDefer o = true) (h:OpW P o a w K Q):o.wpIn (RF ρ) n P a w K Q:=by
  refine ⟨fun _ _=>trivial,?_⟩
  have e:o.semAt (RF ρ).round a.eval = execOp a.eval o:=by
    rcases hn with rfl|hn
    · exact Oper.semAt_none _ _
    · exact Oper.semAt_eq _ _ _ (fun c hc=>by rw [noDefer,hc] at hn;cases hn)
  rw [e]
  unfold OpW at h
  have hd:∀ n:Nat,(RF ρ).depth.isSome = true→1≤n:=fun n h=>by cases h
  generalize (execOp a.eval o).run P w = r at *
  cases r with
  | ok n w' =>
    cases n <;> simp only [uponW] at h <;> simp only [Oper.uponIn]
    case value=>exact h
    case skip=>exact h
    case defer=>exact h
    case enter=>exact ⟨hd _,CallsIn.mono (callsIn_RF h) (fun e w'' he=>by cases e <;> first|exact he|exact he.elim)⟩
    case row=>exact ⟨hd _,rowsIn_RF h⟩
    case round=>exact ⟨hd _,RoundIn.mono (roundIn_RF h) (fun e w'' he=>by cases e <;> first|exact he|exact he.elim)⟩
  | halt x w'=>cases x <;> simp only [uponW] at h <;> simp only [Oper.uponIn] <;> exact h
def softOp (P:Program) (ops:Array Oper) (i:Nat) (K:Act→World→Prop) (a:Act) (w:World):Prop :=
  match ops[i]? with
  | none=>False
  | some o=>if Region.wanted o (yielded ops a.tmps) then OpW P o a w K (fun _ _ _=>False) else K (a.put o.dst undef) w
theorem softOp_mono {i:Nat} {a:Act} {w:World} {K K':Act→World→Prop} (h:∀ a w,K a w→K' a w) (hh:softOp P ops i K a w):softOp P ops i K' a w:=by
  unfold softOp at *
  split
  · rename_i ho;simp [ho] at hh
  · rename_i o ho
    simp only [ho] at hh
    split
    · rename_i hw;simp only [hw,if_true] at hh;exact hh.mono h (fun _ _ _ h=>h)
    · rename_i hw;simp only [hw] at hh;exact h _ _ hh
theorem wpOpIn_of_soft {ρ:Option Nat} {n:Nat} {i:Nat} {a:Act} {w:World} {K:Act→World→Prop} (hn:ρ = none∨(∀ o:Oper,ops[i]? = some o→noDefer o = true)) (hh:softOp P ops i K a w):wpOpIn (RF ρ) n P ops Q i K a w:=by
  unfold softOp at hh
  unfold wpOpIn
  split
  · rename_i ho;simp [ho] at hh
  · rename_i o ho
    simp only [ho] at hh
    split
    · rename_i hw;simp only [hw,if_true] at hh;exact opIn_of_W (hn.imp id (fun h=>h o ho)) (hh.mono (fun _ _ h=>h) (fun _ _ _ h=>h.elim))
    · rename_i hw;simp only [hw] at hh;exact ⟨fun _ _=>trivial,hh⟩
def YieldsQ (P:Program) (ops:Array Oper) (o:Oper) (v:Value) (a:Act) (w:World):Prop :=
  (Region.wanted o (yielded ops a.tmps) = true∧∀ x:Later w,o.quietAt P a (Ext (w.later x)) (w.later x) v) ∨
  (Region.wanted o (yielded ops a.tmps) = false∧v = undef)
theorem YieldsQ.later {o:Oper} {v:Value} {a:Act} {w w':World} (h:YieldsQ P ops o v a w) (hE:Ext w w'):YieldsQ P ops o v a w':=by
  rcases h with ⟨h1,h2⟩|h
  · exact .inl ⟨h1,fun x=>h2 ⟨w'.later x,Ext.trans hE x.2⟩⟩
  · exact .inr h
theorem YieldsQ.of_same {o : Oper} {v : Value} {a a' : Act} {w : World} (hy : YieldsQ P ops o v a w) (he : execOp a'.eval o = execOp a.eval o)
    (hw:Region.wanted o (yielded ops a'.tmps) = Region.wanted o (yielded ops a.tmps)):YieldsQ P ops o v a' w:=by
  unfold YieldsQ Oper.quietAt at *
  rw [he,hw]
  exact hy
theorem softOp_put {j : Nat} {oi oj : Oper} {v : Value} (hj : ops[j]? = some oj) (hap : oi.apart ops oj = true)
    (hsi:∀ cs b,oi.op ≠ .select cs b) (hsj:∀ cs b,oj.op ≠ .select cs b) {K:Act→World→Prop} {a:Act} {w:World}
    (h:softOp P ops j K (a.put oi.dst v) w) :
    softOp P ops j (fun a' w'=>(execOp a'.eval oi = execOp a.eval oi∧Region.wanted oi (yielded ops a'.tmps) = Region.wanted oi (yielded ops a.tmps))∧K (a'.put oi.dst v) w') a w:=by
  obtain ⟨h1,h2,h3⟩:=Oper.apart_spec hap
  have keep:∀ u,execOp (a.put oj.dst u).eval oi = execOp a.eval oi∧Region.wanted oi (yielded ops (a.put oj.dst u).tmps) = Region.wanted oi (yielded ops a.tmps):=fun u =>
    ⟨execOp_put oi hsi a oj.dst u h3,wanted_put oi a oj.dst u h3⟩
  unfold softOp at *
  simp only [hj] at *
  rw [wanted_put oj a oi.dst v h1] at h
  split
  · rename_i hw
    simp only [hw,if_true] at h
    unfold OpW at *
    rw [execOp_put oj hsj a oi.dst v h1] at h
    generalize (execOp a.eval oj).run P w = r at *
    cases r with
    | ok n w' =>
      cases n <;> simp only [uponW] at h ⊢
      case value u=>exact ⟨keep u,by rw [← Act.put_comm a v u h2];exact h⟩
      case skip=>exact ⟨keep _,by rw [← Act.put_comm a v undef h2];exact h⟩
      case defer d =>
        refine ⟨⟨(execOp_put oi hsi { a with defers:=d :: a.defers } oj.dst undef h3).trans rfl,(wanted_put oi { a with defers:=d :: a.defers } oj.dst undef h3).trans rfl⟩,?_⟩
        rw [← Act.put_comm _ v undef h2,← Act.put_defers]
        exact h
      case enter f args =>
        refine Calls.mono h fun e w'' he=>?_
        cases e with
        | returned u=>exact ⟨keep u,by rw [← Act.put_comm a v u h2];exact he⟩
        | panicked c=>exact he
        | outgrown=>exact he
      case row row args=>exact Rows.mono h fun u w'' he=>⟨keep u,by rw [← Act.put_comm a v u h2];exact he⟩
      case round l f tmps assign body =>
        refine RoundIn.mono h fun e w'' he=>?_
        cases e with
        | returned u=>exact ⟨keep u,by rw [← Act.put_comm a v u h2];exact he⟩
        | panicked c=>exact he
        | outgrown=>exact he
    | halt x w'=>cases x <;> simp only [uponW] at h
  · rename_i hw
    simp only [hw] at h
    exact ⟨keep _,by rw [← Act.put_comm a v undef h2];exact h⟩
theorem YieldsQ.softOp {i : Nat} {o : Oper} {v : Value} {a : Act} {w : World} (hi : ops[i]? = some o) (hy : YieldsQ P ops o v a w) {K : Act → World → Prop}
    (h:∀ w',Ext w w'→K (a.put o.dst v) w'):softOp P ops i K a w:=by
  unfold Ws.softOp
  simp only [hi]
  rcases hy with ⟨hw,hv⟩|⟨hw,rfl⟩
  · simp only [hw,if_true]
    have h3:o.quietAt P a (Ext w) w v:=hv ⟨w,Ext.refl w⟩
    unfold Oper.quietAt at h3
    unfold OpW
    generalize (execOp a.eval o).run P w = r at *
    cases r with
    | ok n w' =>
      cases n <;> simp only [Oper.quietUpon] at h3 <;> simp only [uponW]
      case value u=>obtain ⟨e1,e2⟩:=h3;rw [e1,e2];exact h w (Ext.refl w)
      case skip=>obtain ⟨e1,e2⟩:=h3;rw [e1,← e2];exact h w (Ext.refl w)
      case enter f args =>
        obtain ⟨e1,hc⟩:=h3
        rw [e1]
        exact hc.mono fun e w'' ⟨he,hw''⟩=>by subst he;exact h _ hw''
    | halt x w'=>simp only [Oper.quietUpon] at h3
  · simp only [hw,Bool.false_eq_true,if_false];exact h w (Ext.refl w)
def wpS (P:Program) (md:Region.Mode) (ops:Array Oper) (hard:Nat→Bool) (Q:Exit→Act→World→Prop):Nat→Array Bool→Act→World→Prop
  | 0,listed,a,w=>Region.ready md ops listed = []∧∀ x:Later w,Q .normal a (w.later x)
  | f + 1, listed, a, w => ∀ x : Later w, (Region.ready md ops listed = [] → Q .normal a (w.later x)) ∧
      ∀ j ∈ Region.ready md ops listed,
        if hard j = true then softOp P ops j (fun a' w'=>wpS P md ops hard Q f (listed.setIfInBounds j true) a' w') a (w.later x)
        else softOp P ops j (fun a' w'=>Ext (w.later x) w'∧wpS P md ops hard Q f (listed.setIfInBounds j true) a' w') a (w.later x)
theorem wpS.later {hard:Nat→Bool} {f:Nat} {listed:Array Bool} {a:Act} {w w':World} (h:wpS P md ops hard Q f listed a w) (hE:Ext w w'):wpS P md ops hard Q f listed a w':=by
  cases f with
  | zero=>exact ⟨h.1,fun x=>h.2 ⟨w'.later x,Ext.trans hE x.2⟩⟩
  | succ f=>exact fun x=>h ⟨w'.later x,Ext.trans hE x.2⟩
theorem wpAny_of_wpS {ρ:Option Nat} {n:Nat} (hn:ρ = none∨(∀ (i:Nat) (o:Oper),ops[i]? = some o→noDefer o = true)) {hard:Nat→Bool}:∀ (f:Nat) (listed:Array Bool) (a:Act) (w:World),wpS P md ops hard Q f listed a w→wpAnyIn (RF ρ) n P md ops Q f listed a w
  | 0,_,_,w,h=>⟨h.1,h.2 ⟨w,Ext.refl w⟩⟩
  | f + 1,listed,a,w,h=>by
    obtain ⟨h0,h1⟩:=h ⟨w,Ext.refl w⟩
    refine ⟨h0,fun j hj=>?_⟩
    have h2:=h1 j hj
    split at h2
    · exact wpOpIn_of_soft (hn.imp id (fun h=>h j)) (softOp_mono (fun a' w' h=>wpAny_of_wpS hn f _ a' w' h) h2)
    · exact wpOpIn_of_soft (hn.imp id (fun h=>h j)) (softOp_mono (fun a' w' h=>wpAny_of_wpS hn f _ a' w' h.2) h2)
inductive Reach (md:Region.Mode) (ops:Array Oper):Nat→Nat→Prop
  | one {i j:Nat}:Region.waitsFor md ops j i = true→Reach md ops i j
  | more {i k j:Nat}:Reach md ops i k→Region.waitsFor md ops j k = true→Reach md ops i j
def Closed (md:Region.Mode) (ops:Array Oper) (listed:Array Bool):Prop :=
  ∀ j oj,ops[j]? = some oj→listed.getD j false = true→∀ e ∈ oj.after,Region.binds md e = true→listed.getD e.on false = true
theorem Closed.set {i:Nat} {listed:Array Bool} (hc:Closed md ops listed) (hi:i ∈ Region.ready md ops listed):Closed md ops (listed.setIfInBounds i true):=by
  obtain ⟨_,oi,hoi,hall⟩:=mem_ready.1 hi
  intro j oj hj hl e he hb
  by_cases hij:i = j
  · subst hij
    have:oj = oi:=Option.some.inj (hj.symm.trans hoi)
    subst this
    exact getD_set_true (hall e he hb)
  · rw [getD_set_ne false hij] at hl
    exact getD_set_true (hc j oj hj hl e he hb)
theorem Reach.listed {i j:Nat} {listed:Array Bool} (h:Reach md ops i j) (hc:Closed md ops listed) (hj:listed.getD j false = true∨j ∈ Region.ready md ops listed):listed.getD i false = true:=by
  have step:∀ {i j:Nat},Region.waitsFor md ops j i = true→(listed.getD j false = true∨j ∈ Region.ready md ops listed)→listed.getD i false = true:=by
    intro i j hw hj
    obtain ⟨oj,hoj,e,he,hb,hon⟩:=Region.waitsFor_spec hw
    rcases hj with hj|hj
    · exact hon▸hc j oj hoj hj e he hb
    · obtain ⟨_,o',ho',hall⟩:=mem_ready.1 hj
      have:oj = o':=Option.some.inj (hoj.symm.trans ho')
      subst this
      exact hon▸hall e he hb
  induction h with
  | one h=>exact step h hj
  | more _ h ih=>exact ih (.inl (step h hj))
def Oper.mover (o:Oper):Bool:=o.guard.isNone && match o.op with|.move (.tmp _)=>true|.extract (.tmp _) _=>true|_=>false
theorem YieldsQ.moved {o:Oper} {v:Value} {a:Act} {w:World} (h:YieldsQ P ops o v a w) (hm:Oper.mover o = true) (w':World):YieldsQ P ops o v a w':=by
  simp only [Oper.mover,Bool.and_eq_true] at hm
  obtain ⟨hg,hm⟩:=hm
  have hw:Region.wanted o (yielded ops a.tmps) = true:=by
    have:o.guard = none:=by simpa using hg
    simp [Region.wanted,this]
  rcases h with ⟨_,h⟩|⟨h,_⟩
  · refine .inl ⟨hw,fun x=>?_⟩
    have h1:=h ⟨w,Ext.refl w⟩
    split at hm
    · rename_i s hs
      unfold Oper.quietAt execOp at *
      simp only [hs,Sem.run_pure,Oper.quietUpon] at *
      exact ⟨trivial,h1.2⟩
    · rename_i s k hs
      unfold Oper.quietAt execOp at *
      simp only [hs] at *
      generalize a.eval (.tmp s) = u at *
      unfold Instr.extract at *
      split at h1
      · split at h1
        · exact ⟨rfl,h1.2⟩
        · simp [go_sem,Oper.quietUpon] at h1
      · simp [go_sem,Oper.quietUpon] at h1
    · cases hm
  · rw [hw] at h;cases h
theorem wpS_first {hard : Nat → Bool} {i : Nat} {oi : Oper} {v : Value} (hi : ops[i]? = some oi) (hsel : ∀ (j : Nat) (o : Oper) cs b, ops[j]? = some o → o.op ≠ .select cs b)
    (hih:hard i = false) (hreach:(∀ j,hard j = true→Reach md ops i j∨Reach md ops j i)∨Oper.mover oi = true) :
    ∀ (f:Nat) (listed:Array Bool) (a:Act) (w:World),Closed md ops listed →
      (∀ j oj,ops[j]? = some oj→j ≠ i→listed.getD j true = false→(∀ e ∈ oj.after,Region.binds md e = true→e.on ≠ i)→oi.apart ops oj = true) →
      i ∈ Region.ready md ops listed→YieldsQ P ops oi v a w →
      wpS P md ops hard Q f (listed.setIfInBounds i true) (a.put oi.dst v) w→wpS P md ops hard Q (f + 1) listed a w:=by
  intro f
  induction f with
  | zero =>
    intro listed a w _ _ hr hy H x
    refine ⟨fun h=>(by rw [h] at hr;cases hr),fun j hj=>?_⟩
    by_cases hji:j = i
    · subst hji
      simp only [hih,Bool.false_eq_true,if_false]
      exact (hy.later x.2).softOp hi fun w' hw'=>⟨hw',H.later (Ext.trans x.2 hw')⟩
    · have:=ready_mono hj hji
      rw [H.1] at this
      cases this
  | succ f ih =>
    intro listed a w hc hfree hr hy H x
    refine ⟨fun h=>(by rw [h] at hr;cases hr),fun j hj=>?_⟩
    by_cases hji:j = i
    · subst hji
      simp only [hih,Bool.false_eq_true,if_false]
      exact (hy.later x.2).softOp hi fun w' hw'=>⟨hw',H.later (Ext.trans x.2 hw')⟩
    · have hiun:=(mem_ready.1 hr).1
      have hjun:=(mem_ready.1 hj).1
      have h1:=(H x).2 j (ready_mono hj hji)
      obtain ⟨hjun,oj,hoj,hall⟩:=mem_ready.1 hj
      have hnot:∀ e ∈ oj.after,Region.binds md e = true→e.on ≠ i:=fun e he hb heq=>by
        have h1:=hall e he hb
        rw [heq,getD_both hiun] at h1
        cases h1
      have hfree' : ∀ k ok, ops[k]? = some ok → k ≠ i → (listed.setIfInBounds j true).getD k true = false →
          (∀ e ∈ ok.after,Region.binds md e = true→e.on ≠ i)→oi.apart ops ok = true:=fun k ok hk hki hun hno=>by
        refine hfree k ok hk hki ?_ hno
        by_cases hjk:j = k
        · subst hjk;exact hjun
        · rw [getD_set_ne true hjk] at hun;exact hun
      cases hjh:hard j with
      | false =>
        simp only [hjh,Bool.false_eq_true,if_false] at h1 ⊢
        have h2:=softOp_put hoj (hfree j oj hoj hji hjun hnot) (fun cs b=>hsel i oi cs b hi) (fun cs b=>hsel j oj cs b hoj) h1
        refine softOp_mono (fun a' w' h3=>?_) h2
        obtain ⟨⟨he,hw⟩,hE,h4⟩:=h3
        refine ⟨hE,ih _ a' w' (hc.set hj) hfree' (ready_mono hr (Ne.symm hji)) ((hy.of_same he hw).later (Ext.trans x.2 hE)) ?_⟩
        rw [Array.setIfInBounds_comm _ _ hji]
        exact h4
      | true =>
        rcases hreach with hreach|hmv
        · exfalso
          rcases hreach j hjh with h|h
          · have:=h.listed hc (.inr hj)
            rw [getD_both hiun] at this;cases this
          · have:=h.listed hc (.inr hr)
            rw [getD_both hjun] at this;cases this
        · simp only [hjh,if_true] at h1 ⊢
          have h2:=softOp_put hoj (hfree j oj hoj hji hjun hnot) (fun cs b=>hsel i oi cs b hi) (fun cs b=>hsel j oj cs b hoj) h1
          refine softOp_mono (fun a' w' h3=>?_) h2
          obtain ⟨⟨he,hw⟩,h4⟩:=h3
          refine ih _ a' w' (hc.set hj) hfree' (ready_mono hr (Ne.symm hji)) ((hy.of_same he hw).moved hmv w') ?_
          rw [Array.setIfInBounds_comm _ _ hji]
          exact h4
def wpMix (P:Program) (ops:Array Oper) (Q:Exit→Act→World→Prop):List (Nat × Nat)→Act→World→Prop
  | [],a,w=>∀ x:Later w,Q .normal a (w.later x)
  | (i,0) :: rest,a,w=>∃ v o,ops[i]? = some o∧YieldsQ P ops o v a w∧wpMix P ops Q rest (a.put o.dst v) w
  | (i,1) :: rest,a,w=>∀ x:Later w,softOp P ops i (fun a' w'=>Ext (w.later x) w'∧wpMix P ops Q rest a' w') a (w.later x)
  | (i,_) :: rest,a,w=>∀ x:Later w,softOp P ops i (fun a' w'=>wpMix P ops Q rest a' w') a (w.later x)
theorem wpMix.later {σ:List (Nat × Nat)} {a:Act} {w w':World} (h:wpMix P ops Q σ a w) (hE:Ext w w'):wpMix P ops Q σ a w':=by
  induction σ generalizing a with
  | nil=>exact fun x=>h ⟨w'.later x,Ext.trans hE x.2⟩
  | cons p rest ih =>
    obtain ⟨i,k⟩:=p
    match k with
    | 0=>obtain ⟨v,o,ho,hy,hr⟩:=h;exact ⟨v,o,ho,hy.later hE,ih hr⟩
    | 1=>exact fun x=>h ⟨w'.later x,Ext.trans hE x.2⟩
    | k + 2=>exact fun x=>h ⟨w'.later x,Ext.trans hE x.2⟩
def mixB (md:Region.Mode) (ops:Array Oper):List (Nat × Nat)→Array Bool→Bool
  | [],listed=>(Region.ready md ops listed).isEmpty
  | (i,k) :: rest,listed =>
    (match k with
     | 0=>(Region.ready md ops listed).contains i && Region.free md ops listed i
     | _=>decide (Region.ready md ops listed = [i])) && mixB md ops rest (listed.setIfInBounds i true)
theorem before_reach (ops:Array Oper) (i j:Nat) (h:((Region.before ops).getD j 0).testBit i = true):Reach .any ops i j:=by
  have key : ∀ (l : List Oper) (n : Nat) (acc : Array Nat), (∀ k, l[k]? = ops[n + k]?) → acc.size = n → (∀ j i, (acc.getD j 0).testBit i = true → Reach .any ops i j) →
      ∀ j i,((l.foldl (fun (acc:Array Nat) (o:Oper)=>acc.push (o.after.foldl (fun s e=>if Region.binds .any e then s ||| 2 ^ e.on ||| acc.getD e.on 0 else s) 0)) acc).getD j 0).testBit i = true→Reach .any ops i j:=by
    intro l
    induction l with
    | nil=>intro n acc _ _ h j i hj;exact h j i hj
    | cons o l ih =>
      intro n acc hl hn h j i hj
      rw [List.foldl_cons] at hj
      refine ih (n + 1) _ (fun k=>by have:=hl (k + 1);simp only [List.getElem?_cons_succ] at this;rw [this];congr 1;omega) (by simp [hn]) ?_ j i hj
      intro j i hj
      have ho:ops[n]? = some o:=by have:=hl 0;simpa using this.symm
      by_cases hjn:j < n
      · refine h j i ?_
        rw [← hj]
        simp only [Array.getD_eq_getD_getElem?]
        rw [Array.getElem?_push_lt (by omega)]
        simp [show j < acc.size by omega]
      · by_cases hjn':j = n
        · subst hjn'
          have hv:(acc.push (o.after.foldl (fun s e=>if Region.binds .any e then s ||| 2 ^ e.on ||| acc.getD e.on 0 else s) 0)).getD j 0 = o.after.foldl (fun s e=>if Region.binds .any e then s ||| 2 ^ e.on ||| acc.getD e.on 0 else s) 0:=by
            rw [Array.getD_eq_getD_getElem?,← hn,Array.getElem?_push_size];rfl
          rw [hv] at hj
          have step:∀ (es:List Edge) (s:Nat),(∀ e ∈ es,e ∈ o.after)→((es.foldl (fun s e=>if Region.binds .any e then s ||| 2 ^ e.on ||| acc.getD e.on 0 else s) s).testBit i = true)→s.testBit i = true∨Reach .any ops i j:=by
            intro es
            induction es with
            | nil=>intro s _ h;exact .inl h
            | cons e es ihe =>
              intro s hm h'
              rw [List.foldl_cons] at h'
              rcases ihe _ (fun e' he'=>hm e' (by simp [he'])) h' with h1|h1
              · by_cases hb:Region.binds .any e = true
                · rw [if_pos hb] at h1
                  simp only [Nat.testBit_or,Bool.or_eq_true,Nat.testBit_two_pow] at h1
                  have hw:Region.waitsFor .any ops j e.on = true:=by
                    unfold Region.waitsFor
                    simp only [ho]
                    exact Array.any_eq_true'.2 ⟨e,hm e (by simp),by simp [hb]⟩
                  rcases h1 with (h1|h1)|h1
                  · exact .inl h1
                  · have:e.on = i:=by simpa using h1
                    subst this
                    exact .inr (.one hw)
                  · exact .inr (.more (h e.on i h1) hw)
                · rw [if_neg hb] at h1;exact .inl h1
              · exact .inr h1
          rw [← Array.foldl_toList] at hj
          rcases step o.after.toList 0 (fun e he=>by simpa using he) hj with h1|h1
          · simp at h1
          · exact h1
        · exfalso
          rw [Array.getD_eq_getD_getElem?,Array.getElem?_eq_none (by simp;omega)] at hj
          simp at hj
  unfold Region.before at h
  rw [← Array.foldl_toList] at h
  exact key ops.toList 0 #[] (by simp) rfl (fun j i hj=>by simp at hj) j i h
def relB (ops:Array Oper) (σ:List (Nat × Nat)):Bool :=
  σ.all fun q=>!(decide (2≤q.2)) || σ.all fun p=>decide (2≤p.2) || ((Region.before ops).getD q.1 0).testBit p.1 || ((Region.before ops).getD p.1 0).testBit q.1 || (match ops[p.1]? with|some o=>Oper.mover o|none=>true)
def onceB (n:Nat) (σ:List (Nat × Nat)):Bool:=(σ.all fun p=>σ.all fun q=>!(p.1 == q.1) || (p.2 == q.2)) && (List.range n).all fun i=>σ.any (·.1 == i)
def mixOk (md:Region.Mode) (ops:Array Oper) (σ:List (Nat × Nat)):Bool :=
  Region.noSelect ops && decide (σ.length = ops.size) && onceB ops.size σ && relB ops σ && mixB md ops σ (Array.replicate ops.size false)
theorem wpS_of_mix {hard : Nat → Bool} (hsel : Region.noSelect ops = true)
    (hreach:∀ i oi,hard i = false→ops[i]? = some oi→(∀ j,hard j = true→Reach md ops i j∨Reach md ops j i)∨Oper.mover oi = true) :
    ∀ (σ:List (Nat × Nat)) (listed:Array Bool) (a:Act) (w:World),Closed md ops listed→mixB md ops σ listed = true →
      (∀ p ∈ σ,(hard p.1 = decide (2≤p.2)))→wpMix P ops Q σ a w→wpS P md ops hard Q σ.length listed a w
  | [],listed,a,w,_,hB,_,h=>⟨by simpa [mixB] using hB,h⟩
  | (i,0) :: rest,listed,a,w,hc,hB,hh,h=>by
    simp only [mixB,Bool.and_eq_true] at hB
    obtain ⟨⟨hr,hf⟩,hB'⟩:=hB
    obtain ⟨v,o,ho,hy,hrest⟩:=h
    have hr':i ∈ Region.ready md ops listed:=by simpa using hr
    have hhi:hard i = false:=by rw [hh (i,0) (by simp)];rfl
    exact wpS_first ho (Region.noSelect_spec hsel) hhi (hreach i o hhi ho) rest.length listed a w hc (Region.free_spec ho hf) hr' hy
      (wpS_of_mix hsel hreach rest _ _ w (hc.set hr') hB' (fun p hp=>hh p (by simp [hp])) hrest)
  | (i,1) :: rest,listed,a,w,hc,hB,hh,h=>by
    simp only [mixB,Bool.and_eq_true,decide_eq_true_eq] at hB
    intro x
    refine ⟨fun h0=>(by rw [hB.1] at h0;cases h0),fun j hj=>?_⟩
    have hj':=hj
    rw [hB.1] at hj'
    obtain rfl:j = i:=by simpa using hj'
    have hhi:hard j = false:=by rw [hh (j,1) (by simp)];rfl
    simp only [hhi,Bool.false_eq_true,if_false]
    exact softOp_mono (fun a' w' h'=>⟨h'.1,wpS_of_mix hsel hreach rest _ _ w' (hc.set hj) hB.2 (fun p hp=>hh p (by simp [hp])) h'.2⟩) (h x)
  | (i,k + 2) :: rest,listed,a,w,hc,hB,hh,h=>by
    simp only [mixB,Bool.and_eq_true,decide_eq_true_eq] at hB
    intro x
    refine ⟨fun h0=>(by rw [hB.1] at h0;cases h0),fun j hj=>?_⟩
    have hj':=hj
    rw [hB.1] at hj'
    obtain rfl:j = i:=by simpa using hj'
    have hhi:hard j = true:=by rw [hh (j,k + 2) (by simp)];simp
    simp only [hhi,if_true]
    exact softOp_mono (fun a' w' h'=>wpS_of_mix hsel hreach rest _ _ w' (hc.set hj) hB.2 (fun p hp=>hh p (by simp [hp])) h') (h x)
def calmIn (ρ:Option Nat) (l:List Oper):Prop:=ρ = none∨l.all noDefer = true
theorem calmIn.get {ρ:Option Nat} {l:List Oper} (h:calmIn ρ l):ρ = none∨(∀ (i:Nat) (o:Oper),l.toArray[i]? = some o→noDefer o = true) :=
  h.imp id fun h i o ho=>List.all_eq_true.1 h o (List.mem_of_getElem? (i:=i) (by simpa using ho))
theorem wp_region_mix {ρ : Option Nat} {n : Nat} {id : Nat} {a : Act} {w : World} {l : List Oper} (σ : List (Nat × Nat)) (hnd : calmIn ρ l) (hm : P.follows .mixedOrders = true) (hB : mixOk .any l.toArray σ = true)
    (h:wpMix P l.toArray Q σ a w):(Code.region id l.toArray true).wpIn (RF ρ) n P Q a w:=by
  simp only [mixOk,Bool.and_eq_true,decide_eq_true_eq] at hB
  obtain ⟨⟨⟨⟨hsel,hlen⟩,honce⟩,hrel⟩,hmix⟩:=hB
  simp only [onceB,Bool.and_eq_true] at honce
  refine wpIn_region_any hm ?_
  let hard:Nat→Bool:=fun i=>σ.any fun p=>p.1 == i && decide (2≤p.2)
  have hsame:∀ p ∈ σ,∀ q ∈ σ,p.1 = q.1→p = q:=by
    intro p hp q hq e
    have h1:=List.all_eq_true.1 (List.all_eq_true.1 honce.1 p hp) q hq
    simp only [e,beq_self_eq_true,Bool.not_true,Bool.false_or,beq_iff_eq] at h1
    exact Prod.ext e h1
  have hhard:∀ p ∈ σ,hard p.1 = decide (2≤p.2):=by
    intro p hp
    by_cases h2:2≤p.2
    · simp only [h2,decide_true]
      exact List.any_eq_true.2 ⟨p,hp,by simp [h2]⟩
    · simp only [h2,decide_false]
      cases hc:hard p.1 with
      | false=>rfl
      | true =>
        obtain ⟨q,hq,hq2⟩:=List.any_eq_true.1 hc
        simp only [Bool.and_eq_true,beq_iff_eq,decide_eq_true_eq] at hq2
        have:=hsame q hq p hp hq2.1
        subst this
        exact absurd hq2.2 h2
  have hall:∀ i,i < l.toArray.size→∃ p ∈ σ,p.1 = i:=by
    intro i hi
    obtain ⟨p,hp,e⟩:=List.any_eq_true.1 (List.all_eq_true.1 honce.2 i (List.mem_range.2 hi))
    exact ⟨p,hp,by simpa using e⟩
  have hreach:∀ i oi,hard i = false→l.toArray[i]? = some oi→(∀ j,hard j = true→Reach .any l.toArray i j∨Reach .any l.toArray j i)∨Oper.mover oi = true:=by
    intro i oi hi hoi
    have hilt:i < l.toArray.size:=(Array.getElem?_eq_some_iff.1 hoi).1
    obtain ⟨p,hp,rfl⟩:=hall i hilt
    cases hmv:Oper.mover oi with
    | true=>exact .inr rfl
    | false =>
      refine .inl fun j hj=>?_
      obtain ⟨q,hq,hq2⟩:=List.any_eq_true.1 hj
      simp only [Bool.and_eq_true,beq_iff_eq,decide_eq_true_eq] at hq2
      obtain ⟨rfl,hq2⟩:=hq2
      have h1:=List.all_eq_true.1 hrel q hq
      have hk':(!(decide (2≤q.2))) = false:=by simp [hq2]
      rw [hk',Bool.false_or] at h1
      have h2:=List.all_eq_true.1 h1 p hp
      have hp2:decide (2≤p.2) = false:=by rw [← hhard p hp];exact hi
      simp only [hp2,hoi,hmv,Bool.or_false,Bool.false_or,Bool.or_eq_true] at h2
      exact h2.imp (before_reach l.toArray p.1 q.1) (before_reach l.toArray q.1 p.1)
  have H:=wpS_of_mix (P:=P) (Q:=Q) (hard:=hard) hsel hreach σ _ a _ (fun j oj _ hl=>(by rw [getD_replicate_false] at hl;cases hl)) hmix hhard (h.later (Ext.drew w))
  rw [hlen] at H
  exact wpAny_of_wpS hnd.get _ _ _ _ H
end
end Go.Ws
namespace Go.Ws
open Go Go.RowKit
set_option linter.unusedVariables false
section
variable {κ β:Type} [DecidableEq κ]
def posOf (k:κ):List κ→Option Nat
  | []=>none
  | x :: xs=>if x = k then some 0 else (posOf k xs).map (· + 1)
theorem posOf_none {k:κ}:∀ {l:List κ},posOf k l = none↔k ∉ l
  | []=>by simp [posOf]
  | x :: xs=>by
    unfold posOf
    by_cases h:x = k
    · simp [h]
    · have ih:=@posOf_none k xs
      rw [if_neg h,Option.map_eq_none_iff,ih]
      simp [Ne.symm h]
structure Keys (P:Program) (kt:TypeId) (kenc:κ→Value):Prop where
  check:∀ (b:Bool) (k:κ) (w:World),(Instr.checkKey b 10000 kt (kenc k)).run P w = .ok () w
  find:∀ (k:κ) (es:List MapEntry) (ks:List κ) (w:World),es.map (·.key) = ks.map kenc →
    (Instr.findKey kt (kenc k) es).run P w = .ok ((posOf k ks).bind fun i=>(es[i]?).map fun e=>(i,e.val)) w
  stays:∀ (k:κ) (w:World),(Instr.keyThatStays (kenc k) (kenc k)).run P w = .ok (kenc k) w
abbrev ment (kenc:κ→Value) (venc:β→Value) (x:κ × β × Nat):MapEntry:=⟨kenc x.1,venc x.2.1,x.2.2⟩
structure MapL (kenc:κ→Value) (venc:β→Value) (w:World) (b:Nat) (L:List (κ × β × Nat)) (clock:Nat):Prop where
  heap:w.heap[b]? = some (.map (L.map (ment kenc venc)).toArray clock)
  keys:(L.map (·.1)).Nodup
  borns:(L.map (·.2.2)).Nodup
  fresh:∀ x ∈ L,x.2.2 < clock
def look (L:List (κ × β × Nat)) (k:κ):Option β:=(L.find? (fun x=>decide (x.1 = k))).map (·.2.1)
def MapIs (kenc:κ→Value) (venc:β→Value) (w:World) (b:Nat) (f:κ→Option β):Prop :=
  ∃ L clock,MapL kenc venc w b L clock∧∀ k,f k = look L k
theorem MapIs.lt {kenc:κ→Value} {venc:β→Value} {w:World} {b:Nat} {f:κ→Option β} (h:MapIs kenc venc w b f):b < w.heap.size:=by
  obtain ⟨L,c,h,_⟩:=h
  exact (Array.getElem?_eq_some_iff.1 h.heap).1
theorem MapIs.of_heap {kenc:κ→Value} {venc:β→Value} {w w':World} {b:Nat} {f:κ→Option β} (h:MapIs kenc venc w b f) (hb:w'.heap[b]? = w.heap[b]?):MapIs kenc venc w' b f:=by
  obtain ⟨L,c,h,hf⟩:=h
  exact ⟨L,c,⟨by rw [hb];exact h.heap,h.keys,h.borns,h.fresh⟩,hf⟩
theorem look_pos {L:List (κ × β × Nat)} {k:κ}:look L k = (posOf k (L.map (·.1))).bind fun i=>(L[i]?).map (·.2.1):=by
  induction L with
  | nil=>rfl
  | cons x xs ih =>
    unfold look at *
    simp only [List.map_cons,posOf,List.find?_cons]
    by_cases h:x.1 = k
    · simp [h]
    · simp only [h,decide_false,if_false]
      rw [ih]
      cases posOf k (xs.map (·.1)) <;> simp
theorem posOf_get {k:κ}:∀ {l:List κ} {i:Nat},posOf k l = some i→l[i]? = some k
  | [],_,h=>by simp [posOf] at h
  | x :: xs,i,h=>by
    unfold posOf at h
    by_cases hx:x = k
    · rw [if_pos hx] at h;obtain rfl:=Option.some.inj h;simp [hx]
    · rw [if_neg hx] at h
      cases hp:posOf k xs with
      | none=>simp [hp] at h
      | some j=>simp [hp] at h;subst h;simpa using posOf_get hp
theorem mem_look {L:List (κ × β × Nat)} (hn:(L.map (·.1)).Nodup) {k:κ} {v:β} {n:Nat} (h:(k,v,n) ∈ L):look L k = some v:=by
  induction L with
  | nil=>cases h
  | cons x xs ih =>
    simp only [List.map_cons,List.nodup_cons] at hn
    unfold look
    simp only [List.find?_cons]
    rcases List.mem_cons.1 h with rfl|h'
    · simp
    · have hne:x.1 ≠ k:=fun e=>hn.1 (List.mem_map.2 ⟨_,h',e.symm⟩)
      simp only [hne,decide_false]
      exact ih hn.2 h'
variable {P:Program} {t kt et:TypeId} {kenc:κ→Value} {venc:β→Value} {w:World} {b:Nat} {f:κ→Option β}
omit [DecidableEq κ] in
theorem keys_map (L:List (κ × β × Nat)):(L.map (ment kenc venc)).map (·.key) = (L.map (·.1)).map kenc:=by simp
theorem MapIs.lookup (hK : Keys P kt kenc) (ht : P.underlying t = some (.map kt et)) {z : Value} (hz : (zeroValue et).run P w = .ok z w) (h : MapIs kenc venc w b f) (k : κ) (ok : Bool) :
    (Instr.lookup t (.map (some b)) (kenc k) ok).run P w = .ok (if ok then .tuple #[((f k).map venc).getD z,.bool (f k).isSome] else ((f k).map venc).getD z) w:=by
  obtain ⟨L,c,h,hf⟩:=h
  have hfind:=hK.find k (L.map (ment kenc venc)) (L.map (·.1)) w (keys_map L)
  have hgo:Sem.run P (getObj b) w = .ok (.map (L.map (ment kenc venc)).toArray c) w:=by simp [getObj,Sem.run,h.heap]
  have hl:f k = (posOf k (L.map (·.1))).bind fun i=>(L[i]?).map (·.2.1):=(hf k).trans look_pos
  unfold Instr.lookup
  simp only [Sem.run_bind,run_underlying ht,Result.andThen_ok,hgo,Sem.run_pure,hK.check,hfind]
  cases hp:posOf k (L.map (·.1)) with
  | none =>
    rw [hp] at hl
    simp only [Option.bind_none] at hl ⊢
    simp only [Sem.run_bind,hz,Result.andThen_ok,Sem.run_pure,hl]
    cases ok <;> rfl
  | some i =>
    have hi:=posOf_get hp
    rw [List.getElem?_map] at hi
    cases hL:L[i]? with
    | none=>simp [hL] at hi
    | some x =>
      rw [hp] at hl
      simp only [Option.bind_some,hL,Option.map_some] at hl
      simp only [Option.bind_some,List.getElem?_map,hL,Option.map_some,hl]
      cases ok <;> rfl
def upd (f:κ→Option β) (k:κ) (v:Option β):κ→Option β:=fun x=>if x = k then v else f x
theorem modify_pos {k : κ} {v : β} : ∀ {L : List (κ × β × Nat)} {i : Nat}, (L.map (·.1)).Nodup → posOf k (L.map (·.1)) = some i →
    L.modify i (fun x=>(x.1,v,x.2.2)) = L.map (fun x=>if x.1 = k then (x.1,v,x.2.2) else x)
  | [],_,_,h=>by simp [posOf] at h
  | x :: xs,i,hn,h=>by
    simp only [List.map_cons,posOf] at h
    simp only [List.map_cons,List.nodup_cons] at hn
    by_cases hx:x.1 = k
    · rw [if_pos hx] at h
      obtain rfl:=Option.some.inj h
      simp only [List.modify_zero_cons,List.map_cons,if_pos hx]
      congr 1
      conv=>lhs;rw [← List.map_id xs]
      refine List.map_congr_left fun y hy=>?_
      have:y.1 ≠ k:=fun e=>hn.1 (List.mem_map.2 ⟨y,hy,e.trans hx.symm⟩)
      simp [this]
    · rw [if_neg hx] at h
      cases hp:posOf k (xs.map (·.1)) with
      | none=>simp [hp] at h
      | some j =>
        simp [hp] at h
        subst h
        simp only [List.modify_succ_cons,List.map_cons,if_neg hx]
        rw [modify_pos hn.2 hp]
theorem erase_pos {k : κ} : ∀ {L : List (κ × β × Nat)} {i : Nat}, (L.map (·.1)).Nodup → posOf k (L.map (·.1)) = some i →
    L.eraseIdx i = L.filter (fun x=>decide (x.1 ≠ k))
  | [],_,_,h=>by simp [posOf] at h
  | x :: xs,i,hn,h=>by
    simp only [List.map_cons,posOf] at h
    simp only [List.map_cons,List.nodup_cons] at hn
    by_cases hx:x.1 = k
    · rw [if_pos hx] at h
      obtain rfl:=Option.some.inj h
      simp only [List.eraseIdx_zero,List.tail_cons,List.filter_cons,hx,ne_eq,not_true_eq_false,decide_false]
      symm
      simp only [Bool.false_eq_true,if_false]
      rw [List.filter_eq_self]
      intro y hy
      have:y.1 ≠ k:=fun e=>hn.1 (List.mem_map.2 ⟨y,hy,e.trans hx.symm⟩)
      simp [this]
    · rw [if_neg hx] at h
      cases hp:posOf k (xs.map (·.1)) with
      | none=>simp [hp] at h
      | some j =>
        simp [hp] at h
        subst h
        simp only [List.eraseIdx_cons_succ,List.filter_cons,ne_eq,hx,not_false_eq_true,decide_true,if_true]
        rw [erase_pos hn.2 hp]
theorem map_eraseIdx {α γ:Type} (g:α→γ):∀ (l:List α) (i:Nat),(l.eraseIdx i).map g = (l.map g).eraseIdx i
  | [],_=>by simp
  | x :: xs,0=>by simp
  | x :: xs,i + 1=>by simp [map_eraseIdx g xs i]
theorem look_upd {L:List (κ × β × Nat)} {k:κ} {v:β} (hk:k ∈ L.map (·.1)) (x:κ):look (L.map (fun y=>if y.1 = k then (y.1,v,y.2.2) else y)) x = upd (look L) k (some v) x:=by
  induction L with
  | nil=>simp at hk
  | cons y ys ih =>
    unfold look upd at *
    simp only [List.map_cons,List.find?_cons]
    by_cases hy:y.1 = k
    · rw [if_pos hy]
      by_cases hx:x = k
      · subst hx;simp [hy]
      · have:y.1 ≠ x:=fun e=>hx (e.symm.trans hy)
        simp only [this,decide_false,if_neg hx]
        by_cases hk':k ∈ ys.map (·.1)
        · have:=ih hk';rw [if_neg hx] at this;exact this
        · have e : ys.map (fun y => if y.1 = k then (y.1, v, y.2.2) else y) = ys := by
            conv=>rhs;rw [← List.map_id ys]
            refine List.map_congr_left fun z hz=>?_
            have:z.1 ≠ k:=fun e=>hk' (List.mem_map.2 ⟨z,hz,e⟩)
            simp [this]
          rw [e]
    · rw [if_neg hy]
      have hk':k ∈ ys.map (·.1):=by
        rcases List.mem_cons.1 hk with h|h
        · exact absurd h.symm hy
        · exact h
      have ih':=ih hk'
      by_cases hx:y.1 = x
      · have hxk:x ≠ k:=fun e=>hy (hx.trans e)
        simp [hx,hxk]
      · simp only [hx,decide_false]
        exact ih'
theorem look_push {L:List (κ × β × Nat)} {k:κ} {v:β} {n:Nat} (hk:k ∉ L.map (·.1)) (x:κ):look (L ++ [(k,v,n)]) x = upd (look L) k (some v) x:=by
  unfold look upd
  rw [List.find?_append]
  by_cases hx:x = k
  · subst hx
    have:L.find? (fun y=>decide (y.1 = x)) = none:=List.find?_eq_none.2 fun y hy=>by
      simp;exact fun e=>hk (List.mem_map.2 ⟨y,hy,e⟩)
    simp [this]
  · have hne:¬ k = x:=fun e=>hx e.symm
    simp [hx,hne]
theorem look_erase {L:List (κ × β × Nat)} {k:κ} (x:κ):look (L.filter (fun y=>decide (y.1 ≠ k))) x = upd (look L) k none x:=by
  unfold look upd
  rw [List.find?_filter]
  by_cases hx:x = k
  · subst hx
    have:L.find? (fun a=>decide (a.1 ≠ x) && decide (a.1 = x)) = none:=List.find?_eq_none.2 fun y _=>by
      by_cases h:y.1 = x <;> simp [h]
    simp only [if_true]
    rw [show (fun a:κ × β × Nat=>decide (decide (a.fst ≠ x) = true∧decide (a.fst = x) = true)) = (fun a=>decide (a.1 ≠ x) && decide (a.1 = x)) from by funext a;by_cases h:a.1 = x <;> simp [h]]
    rw [this];rfl
  · simp only [if_neg hx]
    rw [show (fun a:κ × β × Nat=>decide (decide (a.fst ≠ k) = true∧decide (a.fst = x) = true)) = (fun a=>decide (a.1 = x)) from by
      funext a;by_cases h:a.1 = x
      · have:a.1 ≠ k:=fun e=>hx (h.symm.trans e)
        simp [h];exact hx
      · simp [h]]
def _root_.Go.World.setObj (w:World) (b:Nat) (o:Obj):World:={ w with heap:=w.heap.setIfInBounds b o }
@[simp] theorem size_setObj (w:World) (b:Nat) (o:Obj):(w.setObj b o).heap.size = w.heap.size:=by simp [World.setObj]
theorem heap_setObj_ne (w:World) {b k:Nat} (o:Obj) (h:b ≠ k):(w.setObj b o).heap[k]? = w.heap[k]?:=by
  simp only [World.setObj];exact Array.getElem?_setIfInBounds_ne h
theorem heap_setObj_same (w:World) {b:Nat} (o:Obj) (h:b < w.heap.size):(w.setObj b o).heap[b]? = some o:=by
  simp [World.setObj,h]
theorem mod_setObj (w:World) (b:Nat) (o:Obj):Mod (· = b) w (w.setObj b o) :=
  ⟨rfl,rfl,rfl,by simp,fun k _ hk=>heap_setObj_ne w o (fun e=>hk e.symm)⟩
theorem run_getObj_map {es:Array MapEntry} {c:Nat} (h:w.heap[b]? = some (.map es c)):Sem.run P (getObj b) w = .ok (.map es c) w:=by simp [getObj,Sem.run,h]
theorem run_setObj_map {es:Array MapEntry} {c:Nat} (o:Obj) (h:w.heap[b]? = some (.map es c)):Sem.run P (setObj b o) w = .ok () (w.setObj b o):=by simp [setObj,Sem.run,h,World.setObj]
theorem MapIs.update (hK : Keys P kt kenc) (ht : P.underlying t = some (.map kt et)) (h : MapIs kenc venc w b f) (k : κ) (v : β) :
    ∃ o,(Instr.mapUpdate t (.map (some b)) (kenc k) (venc v)).run P w = .ok () (w.setObj b o)∧MapIs kenc venc (w.setObj b o) b (upd f k (some v)):=by
  have hlt:=h.lt
  obtain ⟨L,c,h,hf⟩:=h
  have hfind:=hK.find k (L.map (ment kenc venc)) (L.map (·.1)) w (keys_map L)
  have hgo:=run_getObj_map (P:=P) h.heap
  unfold Instr.mapUpdate
  simp only [Sem.run_bind,run_underlying ht,Result.andThen_ok,hgo,hK.check,hfind]
  cases hp:posOf k (L.map (·.1)) with
  | none =>
    have hk:k ∉ L.map (·.1):=posOf_none.1 hp
    refine ⟨.map ((L.map (ment kenc venc)).toArray.push ⟨kenc k,venc v,c⟩) (c + 1),?_,L ++ [(k,v,c)],c + 1,⟨?_,?_,?_,?_⟩,?_⟩
    · simp only [Option.bind_none];exact run_setObj_map _ h.heap
    · rw [heap_setObj_same _ _ hlt];simp
    · rw [List.map_append];simp only [List.map_cons,List.map_nil]
      rw [List.nodup_append]
      exact ⟨h.keys,by simp,fun x hx y hy=>by simp at hy;subst hy;exact fun e=>hk (e▸hx)⟩
    · rw [List.map_append];simp only [List.map_cons,List.map_nil]
      rw [List.nodup_append]
      exact ⟨h.borns,by simp,fun x hx y hy=>by
        simp at hy;subst hy
        obtain ⟨z,hz,rfl⟩:=List.mem_map.1 hx
        have:=h.fresh z hz;omega⟩
    · intro x hx
      rcases List.mem_append.1 hx with hx|hx
      · have:=h.fresh x hx;omega
      · simp at hx;subst hx;simp
    · intro x;rw [look_push hk];unfold upd;split;· rfl
      · exact hf x
  | some i =>
    have hi:=posOf_get hp
    rw [List.getElem?_map] at hi
    cases hL:L[i]? with
    | none=>simp [hL] at hi
    | some x =>
      have hx:x.1 = k:=by simpa [hL] using hi
      have hkm:k ∈ L.map (·.1):=List.mem_map.2 ⟨x,List.mem_of_getElem? hL,hx⟩
      simp only [Option.bind_some,List.getElem?_map,hL,Option.map_some,Sem.run_bind,List.getElem?_toArray,Option.getD_some,hx,hK.stays,Result.andThen_ok]
      refine ⟨_,run_setObj_map _ h.heap,L.map (fun y=>if y.1 = k then (y.1,v,y.2.2) else y),c,⟨?_,?_,?_,?_⟩,?_⟩
      · rw [heap_setObj_same _ _ hlt]
        congr 2
        apply Array.ext'
        simp only [List.modify_toArray]
        rw [← modify_pos h.keys hp]
        apply List.ext_getElem?
        intro j
        simp only [List.getElem?_modify,List.getElem?_map]
        by_cases hj:i = j
        · subst hj;simp [hL,hx]
        · simp [hj]
      · rw [List.map_map]
        have:L.map ((fun x=>x.1) ∘ fun y=>if y.1 = k then (y.1,v,y.2.2) else y) = L.map (·.1):=List.map_congr_left fun y _=>by
          simp only [Function.comp];split <;> rfl
        rw [this];exact h.keys
      · rw [List.map_map]
        have:L.map ((fun x=>x.2.2) ∘ fun y=>if y.1 = k then (y.1,v,y.2.2) else y) = L.map (·.2.2):=List.map_congr_left fun y _=>by
          simp only [Function.comp];split <;> rfl
        rw [this];exact h.borns
      · intro y hy
        obtain ⟨z,hz,rfl⟩:=List.mem_map.1 hy
        have:=h.fresh z hz
        split <;> exact this
      · intro y;rw [look_upd hkm];unfold upd;split;· rfl
        · exact hf y
theorem MapIs.delete (hK : Keys P kt kenc) (ht : P.underlying t = some (.map kt et)) (h : MapIs kenc venc w b f) (k : κ) (ts : Array TypeId) (hts : ts[0]? = some t) (ty : TypeId) :
    ∃ o,(Builtin.delete_ ts ty #[.map (some b),kenc k]).run P w = .ok (.tuple #[]) (w.setObj b o)∧MapIs kenc venc (w.setObj b o) b (upd f k none):=by
  have hlt:=h.lt
  obtain ⟨L,c,h,hf⟩:=h
  have hfind:=hK.find k (L.map (ment kenc venc)) (L.map (·.1)) w (keys_map L)
  have hgo:=run_getObj_map (P:=P) h.heap
  unfold Builtin.delete_
  have a0:(#[Value.map (some b),kenc k])[0]? = some (.map (some b)):=rfl
  have a1:(#[Value.map (some b),kenc k])[1]? = some (kenc k):=rfl
  simp only [hts,a0,a1,Sem.run_bind,run_underlying ht,Result.andThen_ok,hgo,hK.check,hfind]
  cases hp:posOf k (L.map (·.1)) with
  | none =>
    have hk:k ∉ L.map (·.1):=posOf_none.1 hp
    simp only [Option.bind_none]
    refine ⟨.map (L.map (ment kenc venc)).toArray c,?_,L,c,⟨heap_setObj_same _ _ hlt,h.keys,h.borns,h.fresh⟩,?_⟩
    · simp only [Sem.run_bind,run_setObj_map _ h.heap,Result.andThen_ok,Sem.run_pure]
    · intro x;unfold upd
      split
      · rename_i e;subst e
        rw [look_pos,hp];rfl
      · exact hf x
  | some i =>
    have hi:=posOf_get hp
    rw [List.getElem?_map] at hi
    cases hL:L[i]? with
    | none=>simp [hL] at hi
    | some x =>
      simp only [Option.bind_some,List.getElem?_map,hL,Option.map_some]
      refine ⟨.map ((L.map (ment kenc venc)).toArray.eraseIdxIfInBounds i) c,?_,L.filter (fun y=>decide (y.1 ≠ k)),c,⟨?_,?_,?_,?_⟩,?_⟩
      · simp only [Sem.run_bind,run_setObj_map _ h.heap,Result.andThen_ok,Sem.run_pure]
      · rw [heap_setObj_same _ _ hlt]
        congr 2
        apply Array.ext'
        have hilt:i < (L.map (ment kenc venc)).toArray.size:=by simpa using (List.getElem?_eq_some_iff.1 hL).1
        simp only [Array.eraseIdxIfInBounds,hilt,dif_pos,Array.toList_eraseIdx]
        rw [← erase_pos h.keys hp]
        exact (map_eraseIdx _ _ _).symm
      · exact (List.filter_sublist.map _).nodup h.keys
      · exact (List.filter_sublist.map _).nodup h.borns
      · exact fun y hy=>h.fresh y (List.mem_filter.1 hy).1
      · intro y;rw [look_erase];unfold upd;split;· rfl
        · exact hf y
end
abbrev ki (n:Int):Value:=.int .i64 n
theorem findNow_ints (k : Int) : ∀ (es : List MapEntry) (ks : List Int) (i : Nat), es.map (·.key) = ks.map ki →
    Instr.findNow (.int .i64) (ki k) es i = some ((posOf k ks).bind fun j=>(es[j]?).map fun e=>(i + j,e.val))
  | [],[],_,_=>rfl
  | [],_ :: _,_,h=>by simp at h
  | _ :: _,[],_,h=>by simp at h
  | e :: es,x :: xs,i,h=>by
    simp only [List.map_cons,List.cons.injEq] at h
    unfold Instr.findNow
    rw [h.1]
    by_cases hx:x = k
    · subst hx
      simp [Instr.sameNow,posOf]
    · have hb:(k == x) = false:=by simp;exact fun e=>hx e.symm
      simp only [Instr.sameNow,if_true,hb,posOf,if_neg hx]
      rw [findNow_ints k es xs (i + 1) h.2]
      cases posOf k xs with
      | none=>rfl
      | some j=>simp only [Option.bind_some,Option.map_some,List.getElem?_cons_succ,Nat.add_assoc,Nat.add_comm 1 j]
theorem ints_keys {P:Program} {kt:TypeId} (hk:P.underlying kt = some (.int .i64)):Keys P kt ki where
  check b k w:=by
    rw [show (10000:Nat) = 9999 + 1 from rfl,Instr.checkKey]
    simp only [Sem.run_bind,run_underlying hk,Result.andThen_ok]
    rfl
  find k es ks w h:=by
    unfold Instr.findKey
    simp only [Sem.run_bind,run_underlying hk,Result.andThen_ok]
    rw [findNow_ints k es ks 0 h]
    simp only [Nat.zero_add,Sem.run_pure]
  stays k w:=by
    unfold Instr.keyThatStays
    rw [show Instr.sameBits 10000 (ki k) (ki k) = true from by simp [Instr.sameBits]]
    rfl
abbrev kp (p:Int × Int):Value:=.agg #[.int .i64 p.1,.int .i64 p.2]
theorem equalIn_int {P : Program} {e : TypeId} (he : P.underlying e = some (.int .i64)) (d : Nat) (a b : Int) (w : World) :
    (Op.equalIn (d + 1) e (.int .i64 a) (.int .i64 b)).run P w = .ok (a == b) w:=by
  rw [Op.equalIn]
  simp only [Sem.run_bind,run_underlying he,Result.andThen_ok,if_true]
  rfl
theorem part_int {P : Program} {e : TypeId} (he : P.underlying e = some (.int .i64)) (cs : Array Value) (i : Nat) (v : Value) (w : World) (h : cs[i]? = some v) :
    (part e cs i).run P w = .ok v w:=by
  simp [part,isAgg,run_underlying he,h]
theorem equal_pairs {P : Program} {kt e2 : TypeId} {i2 : TypeInfo} (hk : P.underlying kt = some (.array 2 e2)) (he : P.underlying e2 = some (.int .i64)) (hi : P.info? e2 = some i2) (hs : i2.size = 1) (p q : Int × Int) (w : World) :
    (Op.equal kt (kp p) (kp q)).run P w = .ok (decide (p = q)) w:=by
  have hsz:∀ w,(sizeOf e2).run P w = .ok 1 w:=fun w=>by simp [sizeOf,typeInfo,hi,hs]
  obtain ⟨a,b⟩:=p
  obtain ⟨c,d⟩:=q
  unfold Op.equal Op.maxDepth
  rw [show (10000:Nat) = 9998 + 1 + 1 from rfl,Op.equalIn]
  have h0:=part_int (P:=P) he #[.int .i64 a,.int .i64 b] 0 (.int .i64 a) w rfl
  have h1:=part_int (P:=P) he #[.int .i64 a,.int .i64 b] 1 (.int .i64 b) w rfl
  have h2:=part_int (P:=P) he #[.int .i64 c,.int .i64 d] 0 (.int .i64 c) w rfl
  have h3:=part_int (P:=P) he #[.int .i64 c,.int .i64 d] 1 (.int .i64 d) w rfl
  have hr:List.range' 0 2 1 = [0,1]:=rfl
  have k1:(Op.equalIn 9999 e2 (.int .i64 a) (.int .i64 c)).run P w = .ok (a == c) w:=equalIn_int he 9998 a c w
  have k2:(Op.equalIn 9999 e2 (.int .i64 b) (.int .i64 d)).run P w = .ok (b == d) w:=equalIn_int he 9998 b d w
  by_cases e1:a = c
  · subst e1
    by_cases e2:b = d
    · subst e2
      simp [run_underlying hk,Std.Legacy.Range.forIn_eq_forIn_range',Std.Legacy.Range.size,hsz,hr,h0,h1,k1,k2]
    · simp [run_underlying hk,Std.Legacy.Range.forIn_eq_forIn_range',Std.Legacy.Range.size,hsz,hr,h0,h1,h2,h3,k1,k2,e2]
  · simp [run_underlying hk,Std.Legacy.Range.forIn_eq_forIn_range',Std.Legacy.Range.size,hsz,hr,h0,h2,k1,e1]
theorem findAsking_keys {P : Program} {kt : TypeId} {κ : Type} [DecidableEq κ] {kenc : κ → Value} (heq : ∀ (p q : κ) (w : World), (Op.equal kt (kenc p) (kenc q)).run P w = .ok (decide (p = q)) w) (k : κ) (w : World) :
    ∀ (es:List MapEntry) (ks:List κ) (i:Nat),es.map (·.key) = ks.map kenc →
    (Instr.findAsking kt (kenc k) es i).run P w = .ok ((posOf k ks).bind fun j=>(es[j]?).map fun e=>(i + j,e.val)) w
  | [],[],_,_=>rfl
  | [],_ :: _,_,h=>by simp at h
  | _ :: _,[],_,h=>by simp at h
  | e :: es,x :: xs,i,h=>by
    simp only [List.map_cons,List.cons.injEq] at h
    unfold Instr.findAsking
    rw [h.1]
    simp only [Sem.run_bind,heq,Result.andThen_ok]
    by_cases hx:k = x
    · subst hx
      simp [posOf]
    · have hx':¬ x = k:=fun e=>hx e.symm
      simp only [hx,decide_false,Bool.false_eq_true,if_false,posOf,if_neg hx']
      rw [findAsking_keys heq k w es xs (i + 1) h.2]
      cases posOf k xs with
      | none=>rfl
      | some j=>simp only [Option.bind_some,Option.map_some,List.getElem?_cons_succ,Nat.add_assoc,Nat.add_comm 1 j]
theorem pairs_keys {P:Program} {kt e2:TypeId} {i2:TypeInfo} (hk:P.underlying kt = some (.array 2 e2)) (he:P.underlying e2 = some (.int .i64)) (hi:P.info? e2 = some i2) (hs:i2.size = 1):Keys P kt kp where
  check b k w:=by
    have hsz:∀ w,(sizeOf e2).run P w = .ok 1 w:=fun w=>by simp [sizeOf,typeInfo,hi,hs]
    have hr:List.range' 0 2 1 = [0,1]:=rfl
    obtain ⟨a,c⟩:=k
    have h0:=part_int (P:=P) he #[.int .i64 a,.int .i64 c] 0 (.int .i64 a) w rfl
    have h1:=part_int (P:=P) he #[.int .i64 a,.int .i64 c] 1 (.int .i64 c) w rfl
    have hc:∀ (v:Int),(Instr.checkKey b 9999 e2 (.int .i64 v)).run P w = .ok () w:=fun v=>by
      rw [show (9999:Nat) = 9998 + 1 from rfl,Instr.checkKey]
      simp only [Sem.run_bind,run_underlying he,Result.andThen_ok]
      rfl
    rw [show (10000:Nat) = 9999 + 1 from rfl,Instr.checkKey]
    simp [run_underlying hk,Std.Legacy.Range.forIn_eq_forIn_range',Std.Legacy.Range.size,hsz,hr,h0,h1,hc]
  find k es ks w h:=by
    unfold Instr.findKey
    simp only [Sem.run_bind,run_underlying hk,Result.andThen_ok]
    cases es with
    | nil =>
      cases ks with
      | nil=>rfl
      | cons x xs=>simp at h
    | cons e es =>
      cases ks with
      | nil=>simp at h
      | cons x xs =>
        have hn:Instr.findNow (.array 2 e2) (kp k) (e :: es) 0 = none:=by
          unfold Instr.findNow
          simp [Instr.sameNow]
        rw [hn]
        simp only
        rw [findAsking_keys (fun p q w=>equal_pairs hk he hi hs p q w) k w (e :: es) (x :: xs) 0 h]
        simp only [Nat.zero_add]
  stays k w:=by
    unfold Instr.keyThatStays
    rw [show Instr.sameBits 10000 (kp k) (kp k) = true from by
      rw [show (10000:Nat) = 9999 + 1 from rfl];simp [Instr.sameBits]]
    rfl
end Go.Ws
