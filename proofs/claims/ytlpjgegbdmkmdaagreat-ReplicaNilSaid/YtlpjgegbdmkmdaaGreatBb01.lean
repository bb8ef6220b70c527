/- Lemmas for the statements of this layer (joined texts); no condition. -/
import Derived.Test.YtlpjgegbdmkmdaaGreatBb00
namespace Go.Ws
open Go Go.RowKit
set_option linter.unusedVariables false
theorem _root_.Go.Code.wpIn_mono' {F:Fence} {n:Nat} {P:Program} {c:Code} {Q Q':Exit→Act→World→Prop} {a:Act} {w:World} (hq:∀ e a w,Q e a w→Q' e a w) (h:c.wpIn F n P Q a w):c.wpIn F n P Q' a w:=Go.wpIn_mono h hq
abbrev Post:=Exit→Act→World→Prop
abbrev Res:=Ending→World→Prop
def UpQ (Q:Post):Post:=fun e a w'=>∃ w0,Ext w0 w'∧Q e a w0
def Up (R:Res):Res:=fun e w'=>∃ w0,Ext w0 w'∧R e w0
def Wp (ρ:Option Nat) (P:Program) (c:Code) (Q:Post) (a:Act) (w:World):Prop:=∀ x:Later w,c.wpIn (RF ρ) 0 P (UpQ Q) a (w.later x)
def Fn (P:Program) (f:FuncId) (args:Array Value) (w:World) (R:Res):Prop:=∀ x:Later w,Calls P f args (w.later x) (Up R)
def Rets (R:Value→World→Prop):Res:=fun e w'=>match e with|.returned v=>R v w'|_=>False
abbrev Ret (P:Program) (f:FuncId) (args:Array Value) (w:World) (R:Value→World→Prop):Prop:=Fn P f args w (Rets R)
abbrev Pure (P:Program) (f:FuncId) (args:Array Value) (w:World) (v:Value):Prop:=Ret P f args w fun v' w'=>v' = v∧Ext w w'
theorem Wp.intro {ρ:Option Nat} {P:Program} {c:Code} {Q:Post} {a:Act} {w:World} (h:∀ x:Later w,c.wpIn (RF ρ) 0 P (UpQ Q) a (w.later x)):Wp ρ P c Q a w:=h
theorem Wp.get {ρ:Option Nat} {P:Program} {c:Code} {Q:Post} {a:Act} {w:World} (h:Wp ρ P c Q a w) (x:Later w):c.wpIn (RF ρ) 0 P (UpQ Q) a (w.later x):=h x
theorem Fn.intro {P:Program} {f:FuncId} {args:Array Value} {w:World} {R:Res} (h:∀ x:Later w,Calls P f args (w.later x) (Up R)):Fn P f args w R:=h
theorem Fn.get {P:Program} {f:FuncId} {args:Array Value} {w:World} {R:Res} (h:Fn P f args w R) (x:Later w):Calls P f args (w.later x) (Up R):=h x
theorem Fn.mono {P:Program} {f:FuncId} {args:Array Value} {w:World} {R R':Res} (h:Fn P f args w R) (hr:∀ e w',R e w'→R' e w'):Fn P f args w R' :=
  fun x=>(h x).mono fun _ _ ⟨w0,hE,hR⟩=>⟨w0,hE,hr _ _ hR⟩
theorem Ret.mono {P:Program} {f:FuncId} {args:Array Value} {w:World} {R R':Value→World→Prop} (h:Ret P f args w R) (hr:∀ v w',R v w'→R' v w'):Ret P f args w R' :=
  Fn.mono h fun e w' hR=>by cases e with|returned v=>exact hr _ _ hR|_=>exact hR
theorem Fn.calls {P:Program} {f:FuncId} {args:Array Value} {w:World} {R:Res} (h:Fn P f args w R):Calls P f args w (Up R):=h ⟨w,Ext.refl w⟩
section
variable {ρ:Option Nat} {P:Program} {Q:Post} {a:Act} {w:World}
theorem W_mono {c:Code} {Q':Post} (h:Wp ρ P c Q a w) (hq:∀ e a w,Q e a w→Q' e a w):Wp ρ P c Q' a w :=
  fun x=>Code.wpIn_mono' (fun _ _ _ ⟨w0,hE,hQ⟩=>⟨w0,hE,hq _ _ _ hQ⟩) (h x)
theorem W_skip (h:Q .normal a w):Wp ρ P .skip Q a w:=fun x=>wpIn_skip ⟨w,x.2,h⟩
theorem W_ret (h:Q .ret a w):Wp ρ P .ret Q a w:=fun x=>wpIn_ret ⟨w,x.2,h⟩
theorem W_exit {id:Nat} (h:Q (.exit id) a w):Wp ρ P (.exit id) Q a w:=fun x=>wpIn_exit ⟨w,x.2,h⟩
theorem W_goto {l:Nat} (h:Q (.goto l) a w):Wp ρ P (.goto l) Q a w:=fun x=>wpIn_goto ⟨w,x.2,h⟩
theorem W_label {l:Nat} (h:Q .normal a w):Wp ρ P (.label l) Q a w:=fun x=>wpIn_label ⟨w,x.2,h⟩
theorem W_seq {c d:Code} (h:Wp ρ P c (Exit.then (Wp ρ P d Q) Q) a w):Wp ρ P (.seq c d) Q a w:=fun x =>
  wpIn_seq (Code.wpIn_mono' (fun e a' w' hq=>by
    obtain ⟨w0,hE,hQ⟩:=hq
    cases e with
    | normal=>exact hQ ⟨w',hE⟩
    | _=>exact ⟨w0,hE,hQ⟩) (h x))
theorem W_seqk {c d:Code} (h:∀ K:Act→World→Prop,(∀ a w,Wp ρ P d Q a w→K a w)→Wp ρ P c (Exit.then K Q) a w):Wp ρ P (.seq c d) Q a w:=W_seq (h _ fun _ _ h=>h)
theorem W_cond {c:Operand} {d e:Code} {t:Bool} (hc:a.eval c = .bool t) (ht:t = true→Wp ρ P d Q a w) (hf:t = false→Wp ρ P e Q a w):Wp ρ P (.cond c d e) Q a w:=fun x =>
  wpIn_cond_split hc (fun h=>ht h x) (fun h=>hf h x)
theorem W_if {c:Operand} {d e:Code} (hc:a.eval c = .bool true) (ht:Wp ρ P d Q a w):Wp ρ P (.cond c d e) Q a w:=fun x=>wpIn_cond_true hc (ht x)
theorem W_else {c:Operand} {d e:Code} (hc:a.eval c = .bool false) (ht:Wp ρ P e Q a w):Wp ρ P (.cond c d e) Q a w:=fun x=>wpIn_cond_false hc (ht x)
theorem W_block {id:Nat} {c:Code} (h:Wp ρ P c (Exit.inBlock id Q) a w):Wp ρ P (.block id c) Q a w:=fun x =>
  wpIn_block (Code.wpIn_mono' (fun e a' w' hq=>by
    obtain ⟨w0,hE,hQ⟩:=hq
    cases e with
    | exit id' =>
      simp only [Exit.inBlock] at hQ ⊢
      by_cases hid:id' = id
      · simp only [hid,if_true] at hQ ⊢;exact ⟨w0,hE,hQ⟩
      · simp only [hid,if_false] at hQ ⊢;exact ⟨w0,hE,hQ⟩
    | _=>exact ⟨w0,hE,hQ⟩) (h x))
theorem W_loop {c : Code} (I : Nat → Act → World → Prop) (n : Nat) (h0 : I n a w)
    (round:∀ n a w,I n a w→Wp ρ P c (Exit.then (fun a' w'=>∃ m,m < n∧I m a' w') Q) a w):Wp ρ P (.loop c) Q a w:=by
  intro x b k cs hro hb hr
  have key : ∀ n a w w1, Ext w w1 → I n a w →
      ∃ e a' w',UpQ Q e a' w'∧ArrivesIn (Machine.fenced P (RF ρ)) P (lone (b.atR a (.code c :: .inLoop c :: k)) cs w1) b k cs e a' w':=by
    intro n
    induction n using Nat.strongRecOn with
    | _ n ih =>
      intro a w w1 hE hI
      obtain ⟨e,a₁,w₁,hq,harr⟩:=round n a w hI ⟨w1,hE⟩ b (.inLoop c :: k) cs hro hb hr
      obtain ⟨w0,hE0,hq⟩:=hq
      cases e with
      | normal =>
        obtain ⟨m,hlt,hI₁⟩:=hq
        obtain ⟨e₂,a₂,w₂,hq₂,harr₂⟩:=ih m hlt a₁ w0 w₁ hE0 hI₁
        exact ⟨e₂,a₂,w₂,hq₂,.of_steps (StepsIn.trans harr (.one (fenced_calm hb hr rfl) stepR_inLoop)) harr₂⟩
      | exit id=>exact ⟨_,a₁,w₁,⟨w0,hE0,hq⟩,.pass (x:=.inLoop c) rfl (fun _ _=>.inl (by simp)) harr⟩
      | goto l=>exact ⟨_,a₁,w₁,⟨w0,hE0,hq⟩,.pass (x:=.inLoop c) rfl (fun _ _=>.inl (by simp)) harr⟩
      | ret=>exact ⟨_,a₁,w₁,⟨w0,hE0,hq⟩,.pass (x:=.inLoop c) rfl (fun _ _=>.inl (by simp)) harr⟩
      | panic ch=>exact ⟨_,a₁,w₁,⟨w0,hE0,hq⟩,.pass (x:=.inLoop c) rfl (fun _ _=>.inl (by simp)) harr⟩
      | outgrown=>exact ⟨_,a₁,w₁,⟨w0,hE0,hq⟩,.pass (x:=.inLoop c) rfl (fun _ _=>.inl (by simp)) harr⟩
  obtain ⟨e,a',w',hq,harr⟩:=key n a w (w.later x) x.2 h0
  exact ⟨e,a',w',hq,.of_steps (.one (fenced_calm hb hr rfl) stepR_loop) harr⟩
def After:List Deferred→World→World→Prop
  | [],w,w'=>w' = w
  | d :: ds,w,w'=>∃ r,d.target = .collected r∧w.heap[r]? = some (.deferred (some []))∧After ds (w.putObj r (.deferred none)) w'
theorem ext_putObj {w W:World} (h:Ext w W) (r:Nat) (o:Obj):Ext (w.putObj r o) (W.putObj r o):=by
  refine ⟨h.os,h.tape,h.output,?_,fun k hk _=>?_⟩
  · simp only [World.putObj,Array.size_setIfInBounds];exact h.size
  · simp only [World.putObj,Array.size_setIfInBounds] at hk ⊢
    by_cases hkr:r = k
    · subst hkr
      have:r < W.heap.size:=Nat.lt_of_lt_of_le hk h.size
      simp [hk,this]
    · rw [Array.getElem?_setIfInBounds_ne hkr,Array.getElem?_setIfInBounds_ne hkr]
      exact h.block k hk (fun h=>h)
theorem leaves_of_after {fn : Func} {tmps : Array Value} {R : Ending → World → Prop} {u : FrameMode} (hu : u ≠ .run) : ∀ (ds : List Deferred) (w w' W : World), After ds w w' → Ext w W →
    (∀ W',Ext w' W'→LeavesInM (RF none) 0 P fn tmps R [] u W')→LeavesInM (RF none) 0 P fn tmps R ds u W
  | [],w,w',W,h,hE,hl=>by cases h;exact hl W hE
  | d :: ds,w,w',W,h,hE,hl=>by
    obtain ⟨r,ht,hr,h⟩:=h
    have hlt:r < w.heap.size:=(Array.getElem?_eq_some_iff.1 hr).1
    exact ⟨hu,.inl ⟨r,_,ht,run_takeDeferred ((hE.block r hlt (fun h=>h)).trans hr),leaves_of_after hu ds _ _ _ h (ext_putObj hE r _) hl⟩⟩
def Body (P:Program) (fn:Func) (R:Res):Post
  | .normal,a,w|.ret,a,w=>∃ w',After a.defers w w'∧∃ v,(∀ x:Later w',(results fn a.tmps).run P (w'.later x) = .ok v (w'.later x))∧R (.returned v) w'
  | .panic chain,a,w=>∃ w',After a.defers w w'∧R (.panicked chain) w'
  | .outgrown,_,w=>R .outgrown w
  | _,_,_=>False
theorem Fn_ofW {f : FuncId} {fn : Func} {c : Code} {args : Array Value} {R : Res} (hf : P.funcs[f]? = some fn) (hb : fn.body = some c)
    (h:Wp none P c (Body P fn R) { tmps:=args ++ Array.replicate (fn.ntmps - args.size) undef,defers:=[] } w):Fn P f args w R:=fun x=>by
  refine (callsIn_wide (n:=0)).1 (callsIn_of_wp_marks (F:=RF none) hf hb trivial (Code.wpIn_mono' (fun e a' w' hq=>?_) (h x)))
  obtain ⟨w0,hE,hq⟩:=hq
  cases e with
  | normal=>obtain ⟨w1,hA,v,hr,hR⟩:=hq;exact leaves_of_after (by simp) _ _ _ _ hA hE fun W' hE'=>⟨v,hr ⟨W',hE'⟩,w1,hE',hR⟩
  | ret=>obtain ⟨w1,hA,v,hr,hR⟩:=hq;exact leaves_of_after (by simp) _ _ _ _ hA hE fun W' hE'=>⟨v,hr ⟨W',hE'⟩,w1,hE',hR⟩
  | panic chain=>obtain ⟨w1,hA,hR⟩:=hq;exact leaves_of_after (by simp) _ _ _ _ hA hE fun W' hE'=>⟨w1,hE',hR⟩
  | outgrown=>exact ⟨w0,hE,hq⟩
  | exit id=>exact hq
  | goto l=>exact hq
def Is {α:Type} (a b:α):Prop:=a = b
theorem Is.mk {α:Type} (a:α):Is a a:=rfl
inductive Eqn {α:Type}:α→α→Prop
  | mk (a:α):Eqn a a
theorem Is.eq {α:Type} {a b:α} (h:Is a b):a = b:=h
def lkp (t:Nat):List (Nat × Value)→Act→Value
  | [],A=>A.tmps.getD t undef
  | (d,v) :: l,A=>if d = t then v else lkp t l A
def tmpsOf:List (Nat × Value)→Array Value→Array Value
  | [],B=>B
  | (d,v) :: l,B=>(tmpsOf l B).setIfInBounds d v
def fr (l:List (Nat × Value)) (A:Act):Act:={ tmps:=tmpsOf l A.tmps,defers:=A.defers }
@[congr] theorem fr_congr (l:List (Nat × Value)) (A:Act):fr l A = fr l A:=rfl
@[simp] theorem size_tmpsOf (B:Array Value):∀ l,(tmpsOf l B).size = B.size
  | []=>rfl
  | (d,v) :: l=>by simp [tmpsOf,size_tmpsOf B l]
theorem get_tmpsOf (A:Act) (t:Nat) (ht:t < A.tmps.size):∀ l,(tmpsOf l A.tmps).getD t undef = lkp t l A
  | []=>rfl
  | (d,v) :: l=>by
    unfold tmpsOf lkp
    rw [← get_tmpsOf A t ht l]
    by_cases h:d = t
    · subst h;simp [ht]
    · simp [h]
theorem fr_tmps (l:List (Nat × Value)) (A:Act):(fr l A).tmps = tmpsOf l A.tmps:=rfl
theorem fr_mk (l:List (Nat × Value)) (A:Act) (t:Array Value) (d:List Deferred) (h:A.tmps = t):({ tmps:=tmpsOf l t,defers:=d }:Act) = fr l { tmps:=A.tmps,defers:=d }:=by rw [h];rfl
theorem fr_defers (l:List (Nat × Value)) (A:Act):(fr l A).defers = A.defers:=rfl
@[go_sem ↓,simp ↓] theorem fr_eval (l:List (Nat × Value)) (A:Act) (t:Nat) (ht:t < A.tmps.size):(fr l A).eval (.tmp t) = lkp t l A:=get_tmpsOf A t ht l
@[go_sem ↓,simp ↓] theorem fr_const (l:List (Nat × Value)) (A:Act) (v:Value):(fr l A).eval (.const v) = v:=rfl
@[go_sem ↓,simp ↓] theorem fr_func (l:List (Nat × Value)) (A:Act) (f:FuncId):(fr l A).eval (.func f) = .func (.func f) #[] #[]:=rfl
@[go_sem ↓,simp ↓] theorem fr_get (l:List (Nat × Value)) (A:Act) (t:Nat) (ht:t < A.tmps.size):(fr l A).tmps.getD t undef = lkp t l A:=get_tmpsOf A t ht l
@[go_sem,simp] theorem fr_getq (l:List (Nat × Value)) (A:Act) (t:Nat) (ht:t < A.tmps.size):((fr l A).tmps[t]?).getD undef = lkp t l A:=by rw [← fr_get l A t ht,Array.getD_eq_getD_getElem?]
@[go_sem ↓,simp ↓] theorem lkp_hit (t:Nat) (v:Value) (l:List (Nat × Value)) (A:Act):lkp t ((t,v) :: l) A = v:=by simp [lkp]
@[go_sem ↓,simp ↓] theorem lkp_miss (t d:Nat) (v:Value) (l:List (Nat × Value)) (A:Act) (h:d ≠ t):lkp t ((d,v) :: l) A = lkp t l A:=by simp [lkp,h]
@[congr] theorem lkp_congr (t:Nat) (l:List (Nat × Value)) (A:Act):lkp t l A = lkp t l A:=rfl
theorem fr_put (l:List (Nat × Value)) (A:Act) (d:Nat) (v:Value):(fr l A).put (some d) v = fr ((d,v) :: l) A:=rfl
def ix:Nat→List Value→List (Nat × Value)
  | _,[]=>[]
  | k,v :: vs=>(k,v) :: ix (k + 1) vs
theorem tmpsOf_args:∀ (vals pre:List Value) (m:Nat),(pre ++ (vals ++ List.replicate m undef)).toArray = tmpsOf (ix pre.length vals) (pre ++ (vals ++ List.replicate m undef)).toArray
  | [],pre,m=>by simp [ix,tmpsOf]
  | v :: vs,pre,m=>by
    have ih:=tmpsOf_args vs (pre ++ [v]) m
    simp only [List.append_assoc,List.singleton_append,List.length_append,List.length_singleton] at ih
    simp only [ix,tmpsOf,List.cons_append]
    rw [← ih]
    simp
theorem Fn_of {f : FuncId} {fn : Func} {c : Code} {vals : List Value} {R : Res} (hf : P.funcs[f]? = some fn) (hb : fn.body = some c) (hn : vals.length ≤ fn.ntmps)
    (h:∀ A:Act,A.defers = []→A.tmps.size = fn.ntmps→Wp none P c (Body P fn R) (fr (ix 0 vals) A) w):Fn P f vals.toArray w R:=by
  refine Fn_ofW hf hb ?_
  have h1:=tmpsOf_args vals [] (fn.ntmps - vals.length)
  simp only [List.nil_append,List.length_nil] at h1
  have h2:vals.toArray ++ Array.replicate (fn.ntmps - vals.toArray.size) undef = (vals ++ List.replicate (fn.ntmps - vals.length) undef).toArray:=by
    apply Array.ext';simp
  rw [h2]
  have h3:=h { tmps:=(vals ++ List.replicate (fn.ntmps - vals.length) undef).toArray,defers:=[] } rfl (by simp;omega)
  unfold fr at h3
  rw [← h1] at h3
  exact h3
theorem Body_ret {fn : Func} {R : Res} {e : Exit} {t : Tmp} {v : Value} {l : List (Nat × Value)} {A : Act} (hd : A.defers = []) (hR : R (.returned v) w) (hr : fn.results = #[.tmp t] := by rfl) (he : e = .ret ∨ e = .normal := by first | exact .inl rfl | exact .inr rfl)
    (hv:Is ((fr l A).tmps.getD t undef) v:=by go_simp;exact Is.mk _):Body P fn R e (fr l A) w:=by
  rcases he with rfl|rfl <;> exact ⟨w,by rw [fr_defers,hd];rfl,v,fun x=>by rw [results_tmp hr,hv.eq],hR⟩
theorem Body_ret2 {fn : Func} {R : Res} {e : Exit} {t u : Tmp} {v v' : Value} {l : List (Nat × Value)} {A : Act} (hd : A.defers = []) (hR : R (.returned (.tuple #[v, v'])) w) (hr : fn.results = #[.tmp t, .tmp u] := by rfl) (he : e = .ret ∨ e = .normal := by first | exact .inl rfl | exact .inr rfl)
    (hv:Is ((fr l A).tmps.getD t undef) v:=by go_simp;exact Is.mk _) (hv':Is ((fr l A).tmps.getD u undef) v':=by go_simp;exact Is.mk _):Body P fn R e (fr l A) w:=by
  rcases he with rfl|rfl <;> exact ⟨w,by rw [fr_defers,hd];rfl,_,fun x=>by rw [results_tmp2 hr,hv.eq,hv'.eq],hR⟩
theorem Body_ret3 {fn : Func} {R : Res} {e : Exit} {t u s : Tmp} {v v' v'' : Value} {l : List (Nat × Value)} {A : Act} (hd : A.defers = []) (hR : R (.returned (.tuple #[v, v', v''])) w) (hr : fn.results = #[.tmp t, .tmp u, .tmp s] := by rfl) (he : e = .ret ∨ e = .normal := by first | exact .inl rfl | exact .inr rfl)
    (hv:Is ((fr l A).tmps.getD t undef) v:=by go_simp;exact Is.mk _) (hv':Is ((fr l A).tmps.getD u undef) v':=by go_simp;exact Is.mk _) (hv'':Is ((fr l A).tmps.getD s undef) v'':=by go_simp;exact Is.mk _):Body P fn R e (fr l A) w:=by
  rcases he with rfl|rfl <;> exact ⟨w,by rw [fr_defers,hd];rfl,.tuple #[v,v',v''],fun x=>by simp [results,hr,← hv.eq,← hv'.eq,← hv''.eq],hR⟩
theorem Body_ret0 {fn:Func} {R:Res} {e:Exit} {l:List (Nat × Value)} {A:Act} (hd:A.defers = []) (hR:R (.returned (.tuple #[])) w) (hr:fn.results = #[]:=by rfl) (he:e = .ret∨e = .normal:=by first|exact .inl rfl|exact .inr rfl):Body P fn R e (fr l A) w:=by
  rcases he with rfl|rfl <;> exact ⟨w,by rw [fr_defers,hd];rfl,_,fun x=>results_none hr _ _ _,hR⟩
theorem W_test {c:Operand} {d e:Code} {t:Bool} {l:List (Nat × Value)} {A:Act} (ht:t = true→Wp ρ P d Q (fr l A) w) (hf:t = false→Wp ρ P e Q (fr l A) w) (hc:Is ((fr l A).eval c) (.bool t):=by go_simp;exact Is.mk _):Wp ρ P (.cond c d e) Q (fr l A) w :=
  W_cond hc.eq ht hf
theorem W_tt {c:Operand} {d e:Code} {l:List (Nat × Value)} {A:Act} (ht:Wp ρ P d Q (fr l A) w) (hc:Is ((fr l A).eval c) (.bool true):=by go_simp;exact Is.mk _):Wp ρ P (.cond c d e) Q (fr l A) w :=
  W_if hc.eq ht
theorem W_ff {c:Operand} {d e:Code} {l:List (Nat × Value)} {A:Act} (ht:Wp ρ P e Q (fr l A) w) (hc:Is ((fr l A).eval c) (.bool false):=by go_simp;exact Is.mk _):Wp ρ P (.cond c d e) Q (fr l A) w :=
  W_else hc.eq ht
theorem W_loops {c : Code} {l : List (Nat × Value)} {A : Act} {N : Nat} {ds : List Deferred} (ss : List Nat) (I : Nat → List Value → World → Prop) (n : Nat) (hd : A.defers = ds) (hA : A.tmps.size = N) (hs : ∀ s ∈ ss, s < N) (h0 : I n (ss.map fun s => lkp s l A) w)
    (round:∀ (n:Nat) (vs:List Value) (B:Act) (w:World),B.defers = ds→B.tmps.size = N→vs.length = ss.length→I n vs w →
      Wp ρ P c (Exit.then (fun a' w'=>∃ (l':List (Nat × Value)) (B':Act),a' = fr l' B'∧B'.defers = ds∧B'.tmps.size = N∧∃ m,m < n∧I m (ss.map fun s=>lkp s l' B') w') Q) (fr (ss.zip vs) B) w):Wp ρ P (.loop c) Q (fr l A) w:=by
  subst hA
  refine W_loop (fun n a w=>a.defers = ds∧a.tmps.size = A.tmps.size∧I n (ss.map fun s=>a.tmps.getD s undef) w) n ⟨hd,by simp [fr],?_⟩ ?_
  · have:(ss.map fun s=>(fr l A).tmps.getD s undef) = ss.map fun s=>lkp s l A:=List.map_congr_left fun s hs'=>get_tmpsOf A s (hs s hs') l
    rw [this];exact h0
  · intro n a w hI
    obtain ⟨had,has,hI⟩:=hI
    have hr:=round n (ss.map fun s=>a.tmps.getD s undef) a w had has (by simp) hI
    have hfr:fr (ss.zip (ss.map fun s=>a.tmps.getD s undef)) a = a:=by
      obtain ⟨tm,de⟩:=a
      unfold fr
      simp only
      congr 1
      clear hI hr round h0 hs
      induction ss with
      | nil=>rfl
      | cons s ss ih =>
        simp only [List.map_cons,List.zip_cons_cons,tmpsOf]
        rw [ih]
        apply Array.ext
        · simp
        · intro i h1 h2
          rw [Array.getElem_setIfInBounds]
          split
          · rename_i e;subst e;simp [h2]
          · rfl
    rw [hfr] at hr
    refine W_mono hr ?_
    intro e a' w' hQ
    cases e with
    | normal =>
      obtain ⟨l',B',rfl,hd',hs',m,hm,hI'⟩:=hQ
      refine ⟨m,hm,hd',by simp [fr,hs'],?_⟩
      have:(ss.map fun s=>(fr l' B').tmps.getD s undef) = ss.map fun s=>lkp s l' B':=List.map_congr_left fun s hs''=>get_tmpsOf B' s (by rw [hs'];exact hs s hs'') l'
      rw [this];exact hI'
    | _=>exact hQ
def gv (g:Bool) (v:Value):Value:=match g with|true=>v|false=>undef
def gw (v:Value) (want:Bool):Bool:=match v with|.bool b=>b == want|_=>false
@[simp,go_sem] theorem gv_true (v:Value):gv true v = v:=rfl
@[simp,go_sem] theorem gv_false (v:Value):gv false v = undef:=rfl
@[simp,go_sem] theorem gw_true (b:Bool):gw (.bool b) true = b:=by cases b <;> rfl
@[simp,go_sem] theorem gw_false (b:Bool):gw (.bool b) false = !b:=by cases b <;> rfl
@[simp,go_sem] theorem gw_undef (b:Bool):gw undef b = false:=rfl
@[simp,go_sem] theorem gw_gv (g:Bool) (v:Value) (b:Bool):gw (gv g v) b = (g && gw v b):=by cases g <;> rfl
@[simp,go_sem] theorem pick_or (x y:Bool):(if x = true then Value.bool true else gv (!x) (.bool y)) = .bool (x || y):=by cases x <;> rfl
@[simp,go_sem] theorem pick_and (x y:Bool):(if x = true then gv x (.bool y) else Value.bool false) = .bool (x && y):=by cases x <;> rfl
theorem wanted_gw {ops : Array Oper} {o : Oper} {j t : Nat} {want : Bool} (hg : o.guard = some (j, want)) (ht : (ops[j]?).bind (·.dst) = some t) (tmps : Array Value) :
    Region.wanted o (yielded ops tmps) = gw (tmps.getD t undef) want:=by
  unfold Region.wanted yielded
  simp only [hg,ht,Option.bind_some]
  rw [Array.getD_eq_getD_getElem?]
  cases tmps[t]? with
  | none=>rfl
  | some v=>cases v <;> simp [gw]
def kindOf (o:Oper):Nat :=
  match o.op with
  | .move _|.assign _|.pick ..|.load ..|.nilCheck _|.binOp ..|.unOp ..|.convert ..|.fieldAddr ..|.field ..|.indexAddr ..|.index ..|.extract ..|.slice ..|.build ..|.lookup ..|.entry _
  | .typeAssert ..|.makeInterface ..|.makeFunc ..=>0
  | .alloc _|.box ..|.buildSlice ..|.makeMap ..|.makeSlice ..|.range ..=>1
  | .call { callee:=.builtin .len,.. }|.call { callee:=.builtin .cap,.. }|.call { callee:=.builtin .min,.. }|.call { callee:=.builtin .max,.. }=>0
  | _=>2
abbrev tag (o:Oper):Oper × Nat:=(o,kindOf o)
def wpX (P:Program) (ops:Array Oper) (Q:Post):List (Oper × Nat)→Act→World→Prop
  | [],a,w=>Q .normal a w
  | (o,0) :: rest,a,w=>∃ v,YieldsQ P ops o v a w∧wpX P ops Q rest (a.put o.dst v) w
  | (o, 1) :: rest, a, w => ∀ x : Later w, if Region.wanted o (yielded ops a.tmps) = true
      then OpW P o a (w.later x) (fun a' w'=>Ext (w.later x) w'∧∃ w0,Ext w0 w'∧wpX P ops Q rest a' w0) (fun _ _ _=>False)
      else ∃ w0,Ext w0 (w.later x)∧wpX P ops Q rest (a.put o.dst undef) w0
  | (o, _) :: rest, a, w => ∀ x : Later w, if Region.wanted o (yielded ops a.tmps) = true
      then OpW P o a (w.later x) (fun a' w'=>∃ w0,Ext w0 w'∧wpX P ops Q rest a' w0) (UpQ Q)
      else ∃ w0,Ext w0 (w.later x)∧wpX P ops Q rest (a.put o.dst undef) w0
theorem YieldsQ.wp {ops : Array Oper} {o : Oper} {v : Value} (hy : YieldsQ P ops o v a w) {K : Act → World → Prop} {Q' : Post} (x : Later w)
    (h:∀ w',Ext w w'→K (a.put o.dst v) w') :
    if Region.wanted o (yielded ops a.tmps) = true then OpW P o a (w.later x) K Q' else K (a.put o.dst undef) (w.later x):=by
  rcases hy with ⟨hw,hv⟩|⟨hw,rfl⟩
  · simp only [hw,if_true]
    have h3:=hv x
    unfold Oper.quietAt at h3
    unfold OpW
    generalize (execOp a.eval o).run P (w.later x) = r at *
    cases r with
    | ok n w' =>
      cases n <;> simp only [Oper.quietUpon] at h3 <;> simp only [uponW]
      case value u=>obtain ⟨e1,e2⟩:=h3;rw [e1,e2];exact h _ x.2
      case skip=>obtain ⟨e1,e2⟩:=h3;rw [e1,← e2];exact h _ x.2
      case enter f args =>
        obtain ⟨e1,hc⟩:=h3
        rw [e1]
        exact hc.mono fun e w'' ⟨he,hw''⟩=>by subst he;exact h _ (Ext.trans x.2 hw'')
    | halt x w'=>simp only [Oper.quietUpon] at h3
  · simp only [hw,Bool.false_eq_true,if_false];exact h _ x.2
theorem wpList_of_wpX {ops:Array Oper}:∀ (l:List (Oper × Nat)),(ρ = none∨∀ p ∈ l,noDefer p.1 = true)→∀ (a:Act) (w w1:World),Ext w w1→wpX P ops Q l a w→wpListIn (RF ρ) 0 P ops (UpQ Q) (l.map (·.1)) a w1
  | [],_,a,w,w1,hE,h=>⟨w,hE,h⟩
  | (o,0) :: rest,hn,a,w,w1,hE,h=>by
    obtain ⟨v,hy,hr⟩:=h
    have:=hy.wp (K:=wpListIn (RF ρ) 0 P ops (UpQ Q) (rest.map (·.1))) (Q':=UpQ Q) ⟨w1,hE⟩ (fun w' hw'=>wpList_of_wpX rest (hn.imp id fun h p hp=>h p (by simp [hp])) _ _ _ hw' hr)
    simp only [List.map_cons,wpListIn]
    split
    · rename_i hw;rw [if_pos hw] at this;exact opIn_of_W (hn.imp id fun h=>h (o,0) (by simp)) this
    · rename_i hw;rw [if_neg hw] at this;exact ⟨fun _ _=>trivial,this⟩
  | (o,1) :: rest,hn,a,w,w1,hE,h=>by
    have:=h ⟨w1,hE⟩
    simp only [List.map_cons,wpListIn]
    split
    · rename_i hw;rw [if_pos hw] at this
      exact opIn_of_W (hn.imp id fun h=>h (o,1) (by simp)) (this.mono (fun a' w' ⟨_,w0,hE0,h0⟩=>wpList_of_wpX rest (hn.imp id fun h p hp=>h p (by simp [hp])) _ _ _ hE0 h0) (fun _ _ _ h=>h.elim))
    · rename_i hw;rw [if_neg hw] at this
      obtain ⟨w0,hE0,h0⟩:=this
      exact ⟨fun _ _=>trivial,wpList_of_wpX rest (hn.imp id fun h p hp=>h p (by simp [hp])) _ _ _ hE0 h0⟩
  | (o,k + 2) :: rest,hn,a,w,w1,hE,h=>by
    have:=h ⟨w1,hE⟩
    simp only [List.map_cons,wpListIn]
    split
    · rename_i hw;rw [if_pos hw] at this
      exact opIn_of_W (hn.imp id fun h=>h (o,k + 2) (by simp)) (this.mono (fun a' w' ⟨w0,hE0,h0⟩=>wpList_of_wpX rest (hn.imp id fun h p hp=>h p (by simp [hp])) _ _ _ hE0 h0) (fun _ _ _ h=>h))
    · rename_i hw;rw [if_neg hw] at this
      obtain ⟨w0,hE0,h0⟩:=this
      exact ⟨fun _ _=>trivial,wpList_of_wpX rest (hn.imp id fun h p hp=>h p (by simp [hp])) _ _ _ hE0 h0⟩
def Calm (Q:Post):Post
  | .normal,a,w=>Q .normal a w
  | _,_,_=>False
theorem calm_le {Q:Post} (e:Exit) (a:Act) (w:World) (h:UpQ (Calm Q) e a w):UpQ Q e a w:=by
  obtain ⟨w0,hE,h⟩:=h
  cases e with
  | normal=>exact ⟨w0,hE,h⟩
  | _=>exact h.elim
theorem wpMix_of_wpX {ops:Array Oper}:∀ (l:List (Oper × Nat)) (σ:List (Nat × Nat)) (a:Act) (w:World),(∀ p ∈ l.zip σ,ops[p.2.1]? = some p.1.1∧p.1.2 = p.2.2)→l.length = σ.length→wpX P ops (Calm Q) l a w→wpMix P ops (UpQ (Calm Q)) σ a w
  | [],[],a,w,_,_,h=>fun x=>⟨w,x.2,h⟩
  | [],_ :: _,_,_,_,hl,_=>by cases hl
  | _ :: _,[],_,_,_,hl,_=>by cases hl
  | (o,k) :: rest,(i,k') :: σ,a,w,hz,hl,h=>by
    have h0:=hz ((o,k),(i,k')) (by simp)
    obtain ⟨ho,rfl⟩:ops[i]? = some o∧k = k':=h0
    have hz':∀ p ∈ rest.zip σ,ops[p.2.1]? = some p.1.1∧p.1.2 = p.2.2:=fun p hp=>hz p (by simp [hp])
    have hl':rest.length = σ.length:=by simpa using hl
    match k with
    | 0 =>
      obtain ⟨v,hy,hr⟩:=h
      exact ⟨v,o,ho,hy,wpMix_of_wpX rest σ _ _ hz' hl' hr⟩
    | 1 =>
      intro x
      have:=h x
      unfold softOp
      simp only [ho]
      split
      · rename_i hw;rw [if_pos hw] at this
        exact this.mono (fun a' w' ⟨h1,w0,hE0,h0⟩=>⟨h1,(wpMix_of_wpX rest σ _ _ hz' hl' h0).later hE0⟩) (fun _ _ _ h=>h)
      · rename_i hw;rw [if_neg hw] at this
        obtain ⟨w0,hE0,h0⟩:=this
        exact ⟨Ext.refl _,(wpMix_of_wpX rest σ _ _ hz' hl' h0).later hE0⟩
    | k + 2 =>
      intro x
      have:=h x
      unfold softOp
      simp only [ho]
      split
      · rename_i hw;rw [if_pos hw] at this
        exact this.mono (fun a' w' ⟨w0,hE0,h0⟩=>(wpMix_of_wpX rest σ _ _ hz' hl' h0).later hE0) (fun _ _ _ ⟨_,_,h⟩=>h)
      · rename_i hw;rw [if_neg hw] at this
        obtain ⟨w0,hE0,h0⟩:=this
        exact (wpMix_of_wpX rest σ _ _ hz' hl' h0).later hE0
theorem W_seqr {rid:Nat} {l:List Oper} (h:wpX P l.toArray Q (l.map tag) a w) (hnd:calmIn ρ l:=by first|exact .inl rfl|exact .inr (by kernel_rfl)):Wp ρ P (.region rid l.toArray false) Q a w:=fun x=>by
  have:=wpList_of_wpX (ρ:=ρ) _ (hnd.imp id fun h p hp=>by
    obtain ⟨o,ho,rfl⟩:=List.mem_map.1 hp
    exact List.all_eq_true.1 h o ho) _ _ _ x.2 h
  simp only [List.map_map] at this
  rw [show (fun x:Oper × Nat=>x.fst) ∘ tag = id from rfl,List.map_id] at this
  exact wpIn_region_lit this
def lexσ (l:List Oper):List (Nat × Nat):=l.zipIdx.map fun p=>(p.2,kindOf p.1)
theorem lex_zip {ops:Array Oper}:∀ (l:List Oper) (n:Nat),(∀ j,l[j]? = ops[n + j]?)→∀ p ∈ (l.map tag).zip ((l.zipIdx n).map fun p=>(p.2,kindOf p.1)),ops[p.2.1]? = some p.1.1∧p.1.2 = p.2.2
  | [],_,_,p,hp=>by simp at hp
  | o :: l,n,h,p,hp=>by
    simp only [List.map_cons,List.zipIdx_cons,List.zip_cons_cons,List.mem_cons] at hp
    rcases hp with rfl|hp
    · exact ⟨by have:=h 0;simpa using this.symm,rfl⟩
    · exact lex_zip l (n + 1) (fun j=>by have:=h (j + 1);simp only [List.getElem?_cons_succ] at this;rw [this];congr 1;omega) p hp
theorem W_draw {id:Nat} {l:List Oper} (hm:P.follows .mixedOrders = true) (hB:mixOk .any l.toArray (lexσ l) = true) (h:wpX P l.toArray (Calm Q) (l.map tag) a w) (hnd:calmIn ρ l:=by first|exact .inl rfl|exact .inr (by kernel_rfl)):Wp ρ P (.region id l.toArray true) Q a w:=fun x=>by
  refine Code.wpIn_mono' calm_le (wp_region_mix (lexσ l) hnd hm hB ?_)
  exact (wpMix_of_wpX (l.map tag) (lexσ l) a w (lex_zip l 0 (by simp)) (by simp [lexσ]) h).later x.2
theorem W_drawσ {id : Nat} {l : List Oper} (σ : List (Nat × Nat)) (hm : P.follows .mixedOrders = true) (hB : mixOk .any l.toArray σ = true)
    (h:wpX P l.toArray (Calm Q) (σ.map fun p=>(l.getD p.1 default,p.2)) a w) (hnd:calmIn ρ l:=by first|exact .inl rfl|exact .inr (by kernel_rfl)):Wp ρ P (.region id l.toArray true) Q a w:=fun x=>by
  refine Code.wpIn_mono' calm_le (wp_region_mix σ hnd hm hB ?_)
  refine (wpMix_of_wpX _ σ a w ?_ (by simp) h).later x.2
  have hlt:∀ (σ:List (Nat × Nat)) (listed:Array Bool),mixB .any l.toArray σ listed = true→∀ p ∈ σ,p.1 < l.toArray.size:=by
    intro σ
    induction σ with
    | nil=>intro _ _ p hp;cases hp
    | cons q rest ih =>
      intro listed hB p hp
      obtain ⟨i,k⟩:=q
      simp only [mixB,Bool.and_eq_true] at hB
      rcases List.mem_cons.1 hp with rfl|hp
      · have hr : i ∈ Region.ready .any l.toArray listed := by
          match k with
          | 0=>have h1:=hB.1;simp only [Bool.and_eq_true] at h1;simpa using h1.1
          | k + 1=>have:=hB.1;simp only [decide_eq_true_eq] at this;rw [this];simp
        obtain ⟨_,o,ho,_⟩:=mem_ready.1 hr
        exact (Array.getElem?_eq_some_iff.1 ho).1
      · exact ih _ hB.2 p hp
  simp only [mixOk,Bool.and_eq_true] at hB
  have hlt':=hlt σ _ hB.2
  intro p hp
  have:∀ (τ:List (Nat × Nat)),(∀ q ∈ τ,q.1 < l.toArray.size)→p ∈ (τ.map fun q=>(l.getD q.1 default,q.2)).zip τ→l.toArray[p.2.1]? = some p.1.1∧p.1.2 = p.2.2:=by
    intro τ
    induction τ with
    | nil=>intro _ h;simp at h
    | cons q τ ih =>
      intro hq h
      simp only [List.map_cons,List.zip_cons_cons,List.mem_cons] at h
      rcases h with rfl|h
      · have:=hq q (by simp)
        simp only [List.size_toArray] at this
        refine ⟨?_,rfl⟩
        simp [this]
      · exact ih (fun r hr=>hq r (by simp [hr])) h
  exact this σ hlt' hp
def defs (ops:Array Oper) (o:Oper):Bool :=
  ops.toList.any fun o'=>match o'.guard with|some (j,_)=>(match ops[j]? with|some oj=>o.dst.isSome && oj.dst == o.dst|none=>false)|none=>false
variable {ops:Array Oper} {o:Oper} {l:List Oper}
theorem X_nil (h:Q .normal a w):wpX P ops Q [] a w:=h
theorem X_niln (h:Q .normal a w):wpX P ops (Calm Q) [] a w:=h
variable {A:Act} {fl:List (Nat × Value)}
theorem X_q {rest : List (Oper × Nat)} {v : Value} {d : Nat} (h : wpX P ops Q rest (fr ((d, v) :: fl) A) w) (hd : o.dst = some d := by rfl) (hg : o.guard = none := by rfl)
    (hv:∀ x:Later w,o.quietAt P (fr fl A) (Ext (w.later x)) (w.later x) v:=by intro x;go_simp;(try go_bits);exact rfl):wpX P ops Q ((o,0) :: rest) (fr fl A) w :=
  ⟨v,.inl ⟨by simp [Region.wanted,hg],hv⟩,by rw [hd];exact h⟩
theorem X_g {rest : List (Oper × Nat)} {v : Value} {d : Nat} {j t : Nat} {want g : Bool} (h : wpX P ops Q rest (fr ((d, gv g v) :: fl) A) w) (hd : o.dst = some d := by rfl) (hg : o.guard = some (j, want) := by rfl) (ht : (ops[j]?).bind (·.dst) = some t := by rfl)
    (hgg:Is (gw ((fr fl A).tmps.getD t undef) want) g:=by go_simp;exact Is.mk _)
    (hv:g = true→∀ x:Later w,o.quietAt P (fr fl A) (Ext (w.later x)) (w.later x) v:=by intro hb x;(try simp only [Bool.and_eq_true,Bool.not_eq_true',Bool.or_eq_true,Bool.or_eq_false_iff] at hb);go_simp;(try go_bits);exact rfl):wpX P ops Q ((o,0) :: rest) (fr fl A) w:=by
  refine ⟨gv g v,?_,by rw [hd];exact h⟩
  cases hc:g with
  | true=>exact .inl ⟨by rw [wanted_gw hg ht,hgg.eq,hc],hv hc⟩
  | false=>exact .inr ⟨by rw [wanted_gw hg ht,hgg.eq,hc],rfl⟩
theorem X_gf {rest : List (Oper × Nat)} {d : Nat} {j t m : Nat} {want : Bool} (h : wpX P ops Q rest (fr ((d, undef) :: fl) A) w) (hd : o.dst = some d := by rfl) (hg : o.guard = some (j, want) := by rfl) (ht : (ops[j]?).bind (·.dst) = some t := by rfl)
    (hgg:Is (gw ((fr fl A).tmps.getD t undef) want) false:=by go_simp;exact Is.mk _) (hm:m = 0:=by rfl):wpX P ops Q ((o,m) :: rest) (fr fl A) w:=by
  subst hm
  exact ⟨undef,.inr ⟨by rw [wanted_gw hg ht,hgg.eq],rfl⟩,by rw [hd];exact h⟩
theorem X_d {rest : List (Oper × Nat)} {e : Bool} {s d : Nat} (h : ∀ b, Eqn b e → wpX P ops Q rest (fr ((d, .bool b) :: fl) A) w) (hop : o.op = .move (.tmp s) := by rfl) (hd : o.dst = some d := by rfl) (hg : o.guard = none := by rfl) (hdf : defs ops o = true := by rfl)
    (hv:Is ((fr fl A).eval (.tmp s)) (.bool e):=by go_simp;exact Is.mk _):wpX P ops Q ((o,0) :: rest) (fr fl A) w :=
  ⟨.bool e,.inl ⟨by simp [Region.wanted,hg],fun x=>by
    have:=hv.eq
    simp only [Oper.quietAt,execOp,hop,Sem.run_pure,Oper.quietUpon]
    exact ⟨trivial,this⟩⟩,by rw [hd];exact h e (.mk e)⟩
theorem X_dg {rest : List (Oper × Nat)} {e : Bool} {s d : Nat} {j t : Nat} {want g : Bool} (h : ∀ b, Eqn b e → wpX P ops Q rest (fr ((d, gv g (.bool b)) :: fl) A) w) (hop : o.op = .move (.tmp s) := by rfl) (hd : o.dst = some d := by rfl)
    (hg:o.guard = some (j,want):=by rfl) (ht:(ops[j]?).bind (·.dst) = some t:=by rfl) (hdf:defs ops o = true:=by rfl)
    (hgg:Is (gw ((fr fl A).tmps.getD t undef) want) g:=by go_simp;exact Is.mk _)
    (hv:Is ((fr fl A).eval (.tmp s)) (gv g (.bool e)):=by go_simp;exact Is.mk _):wpX P ops Q ((o,0) :: rest) (fr fl A) w:=by
  refine ⟨gv g (.bool e),?_,by rw [hd];exact h e (.mk e)⟩
  cases hc:g with
  | true =>
    have hv:=hv.eq
    rw [hc] at hv
    refine .inl ⟨by rw [wanted_gw hg ht,hgg.eq,hc],fun x=>?_⟩
    simp only [Oper.quietAt,execOp,hop,Sem.run_pure,Oper.quietUpon]
    exact ⟨trivial,hv⟩
  | false=>exact .inr ⟨by rw [wanted_gw hg ht,hgg.eq,hc],rfl⟩
def uponV (K:Value→World→Prop):Result Next→Prop
  | .ok (.value v) w'=>K v w'
  | .ok .skip w'=>K undef w'
  | _=>False
@[go_sem] theorem uponV_value (K:Value→World→Prop) (v:Value) (w':World):uponV K (.ok (.value v) w') = K v w':=rfl
@[go_sem] theorem uponV_skip (K:Value→World→Prop) (w':World):uponV K (.ok .skip w') = K undef w':=rfl
@[go_sem] def runV (P:Program) (o:Oper) (a:Act) (w:World) (K:Value→World→Prop):Prop:=uponV K ((execOp a.eval o).run P w)
theorem wp_of_runV {K:Value→World→Prop} {K':Act→World→Prop} {Q':Post} (h:runV P o a w K) (hk:∀ v w',K v w'→K' (a.put o.dst v) w'):OpW P o a w K' Q':=by
  unfold runV at h
  unfold OpW
  generalize (execOp a.eval o).run P w = r at *
  cases r with
  | ok n w'=>cases n <;> simp only [uponV] at h <;> simp only [uponW] <;> exact hk _ _ h
  | halt x w'=>simp only [uponV] at h
theorem X_s {rest : List (Oper × Nat)} {d : Nat} (h : ∀ (x : Later w) (K : Value → World → Prop), (∀ v w', Ext (w.later x) w' → wpX P ops Q rest (fr ((d, v) :: fl) A) w' → K v w') → runV P o (fr fl A) (w.later x) K) (hd : o.dst = some d := by rfl) (hg : o.guard = none := by rfl) :
    wpX P ops Q ((o,1) :: rest) (fr fl A) w:=fun x=>by
  rw [if_pos (by simp [Region.wanted,hg])]
  exact wp_of_runV (h x (fun v w'=>Ext (w.later x) w'∧wpX P ops Q rest (fr ((d,v) :: fl) A) w') fun v w' hE h=>⟨hE,h⟩) fun v w' hk=>⟨hk.1,w',Ext.refl _,by rw [hd];exact hk.2⟩
theorem X_w {rest : List (Oper × Nat)} (h : ∀ (x : Later w) (K : Value → World → Prop), (∀ v w', wpX P ops Q rest (fr fl A) w' → K v w') → runV P o (fr fl A) (w.later x) K) (hd : o.dst = none := by rfl) (hg : o.guard = none := by rfl) :
    wpX P ops Q ((o,2) :: rest) (fr fl A) w:=fun x=>by
  rw [if_pos (by simp [Region.wanted,hg])]
  exact wp_of_runV (h x (fun v w'=>wpX P ops Q rest (fr fl A) w') fun v w' h=>h) fun v w' hk=>⟨w',Ext.refl _,by rw [hd];exact hk⟩
theorem X_v {rest : List (Oper × Nat)} {d : Nat} (h : ∀ (x : Later w) (K : Value → World → Prop), (∀ v w', wpX P ops Q rest (fr ((d, v) :: fl) A) w' → K v w') → runV P o (fr fl A) (w.later x) K) (hd : o.dst = some d := by rfl) (hg : o.guard = none := by rfl) :
    wpX P ops Q ((o,2) :: rest) (fr fl A) w:=fun x=>by
  rw [if_pos (by simp [Region.wanted,hg])]
  exact wp_of_runV (h x (fun v w'=>wpX P ops Q rest (fr ((d,v) :: fl) A) w') fun v w' h=>h) fun v w' hk=>⟨w',Ext.refl _,by rw [hd];exact hk⟩
def callable (fn : Func) : Bool := fn.name != "runtime.NumGoroutine" && fn.body.isSome
theorem run_call {f : FuncId} {fn : Func} (hf : P.funcs[f]? = some fn) (hn : callable fn = true) {la : List Operand} {ats : Array TypeId} (hop : o.op = .call { callee := .value (.func f), args := la.toArray, argTypes := ats }) (w : World) :
    (execOp a.eval o).run P w = .ok (.enter f (la.map a.eval).toArray) w:=by
  obtain ⟨dst,op,type,pos,after,guard⟩:=o
  simp only at hop
  subst hop
  simp only [callable,Bool.and_eq_true] at hn
  have h1 : (fn.name == "runtime.NumGoroutine") = false := by have := hn.1; simpa [bne] using this
  have h2:fn.body.isNone = false:=by cases hb:fn.body <;> simp_all
  rw [execOp_call_go]
  unfold callFunc
  simp only [program,Sem.run_bind,Sem.run,hf,h1,h2,Result.andThen_ok,Bool.false_eq_true,if_false,Sem.run_pure,List.map_toArray,Array.empty_append,Array.append_empty]
theorem X_call {rest : List (Oper × Nat)} {f : FuncId} {fn : Func} {la : List Operand} {ats : Array TypeId} {lv lv' : List Value} {R : Value → World → Prop} (hf : P.funcs[f]? = some fn)
    (hc:Ret P f lv.toArray w R) (h:∀ v w',R v w'→wpX P ops Q rest ((fr fl A).put o.dst v) w') (hop:o.op = .call { callee:=.value (.func f),args:=la.toArray,argTypes:=ats }:=by rfl) (hn:callable fn = true:=by kernel_rfl)
    (hg:o.guard = none:=by rfl) (hargs:Is (la.map (fr fl A).eval) lv':=by go_simp;exact Is.mk _) (hlv:lv' = lv:=by rfl):wpX P ops Q ((o,2) :: rest) (fr fl A) w:=by
  intro x
  rw [if_pos (by simp [Region.wanted,hg])]
  unfold OpW
  rw [run_call hf hn hop,hargs.eq,hlv]
  simp only [uponW]
  refine Calls.mono (hc x) fun e w' hR=>?_
  obtain ⟨w0,hE,hR⟩:=hR
  cases e with
  | returned v=>exact ⟨w0,hE,h v w0 hR⟩
  | panicked c=>exact hR.elim
  | outgrown=>exact hR.elim
theorem X_ret {rest : List (Oper × Nat)} {f : FuncId} {fn : Func} {la : List Operand} {ats : Array TypeId} {lv lv' : List Value} {R : Value → World → Prop} {d : Nat} (hf : P.funcs[f]? = some fn)
    (hc:Ret P f lv.toArray w R) (h:∀ v w',R v w'→wpX P ops Q rest (fr ((d,v) :: fl) A) w') (hd:o.dst = some d:=by rfl) (hop:o.op = .call { callee:=.value (.func f),args:=la.toArray,argTypes:=ats }:=by rfl) (hn:callable fn = true:=by kernel_rfl)
    (hg:o.guard = none:=by rfl) (hargs:Is (la.map (fr fl A).eval) lv':=by go_simp;exact Is.mk _) (hlv:lv' = lv:=by rfl):wpX P ops Q ((o,2) :: rest) (fr fl A) w :=
  X_call hf hc (fun v w' hR=>by rw [hd,fr_put];exact h v w' hR) hop hn hg hargs hlv
theorem X_pure {rest : List (Oper × Nat)} {f : FuncId} {fn : Func} {la : List Operand} {ats : Array TypeId} {lv lv' : List Value} {v : Value} {d : Nat} (hf : P.funcs[f]? = some fn)
    (hc:Pure P f lv.toArray w v) (h:wpX P ops Q rest (fr ((d,v) :: fl) A) w) (hd:o.dst = some d:=by rfl) (hop:o.op = .call { callee:=.value (.func f),args:=la.toArray,argTypes:=ats }:=by rfl) (hn:callable fn = true:=by kernel_rfl)
    (hg:o.guard = none:=by rfl) (hargs:Is (la.map (fr fl A).eval) lv':=by go_simp;exact Is.mk _) (hlv:lv' = lv:=by rfl):wpX P ops Q ((o,2) :: rest) (fr fl A) w:=by
  intro x
  rw [if_pos (by simp [Region.wanted,hg])]
  unfold OpW
  rw [run_call hf hn hop,hargs.eq,hlv]
  simp only [uponW]
  refine Calls.mono (hc x) fun e w' hR=>?_
  obtain ⟨w0,hE,hR⟩:=hR
  cases e with
  | returned v'=>obtain ⟨rfl,hE0⟩:=hR;exact ⟨w,Ext.trans hE0 hE,by rw [hd];exact h⟩
  | panicked c=>exact hR.elim
  | outgrown=>exact hR.elim
theorem X_gpure {rest : List (Oper × Nat)} {f : FuncId} {fn : Func} {la : List Operand} {ats : Array TypeId} {lv lv' : List Value} {v : Value} {d : Nat} {j t : Nat} {want g : Bool} (hf : P.funcs[f]? = some fn)
    (hc:g = true→Pure P f lv.toArray w v) (h:wpX P ops Q rest (fr ((d,gv g v) :: fl) A) w) (hd:o.dst = some d:=by rfl) (hop:o.op = .call { callee:=.value (.func f),args:=la.toArray,argTypes:=ats }:=by rfl) (hn:callable fn = true:=by kernel_rfl)
    (hg:o.guard = some (j,want):=by rfl) (ht:(ops[j]?).bind (·.dst) = some t:=by rfl)
    (hgg:Is (gw ((fr fl A).tmps.getD t undef) want) g:=by go_simp;exact Is.mk _)
    (hargs:g = true→Is (la.map (fr fl A).eval) lv':=by intro hb;(try simp only [Bool.and_eq_true,Bool.not_eq_true',Bool.or_eq_true,Bool.or_eq_false_iff] at hb);go_simp;exact Is.mk _) (hlv:lv' = lv:=by rfl):wpX P ops Q ((o,2) :: rest) (fr fl A) w:=by
  intro x
  rw [wanted_gw hg ht,hgg.eq]
  cases hgb:g with
  | true =>
    simp only [if_true]
    unfold OpW
    rw [run_call hf hn hop,(hargs hgb).eq,hlv]
    simp only [uponW]
    refine Calls.mono (hc hgb x) fun e w' hR=>?_
    obtain ⟨w0,hE,hR⟩:=hR
    cases e with
    | returned v'=>obtain ⟨rfl,hE0⟩:=hR;rw [hgb] at h;exact ⟨w,Ext.trans hE0 hE,by rw [hd];exact h⟩
    | panicked c=>exact hR.elim
    | outgrown=>exact hR.elim
  | false =>
    simp only [Bool.false_eq_true,if_false]
    rw [hgb] at h
    exact ⟨w,x.2,by rw [hd];exact h⟩
theorem X_pure1 {rest : List (Oper × Nat)} {f : FuncId} {fn : Func} {la : List Operand} {ats : Array TypeId} {lv lv' : List Value} {v : Value} {d : Nat} (hf : P.funcs[f]? = some fn)
    (hc:∀ x:Later w,Pure P f lv.toArray (w.later x) v) (h:wpX P ops Q rest (fr ((d,v) :: fl) A) w) (hd:o.dst = some d:=by rfl) (hop:o.op = .call { callee:=.value (.func f),args:=la.toArray,argTypes:=ats }:=by rfl) (hn:callable fn = true:=by kernel_rfl)
    (hg:o.guard = none:=by rfl) (hargs:Is (la.map (fr fl A).eval) lv':=by go_simp;exact Is.mk _) (hlv:lv' = lv:=by rfl):wpX P ops Q ((o,1) :: rest) (fr fl A) w:=by
  intro x
  rw [if_pos (by simp [Region.wanted,hg])]
  unfold OpW
  rw [run_call hf hn hop,hargs.eq,hlv]
  simp only [uponW]
  refine Calls.mono (Fn.calls (hc x)) fun e w' hR=>?_
  obtain ⟨w0,hE,hR⟩:=hR
  cases e with
  | returned v'=>obtain ⟨rfl,hE0⟩:=hR;exact ⟨Ext.trans hE0 hE,w,Ext.trans x.2 (Ext.trans hE0 hE),by rw [hd];exact h⟩
  | panicked c=>exact hR.elim
  | outgrown=>exact hR.elim
theorem X_gpure1 {rest : List (Oper × Nat)} {f : FuncId} {fn : Func} {la : List Operand} {ats : Array TypeId} {lv lv' : List Value} {v : Value} {d : Nat} {j t : Nat} {want g : Bool} (hf : P.funcs[f]? = some fn)
    (hc:g = true→∀ x:Later w,Pure P f lv.toArray (w.later x) v) (h:wpX P ops Q rest (fr ((d,gv g v) :: fl) A) w) (hd:o.dst = some d:=by rfl) (hop:o.op = .call { callee:=.value (.func f),args:=la.toArray,argTypes:=ats }:=by rfl) (hn:callable fn = true:=by kernel_rfl)
    (hg:o.guard = some (j,want):=by rfl) (ht:(ops[j]?).bind (·.dst) = some t:=by rfl)
    (hgg:Is (gw ((fr fl A).tmps.getD t undef) want) g:=by go_simp;exact Is.mk _)
    (hargs:g = true→Is (la.map (fr fl A).eval) lv':=by intro hb;(try simp only [Bool.and_eq_true,Bool.not_eq_true',Bool.or_eq_true,Bool.or_eq_false_iff] at hb);go_simp;exact Is.mk _) (hlv:lv' = lv:=by rfl):wpX P ops Q ((o,1) :: rest) (fr fl A) w:=by
  intro x
  rw [wanted_gw hg ht,hgg.eq]
  cases hgb:g with
  | true =>
    simp only [if_true]
    unfold OpW
    rw [run_call hf hn hop,(hargs hgb).eq,hlv]
    simp only [uponW]
    refine Calls.mono (Fn.calls (hc hgb x)) fun e w' hR=>?_
    obtain ⟨w0,hE,hR⟩:=hR
    cases e with
    | returned v'=>obtain ⟨rfl,hE0⟩:=hR;rw [hgb] at h;exact ⟨Ext.trans hE0 hE,w,Ext.trans x.2 (Ext.trans hE0 hE),by rw [hd];exact h⟩
    | panicked c=>exact hR.elim
    | outgrown=>exact hR.elim
  | false =>
    simp only [Bool.false_eq_true,if_false]
    rw [hgb] at h
    exact ⟨w,x.2,by rw [hd];exact h⟩
theorem X_gt {rest : List (Oper × Nat)} {dst : Option Tmp} {op : Op} {type : TypeId} {pos : String} {after : Array Edge} {j t k : Nat} {want : Bool}
    (h:wpX P ops Q ((⟨dst,op,type,pos,after,none⟩,k) :: rest) (fr fl A) w) (ht:(ops[j]?).bind (·.dst) = some t:=by rfl)
    (hgg:Is (gw ((fr fl A).tmps.getD t undef) want) true:=by go_simp;exact Is.mk _):wpX P ops Q ((⟨dst,op,type,pos,after,some (j,want)⟩,k) :: rest) (fr fl A) w:=by
  have hw:Region.wanted (⟨dst,op,type,pos,after,some (j,want)⟩:Oper) (yielded ops (fr fl A).tmps) = true:=by rw [wanted_gw rfl ht,hgg.eq]
  have hw':Region.wanted (⟨dst,op,type,pos,after,none⟩:Oper) (yielded ops (fr fl A).tmps) = true:=by simp [Region.wanted]
  match k with
  | 0 =>
    obtain ⟨v,hy,hr⟩:=h
    refine ⟨v,.inl ⟨hw,?_⟩,hr⟩
    rcases hy with ⟨_,hv⟩|⟨hn,_⟩
    · exact hv
    · rw [hw'] at hn;cases hn
  | 1 =>
    intro x
    have:=h x
    rw [if_pos hw'] at this
    rw [if_pos hw]
    exact this
  | k + 2 =>
    intro x
    have:=h x
    rw [if_pos hw'] at this
    rw [if_pos hw]
    exact this
theorem X_op {rest:List (Oper × Nat)} (h:∀ x:Later w,OpW P o (fr fl A) (w.later x) (fun a' w'=>∃ w0,Ext w0 w'∧wpX P ops Q rest a' w0) (UpQ Q)) (hg:o.guard = none:=by rfl):wpX P ops Q ((o,2) :: rest) (fr fl A) w:=fun x=>by
  rw [if_pos (by simp [Region.wanted,hg])]
  exact h x
theorem X_gop {rest : List (Oper × Nat)} {j t : Nat} {want g : Bool} (h : g = true → ∀ x : Later w, OpW P o (fr fl A) (w.later x) (fun a' w' => ∃ w0, Ext w0 w' ∧ wpX P ops Q rest a' w0) (UpQ Q)) (hf : g = false → wpX P ops Q rest ((fr fl A).put o.dst undef) w)
    (hg:o.guard = some (j,want):=by rfl) (ht:(ops[j]?).bind (·.dst) = some t:=by rfl) (hgg:Is (gw ((fr fl A).tmps.getD t undef) want) g:=by go_simp;exact Is.mk _):wpX P ops Q ((o,2) :: rest) (fr fl A) w:=fun x=>by
  rw [wanted_gw hg ht,hgg.eq]
  cases hc:g with
  | true=>simp only [if_true];exact h hc x
  | false=>simp only [Bool.false_eq_true,if_false];exact ⟨w,x.2,hf hc⟩
theorem run_valcall {f : FuncId} {fn : Func} (hf : P.funcs[f]? = some fn) (hn : callable fn = true) {s : Operand} {la : List Operand} {ats : Array TypeId} {first captured : Array Value} (hop : o.op = .call { callee := .value s, args := la.toArray, argTypes := ats })
    (hs:a.eval s = .func (.func f) first captured) (w:World):(execOp a.eval o).run P w = .ok (.enter f (first ++ (la.map a.eval).toArray ++ captured)) w:=by
  obtain ⟨dst,op,type,pos,after,guard⟩:=o
  simp only at hop
  subst hop
  simp only [callable,Bool.and_eq_true] at hn
  have h1 : (fn.name == "runtime.NumGoroutine") = false := by have := hn.1; simpa [bne] using this
  have h2:fn.body.isNone = false:=by cases hb:fn.body <;> simp_all
  have e : execOp a.eval { dst := dst, op := .call { callee := .value s, args := la.toArray, argTypes := ats }, type := type, pos := pos, after := after, guard := guard } =
      (do let d ← Deferred.ofValue (a.eval s) (la.toArray.map a.eval);invoke d.target d.args):=rfl
  rw [e,hs]
  simp only [Deferred.ofValue,Sem.run_bind,Sem.run_pure,Result.andThen_ok,invoke]
  unfold callFunc
  simp only [program,Sem.run_bind,Sem.run,hf,h1,h2,Result.andThen_ok,Bool.false_eq_true,if_false,Sem.run_pure,List.map_toArray]
theorem run_yieldcall {l : Nat} {s : Operand} {la : List Operand} {ats : Array TypeId} (hop : o.op = .call { callee := .value s, args := la.toArray, argTypes := ats }) (hs : a.eval s = .func (.yield l) #[] #[]) (w : World) :
    (execOp a.eval o).run P w = (Instr.yield l (la.map a.eval).toArray).run P w:=by
  obtain ⟨dst,op,type,pos,after,guard⟩:=o
  simp only at hop
  subst hop
  have e : execOp a.eval { dst := dst, op := .call { callee := .value s, args := la.toArray, argTypes := ats }, type := type, pos := pos, after := after, guard := guard } =
      (do let d ← Deferred.ofValue (a.eval s) (la.toArray.map a.eval);invoke d.target d.args):=rfl
  rw [e,hs]
  simp [Deferred.ofValue,invoke]
theorem X_valret {rest : List (Oper × Nat)} {f : FuncId} {fn : Func} {s : Operand} {la : List Operand} {ats : Array TypeId} {lv lv' : List Value} {first captured : Array Value} {R : Value → World → Prop} {d : Nat} (hf : P.funcs[f]? = some fn)
    (hc:Ret P f (first ++ lv.toArray ++ captured) w R) (h:∀ v w',R v w'→wpX P ops Q rest (fr ((d,v) :: fl) A) w') (hd:o.dst = some d:=by rfl) (hop:o.op = .call { callee:=.value s,args:=la.toArray,argTypes:=ats }:=by rfl) (hn:callable fn = true:=by kernel_rfl)
    (hg:o.guard = none:=by rfl) (hs:Is ((fr fl A).eval s) (.func (.func f) first captured):=by go_simp;exact Is.mk _) (hargs:Is (la.map (fr fl A).eval) lv':=by go_simp;exact Is.mk _) (hlv:lv' = lv:=by rfl):wpX P ops Q ((o,2) :: rest) (fr fl A) w:=by
  refine X_op (fun x=>?_) hg
  unfold OpW
  rw [run_valcall hf hn hop hs.eq,hargs.eq,hlv]
  simp only [uponW]
  refine Calls.mono (hc x) fun e w' hR=>?_
  obtain ⟨w0,hE,hR⟩:=hR
  cases e with
  | returned v=>exact ⟨w0,hE,by rw [hd,fr_put];exact h v w0 hR⟩
  | panicked c=>exact hR.elim
  | outgrown=>exact hR.elim
theorem X_al {rest : List (Oper × Nat)} (x : Later w) {cs : Array Value} {e : TypeId} (h : ∀ y : Later w, w.heap.size ≤ (w.later x).heap.size → (w.later x).heap.size < (w.later y).heap.size →
    (∀ k,(w.later y).cell? ⟨(w.later x).heap.size,k,none⟩ = cs[k]?)→(∀ k,(w.later y).frozen? ⟨(w.later x).heap.size,k,none⟩ = false)→Hid ((w.later y).heap[(w.later x).heap.size]? = some (.cells cs e))→wpX P ops Q rest a (w.later y)) :
    wpX P ops Q rest a ((w.later x).alloc (.cells cs e)) :=
  h ⟨_,Ext.trans x.2 (Ext.alloc _ _)⟩ (size_later _ _) (by show _ < ((w.later x).alloc _).heap.size;simp) (fun k=>World.cell?_alloc_new _ _ _ _) (fun k=>World.frozen?_alloc_new _ _ _ _) (heap_alloc_new _ _)
theorem X_alm {rest : List (Oper × Nat)} (x : Later w) {es : Array MapEntry} {c : Nat} (h : ∀ y : Later w, w.heap.size ≤ (w.later x).heap.size → (w.later x).heap.size < (w.later y).heap.size →
    Hid ((w.later y).heap[(w.later x).heap.size]? = some (.map es c))→wpX P ops Q rest a (w.later y)):wpX P ops Q rest a ((w.later x).alloc (.map es c)) :=
  h ⟨_,Ext.trans x.2 (Ext.alloc _ _)⟩ (size_later _ _) (by show _ < ((w.later x).alloc _).heap.size;simp) (heap_alloc_new _ _)
@[simp] theorem ext_rfl (w:World):Ext w w:=Ext.refl w
@[simp] theorem ext_l0 (w:World) (y:Later w):Ext w (w.later y):=y.2
@[simp] theorem ext_l1 (w:World) (y:Later w) (z:Later (w.later y)):Ext w ((w.later y).later z):=Ext.trans y.2 z.2
@[simp] theorem ext_l2 (w:World) (y:Later w) (z:Later (w.later y)) (u:Later ((w.later y).later z)):Ext w (((w.later y).later z).later u):=Ext.trans y.2 (Ext.trans z.2 u.2)
@[simp] theorem ext_l3 (w:World) (y:Later w) (z:Later (w.later y)) (u:Later ((w.later y).later z)) (t:Later (((w.later y).later z).later u)):Ext w ((((w.later y).later z).later u).later t):=Ext.trans y.2 (Ext.trans z.2 (Ext.trans u.2 t.2))
@[simp] theorem ext_l4 (w:World) (y:Later w) (z:Later (w.later y)) (u:Later ((w.later y).later z)) (t:Later (((w.later y).later z).later u)) (s:Later ((((w.later y).later z).later u).later t)):Ext w (((((w.later y).later z).later u).later t).later s):=Ext.trans y.2 (Ext.trans z.2 (Ext.trans u.2 (Ext.trans t.2 s.2)))
@[simp] theorem ext_lr {w W:World} (y:Later W) (h:Ext w W):Ext w (W.later y):=Ext.trans h y.2
end
attribute [irreducible] wpX Wp fr lkp tmpsOf gv gw Fn Body Is
end Go.Ws
