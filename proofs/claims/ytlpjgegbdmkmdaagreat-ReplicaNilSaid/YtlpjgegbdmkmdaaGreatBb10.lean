/- Lemmas for the statements of this layer (joined texts); no condition. -/
import Derived.Test.YtlpjgegbdmkmdaaGreatBb03
import Derived.Test.YtlpjgegbdmkmdaaGreatBb09
namespace Go.Ws
open Go Go.RowKit
set_option maxHeartbeats 1000000
set_option linter.unusedVariables false
set_option linter.unusedSimpArgs false
def LaterG (G:Nat→Prop) (w:World):Type:={ w':World // Mod G w w' }
def _root_.Go.World.laterG (w:World) {G:Nat→Prop} (x:LaterG G w):World:=x.1
theorem Mod.transG {G:Nat→Prop} {a b c:World} (h:Mod G a b) (k:Mod G b c):Mod G a c:=Mod.trans h k (fun _ _ h=>h) (fun _ _ h=>h)
theorem Mod.ext {G:Nat→Prop} {a b c:World} (h:Mod G a b) (k:Ext b c):Mod G a c:=Mod.trans h k (fun _ _ h=>h) (fun _ _ h=>h.elim)
@[simp,go_sem] theorem heap_laterG {G:Nat→Prop} (w:World) (x:LaterG G w) (k:Nat) (h:k < w.heap.size) (hG:¬ G k):(w.laterG x).heap[k]? = w.heap[k]?:=x.2.block k h hG
@[simp,go_sem] theorem cell?_laterG {G:Nat→Prop} (w:World) (x:LaterG G w) (b o:Nat) (h:b < w.heap.size) (hG:¬ G b):(w.laterG x).cell? ⟨b,o,none⟩ = w.cell? ⟨b,o,none⟩ :=
  World.cell?_of_block (w:=w) (x.2.block b h hG)
@[simp,go_sem] theorem frozen?_laterG {G:Nat→Prop} (w:World) (x:LaterG G w) (b o:Nat) (h:b < w.heap.size) (hG:¬ G b):(w.laterG x).frozen? ⟨b,o,none⟩ = w.frozen? ⟨b,o,none⟩ :=
  World.frozen?_of_block (w:=w) (x.2.block b h hG)
@[simp,go_sem] theorem lt_laterG {G:Nat→Prop} (w:World) (x:LaterG G w) (b:Nat) (h:b < w.heap.size):b < (w.laterG x).heap.size:=Nat.lt_of_lt_of_le h x.2.size
section
variable {P:Program} {md:Region.Mode} {ops:Array Oper} {Q:Exit→Act→World→Prop} {G:Nat→Prop}
def YieldsG (G:Nat→Prop) (P:Program) (ops:Array Oper) (o:Oper) (v:Value) (a:Act) (w:World):Prop :=
  (Region.wanted o (yielded ops a.tmps) = true∧∀ x:LaterG G w,o.quietAt P a (Ext (w.laterG x)) (w.laterG x) v) ∨
  (Region.wanted o (yielded ops a.tmps) = false∧v = undef)
theorem YieldsG.q {o:Oper} {v:Value} {a:Act} {w W:World} (h:YieldsG G P ops o v a w) (hM:Mod G w W):YieldsQ P ops o v a W:=by
  rcases h with ⟨h1,h2⟩|h
  · exact .inl ⟨h1,fun x=>h2 ⟨W.later x,hM.ext x.2⟩⟩
  · exact .inr h
theorem YieldsG.up {o:Oper} {v:Value} {a:Act} {w W:World} (h:YieldsG G P ops o v a w) (hM:Mod G w W):YieldsG G P ops o v a W:=by
  rcases h with ⟨h1,h2⟩|h
  · exact .inl ⟨h1,fun x=>h2 ⟨W.laterG x,hM.transG x.2⟩⟩
  · exact .inr h
theorem YieldsG.of_same {o : Oper} {v : Value} {a a' : Act} {w : World} (hy : YieldsG G P ops o v a w) (he : execOp a'.eval o = execOp a.eval o)
    (hw:Region.wanted o (yielded ops a'.tmps) = Region.wanted o (yielded ops a.tmps)):YieldsG G P ops o v a' w:=by
  unfold YieldsG Oper.quietAt at *
  rw [he,hw]
  exact hy
def wpSG (P:Program) (md:Region.Mode) (ops:Array Oper) (hard:Nat→Bool) (G:Nat→Prop) (Q:Exit→Act→World→Prop):Nat→Array Bool→Act→World→Prop
  | 0,listed,a,w=>Region.ready md ops listed = []∧∀ x:Later w,Q .normal a (w.later x)
  | f + 1, listed, a, w => ∀ x : Later w, Region.ready md ops listed ≠ [] ∧
      ∀ j ∈ Region.ready md ops listed,softOp P ops j (fun a' w'=>Mod (fun k=>hard j = true∧G k) (w.later x) w'∧wpSG P md ops hard G Q f (listed.setIfInBounds j true) a' w') a (w.later x)
theorem wpSG.later {hard:Nat→Bool} {f:Nat} {listed:Array Bool} {a:Act} {w w':World} (h:wpSG P md ops hard G Q f listed a w) (hE:Ext w w'):wpSG P md ops hard G Q f listed a w':=by
  cases f with
  | zero=>exact ⟨h.1,fun x=>h.2 ⟨w'.later x,Ext.trans hE x.2⟩⟩
  | succ f=>exact fun x=>h ⟨w'.later x,Ext.trans hE x.2⟩
theorem wpAny_of_wpSG {ρ:Option Nat} {n:Nat} (hn:ρ = none∨(∀ (i:Nat) (o:Oper),ops[i]? = some o→noDefer o = true)) {hard:Nat→Bool}:∀ (f:Nat) (listed:Array Bool) (a:Act) (w:World),wpSG P md ops hard G Q f listed a w→wpAnyIn (RF ρ) n P md ops Q f listed a w
  | 0,listed,a,w,h=>⟨h.1,h.2 ⟨w,Ext.refl w⟩⟩
  | f + 1,listed,a,w,h=>by
    obtain ⟨h0,h1⟩:=h ⟨w,Ext.refl w⟩
    refine ⟨fun h=>absurd h h0,fun j hj=>?_⟩
    exact wpOpIn_of_soft (hn.imp id (fun h=>h j)) (softOp_mono (fun a' w' h=>wpAny_of_wpSG hn f _ a' w' h.2) (h1 j hj))
theorem Mod.hardG {hard:Nat→Bool} {j:Nat} {G:Nat→Prop} {a b:World} (h:Mod (fun k=>hard j = true∧G k) a b):Mod G a b:=h.mono (fun _ _ h=>h.2)
theorem Mod.hardE {hard:Nat→Bool} {j:Nat} {G:Nat→Prop} {a b:World} (h:Mod (fun k=>hard j = true∧G k) a b) (hj:hard j = false):Ext a b:=h.mono (fun _ _ h=>by rw [hj] at h;cases h.1)
theorem wpSG_first {hard : Nat → Bool} {i : Nat} {oi : Oper} {v : Value} (hi : ops[i]? = some oi) (hsel : ∀ (j : Nat) (o : Oper) cs b, ops[j]? = some o → o.op ≠ .select cs b) :
    ∀ (f:Nat) (listed:Array Bool) (a:Act) (w:World),
      (∀ j oj,ops[j]? = some oj→j ≠ i→listed.getD j true = false→(∀ e ∈ oj.after,Region.binds md e = true→e.on ≠ i)→oi.apart ops oj = true) →
      i ∈ Region.ready md ops listed→YieldsG G P ops oi v a w →
      wpSG P md ops hard G Q f (listed.setIfInBounds i true) (a.put oi.dst v) w→wpSG P md ops hard G Q (f + 1) listed a w:=by
  intro f
  induction f with
  | zero =>
    intro listed a w _ hr hy H x
    refine ⟨fun h=>(by rw [h] at hr;cases hr),fun j hj=>?_⟩
    by_cases hji:j = i
    · subst hji
      exact (hy.q x.2.mod).softOp hi fun w' hw'=>⟨hw'.mod,H.later (Ext.trans x.2 hw')⟩
    · have:=ready_mono hj hji
      rw [H.1] at this
      cases this
  | succ f ih =>
    intro listed a w hfree hr hy H x
    refine ⟨fun h=>(by rw [h] at hr;cases hr),fun j hj=>?_⟩
    by_cases hji:j = i
    · subst hji
      exact (hy.q x.2.mod).softOp hi fun w' hw'=>⟨hw'.mod,H.later (Ext.trans x.2 hw')⟩
    · have hiun:=(mem_ready.1 hr).1
      have h1:=(H x).2 j (ready_mono hj hji)
      obtain ⟨hjun,oj,hoj,hall⟩:=mem_ready.1 hj
      have hnot:∀ e ∈ oj.after,Region.binds md e = true→e.on ≠ i:=fun e he hb heq=>by
        have h1:=hall e he hb
        rw [heq,getD_both hiun] at h1
        cases h1
      have hfree' : ∀ k ok, ops[k]? = some ok → k ≠ i → (listed.setIfInBounds j true).getD k true = false →
          (∀ e ∈ ok.after,Region.binds md e = true→e.on ≠ i)→oi.apart ops ok = true:=fun k ok hk hki hun hno=>by
        refine hfree k ok hk hki ?_ hno
        by_cases hjk:j = k
        · subst hjk;exact hjun
        · rw [getD_set_ne true hjk] at hun;exact hun
      have h2:=softOp_put hoj (hfree j oj hoj hji hjun hnot) (fun cs b=>hsel i oi cs b hi) (fun cs b=>hsel j oj cs b hoj) h1
      refine softOp_mono (fun a' w' h3=>?_) h2
      obtain ⟨⟨he,hw⟩,hM,h4⟩:=h3
      refine ⟨hM,ih _ a' w' hfree' (ready_mono hr (Ne.symm hji)) ((hy.of_same he hw).up (Mod.trans x.2 hM.hardG (fun _ _ h=>h.elim) (fun _ _ h=>h))) ?_⟩
      rw [Array.setIfInBounds_comm _ _ hji]
      exact h4
theorem wpSG_firstQ {hard : Nat → Bool} {i : Nat} {oi : Oper} {v : Value} (hi : ops[i]? = some oi) (hsel : ∀ (j : Nat) (o : Oper) cs b, ops[j]? = some o → o.op ≠ .select cs b)
    (hreach:∀ j,hard j = true→Reach md ops i j∨Reach md ops j i) :
    ∀ (f:Nat) (listed:Array Bool) (a:Act) (w:World),Closed md ops listed →
      (∀ j oj,ops[j]? = some oj→j ≠ i→listed.getD j true = false→(∀ e ∈ oj.after,Region.binds md e = true→e.on ≠ i)→oi.apart ops oj = true) →
      i ∈ Region.ready md ops listed→YieldsQ P ops oi v a w →
      wpSG P md ops hard G Q f (listed.setIfInBounds i true) (a.put oi.dst v) w→wpSG P md ops hard G Q (f + 1) listed a w:=by
  intro f
  induction f with
  | zero =>
    intro listed a w hc _ hr hy H x
    refine ⟨fun h=>(by rw [h] at hr;cases hr),fun j hj=>?_⟩
    by_cases hji:j = i
    · subst hji
      exact (hy.later x.2).softOp hi fun w' hw'=>⟨hw'.mod,H.later (Ext.trans x.2 hw')⟩
    · have:=ready_mono hj hji
      rw [H.1] at this
      cases this
  | succ f ih =>
    intro listed a w hc hfree hr hy H x
    refine ⟨fun h=>(by rw [h] at hr;cases hr),fun j hj=>?_⟩
    by_cases hji:j = i
    · subst hji
      exact (hy.later x.2).softOp hi fun w' hw'=>⟨hw'.mod,H.later (Ext.trans x.2 hw')⟩
    · have hiun:=(mem_ready.1 hr).1
      have hjun':=(mem_ready.1 hj).1
      have h1:=(H x).2 j (ready_mono hj hji)
      obtain ⟨hjun,oj,hoj,hall⟩:=mem_ready.1 hj
      have hjh:hard j = false:=by
        cases hjh:hard j with
        | false=>rfl
        | true =>
          exfalso
          rcases hreach j hjh with h|h
          · have:=h.listed hc (.inr hj)
            rw [getD_both hiun] at this;cases this
          · have:=h.listed hc (.inr hr)
            rw [getD_both hjun'] at this;cases this
      have hnot:∀ e ∈ oj.after,Region.binds md e = true→e.on ≠ i:=fun e he hb heq=>by
        have h1:=hall e he hb
        rw [heq,getD_both hiun] at h1
        cases h1
      have hfree' : ∀ k ok, ops[k]? = some ok → k ≠ i → (listed.setIfInBounds j true).getD k true = false →
          (∀ e ∈ ok.after,Region.binds md e = true→e.on ≠ i)→oi.apart ops ok = true:=fun k ok hk hki hun hno=>by
        refine hfree k ok hk hki ?_ hno
        by_cases hjk:j = k
        · subst hjk;exact hjun
        · rw [getD_set_ne true hjk] at hun;exact hun
      have h2:=softOp_put hoj (hfree j oj hoj hji hjun hnot) (fun cs b=>hsel i oi cs b hi) (fun cs b=>hsel j oj cs b hoj) h1
      refine softOp_mono (fun a' w' h3=>?_) h2
      obtain ⟨⟨he,hw⟩,hM,h4⟩:=h3
      refine ⟨hM,ih _ a' w' (hc.set hj) hfree' (ready_mono hr (Ne.symm hji)) ((hy.of_same he hw).later (Ext.trans x.2 (hM.hardE hjh))) ?_⟩
      rw [Array.setIfInBounds_comm _ _ hji]
      exact h4
def mixG (md:Region.Mode) (ops:Array Oper):List (Nat × Nat)→Array Bool→Bool
  | [],listed=>(Region.ready md ops listed).isEmpty
  | (i,k) :: rest,listed =>
    (match k with
     | 0=>(Region.ready md ops listed).contains i && Region.free md ops listed i
     | 3=>(Region.ready md ops listed).contains i && Region.free md ops listed i
     | _=>decide (Region.ready md ops listed = [i])) && mixG md ops rest (listed.setIfInBounds i true)
end
section
variable {P:Program} {Q:Post} {w:World} {a:Act} {G:Nat→Prop} {ops:Array Oper}
def wpY (G:Nat→Prop) (P:Program) (ops:Array Oper) (Q:Post):List (Oper × Nat)→Act→World→Prop
  | [],a,w=>Q .normal a w
  | (o,0) :: rest,a,w=>∃ v,YieldsG G P ops o v a w∧wpY G P ops Q rest (a.put o.dst v) w
  | (o,3) :: rest,a,w=>∃ v,YieldsQ P ops o v a w∧wpY G P ops Q rest (a.put o.dst v) w
  | (o, _) :: rest, a, w => ∀ x : Later w, if Region.wanted o (yielded ops a.tmps) = true
      then OpW P o a (w.later x) (fun a' w'=>Mod G (w.later x) w'∧∃ w0,Ext w0 w'∧wpY G P ops Q rest a' w0) (fun _ _ _=>False)
      else ∃ w0,Ext w0 (w.later x)∧wpY G P ops Q rest (a.put o.dst undef) w0
def hardK (k:Nat):Bool:=k == 1 || k == 2
theorem wpSG_of_wpY {hard : Nat → Bool} (hsel : Region.noSelect ops = true) :
    ∀ (l:List (Oper × Nat)) (σ:List (Nat × Nat)) (listed:Array Bool) (a:Act) (w:World),Closed .any ops listed→(∀ p ∈ l.zip σ,ops[p.2.1]? = some p.1.1∧p.1.2 = p.2.2)→l.length = σ.length→mixG .any ops σ listed = true →
      (∀ p ∈ σ,p.2≤3∧(p.2 = 1∨p.2 = 2→hard p.1 = true)∧(p.2 = 3→∀ j,hard j = true→Reach .any ops p.1 j∨Reach .any ops j p.1)) →
      wpY G P ops Q l a w→wpSG P .any ops hard G (UpQ Q) σ.length listed a w
  | [],[],listed,a,w,_,_,_,hB,_,h=>⟨by simpa [mixG] using hB,fun x=>⟨w,x.2,h⟩⟩
  | [],_ :: _,_,_,_,_,_,hl,_,_,_=>by cases hl
  | _ :: _,[],_,_,_,_,_,hl,_,_,_=>by cases hl
  | (o,k) :: rest,(i,k') :: σ,listed,a,w,hc,hz,hl,hB,hh,h=>by
    have h0:=hz ((o,k),(i,k')) (by simp)
    obtain ⟨ho,rfl⟩:ops[i]? = some o∧k = k':=h0
    have hz':∀ p ∈ rest.zip σ,ops[p.2.1]? = some p.1.1∧p.1.2 = p.2.2:=fun p hp=>hz p (by simp [hp])
    have hl':rest.length = σ.length:=by simpa using hl
    have hh':=fun p hp=>hh p (List.mem_cons_of_mem _ hp)
    obtain ⟨hk3,hk12,hk33⟩:=hh (i,k) (by simp)
    match k,hk3,hk12,hk33,hB,h with
    | 0,hk3,hk12,hk33,hB,h =>
      simp only [mixG,Bool.and_eq_true] at hB
      obtain ⟨⟨hr,hf⟩,hB'⟩:=hB
      obtain ⟨v,hy,hr2⟩:=h
      have hr':i ∈ Region.ready .any ops listed:=by simpa using hr
      exact wpSG_first ho (Region.noSelect_spec hsel) σ.length listed a w (Region.free_spec ho hf) hr' hy (wpSG_of_wpY hsel rest σ _ _ _ (hc.set hr') hz' hl' hB' hh' hr2)
    | 3,hk3,hk12,hk33,hB,h =>
      simp only [mixG,Bool.and_eq_true] at hB
      obtain ⟨⟨hr,hf⟩,hB'⟩:=hB
      obtain ⟨v,hy,hr2⟩:=h
      have hr':i ∈ Region.ready .any ops listed:=by simpa using hr
      exact wpSG_firstQ ho (Region.noSelect_spec hsel) (hk33 rfl) σ.length listed a w hc (Region.free_spec ho hf) hr' hy (wpSG_of_wpY hsel rest σ _ _ _ (hc.set hr') hz' hl' hB' hh' hr2)
    | 1,hk3,hk12,hk33,hB,h =>
      simp only [mixG,Bool.and_eq_true,decide_eq_true_eq] at hB
      intro x
      refine ⟨fun h0=>(by rw [hB.1] at h0;cases h0),fun j hj=>?_⟩
      have hj':=hj
      rw [hB.1] at hj'
      obtain rfl:j = i:=by simpa using hj'
      have hjh:=hk12 (.inl rfl)
      have:=h x
      unfold softOp
      simp only [ho]
      split
      · rename_i hw;rw [if_pos hw] at this
        exact this.mono (fun a' w' ⟨hM,w0,hE0,h0⟩=>⟨hM.mono (fun _ _ h=>⟨hjh,h⟩),(wpSG_of_wpY hsel rest σ _ _ _ (hc.set hj) hz' hl' hB.2 hh' h0).later hE0⟩) (fun _ _ _ h=>h)
      · rename_i hw;rw [if_neg hw] at this
        obtain ⟨w0,hE0,h0⟩:=this
        exact ⟨Mod.refl _ _,(wpSG_of_wpY hsel rest σ _ _ _ (hc.set hj) hz' hl' hB.2 hh' h0).later hE0⟩
    | 2,hk3,hk12,hk33,hB,h =>
      simp only [mixG,Bool.and_eq_true,decide_eq_true_eq] at hB
      intro x
      refine ⟨fun h0=>(by rw [hB.1] at h0;cases h0),fun j hj=>?_⟩
      have hj':=hj
      rw [hB.1] at hj'
      obtain rfl:j = i:=by simpa using hj'
      have hjh:=hk12 (.inr rfl)
      have:=h x
      unfold softOp
      simp only [ho]
      split
      · rename_i hw;rw [if_pos hw] at this
        exact this.mono (fun a' w' ⟨hM,w0,hE0,h0⟩=>⟨hM.mono (fun _ _ h=>⟨hjh,h⟩),(wpSG_of_wpY hsel rest σ _ _ _ (hc.set hj) hz' hl' hB.2 hh' h0).later hE0⟩) (fun _ _ _ h=>h)
      · rename_i hw;rw [if_neg hw] at this
        obtain ⟨w0,hE0,h0⟩:=this
        exact ⟨Mod.refl _ _,(wpSG_of_wpY hsel rest σ _ _ _ (hc.set hj) hz' hl' hB.2 hh' h0).later hE0⟩
    | k + 4,hk3,_,_,_,_=>simp at hk3
def relG (ops:Array Oper) (σ:List (Nat × Nat)):Bool :=
  σ.all fun p=>decide (p.2≤3) && (!(decide (p.2 = 3)) || σ.all fun q=>!(hardK q.2) || ((Region.before ops).getD q.1 0).testBit p.1 || ((Region.before ops).getD p.1 0).testBit q.1)
def okG (ops:Array Oper) (σ:List (Nat × Nat)):Bool:=Region.noSelect ops && decide (σ.length = ops.size) && (σ.all fun p=>decide (p.1 < ops.size)) && relG ops σ && mixG .any ops σ (Array.replicate ops.size false)
theorem W_drawG {ρ : Option Nat} {id : Nat} {l : List Oper} (G : Nat → Prop) (σ : List (Nat × Nat)) (hm : P.follows .mixedOrders = true) (hB : okG l.toArray σ = true)
    (h:wpY G P l.toArray Q (σ.map fun p=>(l.getD p.1 default,p.2)) a w) (hnd:calmIn ρ l:=by first|exact .inl rfl|exact .inr (by kernel_rfl)):Wp ρ P (.region id l.toArray true) Q a w:=Wp.intro fun x=>by
  simp only [okG,Bool.and_eq_true,decide_eq_true_eq] at hB
  obtain ⟨⟨⟨⟨hsel,hlen⟩,hlt⟩,hrel⟩,hmix⟩:=hB
  refine wpIn_region_any hm ?_
  have hz:∀ p ∈ (σ.map fun p=>(l.getD p.1 default,p.2)).zip σ,l.toArray[p.2.1]? = some p.1.1∧p.1.2 = p.2.2:=by
    intro p hp
    have:∀ (τ:List (Nat × Nat)),(∀ q ∈ τ,q.1 < l.toArray.size)→p ∈ (τ.map fun q=>(l.getD q.1 default,q.2)).zip τ→l.toArray[p.2.1]? = some p.1.1∧p.1.2 = p.2.2:=by
      intro τ
      induction τ with
      | nil=>intro _ h;simp at h
      | cons q τ ih =>
        intro hq h
        simp only [List.map_cons,List.zip_cons_cons,List.mem_cons] at h
        rcases h with rfl|h
        · have:=hq q (by simp)
          simp only [List.size_toArray] at this
          refine ⟨?_,rfl⟩
          simp [this]
        · exact ih (fun r hr=>hq r (by simp [hr])) h
    exact this σ (fun q hq=>by have:=List.all_eq_true.1 hlt q hq;simpa using this) hp
  have hh:∀ p ∈ σ,p.2≤3∧(p.2 = 1∨p.2 = 2→(σ.any fun q=>hardK q.2 && q.1 == p.1) = true)∧(p.2 = 3→∀ j,(σ.any fun q=>hardK q.2 && q.1 == j) = true→Reach .any l.toArray p.1 j∨Reach .any l.toArray j p.1):=by
    intro p hp
    have h1:=List.all_eq_true.1 hrel p hp
    simp only [Bool.and_eq_true,decide_eq_true_eq] at h1
    refine ⟨h1.1,fun h=>List.any_eq_true.2 ⟨p,hp,by rcases h with h|h <;> simp [h,hardK]⟩,fun h j hj=>?_⟩
    obtain ⟨q,hq,hq2⟩:=List.any_eq_true.1 hj
    simp only [Bool.and_eq_true,beq_iff_eq] at hq2
    obtain ⟨hq2,rfl⟩:=hq2
    have h2:=h1.2
    simp only [h,decide_true,Bool.not_true,Bool.false_or] at h2
    have h3:=List.all_eq_true.1 h2 q hq
    simp only [hq2,Bool.not_true,Bool.false_or,Bool.or_eq_true] at h3
    exact h3.imp (before_reach l.toArray p.1 q.1) (before_reach l.toArray q.1 p.1)
  have h2:=(wpSG_of_wpY (G:=G) (hard:=fun j=>σ.any fun q=>hardK q.2 && q.1 == j) hsel _ σ (Array.replicate l.toArray.size false) a w (fun j oj _ hl=>(by rw [getD_replicate_false] at hl;cases hl)) hz (by simp) hmix hh h).later (Ext.trans x.2 (Ext.drew (w.later x)))
  have h3:=wpAny_of_wpSG (ρ:=ρ) (n:=0) hnd.get _ _ _ _ h2
  rw [hlen] at h3
  exact h3
def wpTG (P:Program) (ops:Array Oper) (G:Nat→Prop) (last:Nat) (Z:Act→World→Prop):Nat→Array Bool→Act→World→Prop
  | 0,listed,a,w=>Region.ready .any ops listed = [last]∧∀ x:Later w,Z a (w.later x)
  | f + 1, listed, a, w => ∀ x : Later w, Region.ready .any ops listed ≠ [] ∧
      ∀ j ∈ Region.ready .any ops listed,softOp P ops j (fun a' w'=>Mod G (w.later x) w'∧wpTG P ops G last Z f (listed.setIfInBounds j true) a' w') a (w.later x)
section
variable {last:Nat} {Z:Act→World→Prop}
theorem wpTG.later {f:Nat} {listed:Array Bool} {a:Act} {w w':World} (h:wpTG P ops G last Z f listed a w) (hE:Ext w w'):wpTG P ops G last Z f listed a w':=by
  cases f with
  | zero=>exact ⟨h.1,fun x=>h.2 ⟨w'.later x,Ext.trans hE x.2⟩⟩
  | succ f=>exact fun x=>h ⟨w'.later x,Ext.trans hE x.2⟩
theorem wpAny_of_wpTG {Q:Exit→Act→World→Prop} (hdie:∀ a w K,Z a w→wpOpIn (RF none) 0 P ops Q last K a w):∀ (f:Nat) (listed:Array Bool) (a:Act) (w:World),wpTG P ops G last Z f listed a w→wpAnyIn (RF none) 0 P .any ops Q (f + 1) listed a w
  | 0,listed,a,w,h=>by
    obtain ⟨h0,h1⟩:=h
    refine ⟨(fun h=>by rw [h0] at h;cases h),fun j hj=>?_⟩
    rw [h0,List.mem_singleton] at hj
    subst hj
    exact hdie _ _ _ (h1 ⟨w,Ext.refl w⟩)
  | f + 1,listed,a,w,h=>by
    obtain ⟨h0,h1⟩:=h ⟨w,Ext.refl w⟩
    refine ⟨fun h=>absurd h h0,fun j hj=>?_⟩
    exact wpOpIn_of_soft (.inl rfl) (softOp_mono (fun a' w' h=>wpAny_of_wpTG hdie f _ a' w' h.2) (h1 j hj))
theorem wpTG_first {i : Nat} {oi : Oper} {v : Value} (hi : ops[i]? = some oi) (hsel : ∀ (j : Nat) (o : Oper) cs b, ops[j]? = some o → o.op ≠ .select cs b) (hreach : Reach .any ops i last) :
    ∀ (f:Nat) (listed:Array Bool) (a:Act) (w:World),Closed .any ops listed →
      (∀ j oj,ops[j]? = some oj→j ≠ i→listed.getD j true = false→(∀ e ∈ oj.after,Region.binds .any e = true→e.on ≠ i)→oi.apart ops oj = true) →
      i ∈ Region.ready .any ops listed→YieldsG G P ops oi v a w →
      wpTG P ops G last Z f (listed.setIfInBounds i true) (a.put oi.dst v) w→wpTG P ops G last Z (f + 1) listed a w:=by
  intro f
  induction f with
  | zero =>
    intro listed a w hc _ hr hy H x
    refine ⟨fun h=>(by rw [h] at hr;cases hr),fun j hj=>?_⟩
    by_cases hji:j = i
    · subst hji
      exact (hy.q x.2.mod).softOp hi fun w' hw'=>⟨hw'.mod,H.later (Ext.trans x.2 hw')⟩
    · have h1:=ready_mono hj hji
      rw [H.1,List.mem_singleton] at h1
      subst h1
      have hiun:=(mem_ready.1 hr).1
      have:=hreach.listed hc (.inr hj)
      rw [getD_both hiun] at this
      cases this
  | succ f ih =>
    intro listed a w hc hfree hr hy H x
    refine ⟨fun h=>(by rw [h] at hr;cases hr),fun j hj=>?_⟩
    by_cases hji:j = i
    · subst hji
      exact (hy.q x.2.mod).softOp hi fun w' hw'=>⟨hw'.mod,H.later (Ext.trans x.2 hw')⟩
    · have hiun:=(mem_ready.1 hr).1
      have h1:=(H x).2 j (ready_mono hj hji)
      obtain ⟨hjun,oj,hoj,hall⟩:=mem_ready.1 hj
      have hnot:∀ e ∈ oj.after,Region.binds .any e = true→e.on ≠ i:=fun e he hb heq=>by
        have h1:=hall e he hb
        rw [heq,getD_both hiun] at h1
        cases h1
      have hfree' : ∀ k ok, ops[k]? = some ok → k ≠ i → (listed.setIfInBounds j true).getD k true = false →
          (∀ e ∈ ok.after,Region.binds .any e = true→e.on ≠ i)→oi.apart ops ok = true:=fun k ok hk hki hun hno=>by
        refine hfree k ok hk hki ?_ hno
        by_cases hjk:j = k
        · subst hjk;exact hjun
        · rw [getD_set_ne true hjk] at hun;exact hun
      have h2:=softOp_put hoj (hfree j oj hoj hji hjun hnot) (fun cs b=>hsel i oi cs b hi) (fun cs b=>hsel j oj cs b hoj) h1
      refine softOp_mono (fun a' w' h3=>?_) h2
      obtain ⟨⟨he,hw⟩,hM,h4⟩:=h3
      refine ⟨hM,ih _ a' w' (hc.set hj) hfree' (ready_mono hr (Ne.symm hji)) ((hy.of_same he hw).up (Mod.trans x.2 hM (fun _ _ h=>h.elim) (fun _ _ h=>h))) ?_⟩
      rw [Array.setIfInBounds_comm _ _ hji]
      exact h4
def mixTG (ops:Array Oper) (last:Nat):List (Nat × Nat)→Array Bool→Bool
  | [],listed=>decide (Region.ready .any ops listed = [last])
  | (i,k) :: rest,listed =>
    (match k with
     | 0=>(Region.ready .any ops listed).contains i && Region.free .any ops listed i
     | 1=>decide (Region.ready .any ops listed = [i])
     | 2=>decide (Region.ready .any ops listed = [i])
     | _=>false) && mixTG ops last rest (listed.setIfInBounds i true)
theorem wpTG_of_wpY {Q : Post} (hsel : Region.noSelect ops = true) (hQ : ∀ a w, Q .normal a w → ∀ x : Later w, Z a (w.later x)) :
    ∀ (l:List (Oper × Nat)) (σ:List (Nat × Nat)) (listed:Array Bool) (a:Act) (w:World),Closed .any ops listed→(∀ p ∈ l.zip σ,ops[p.2.1]? = some p.1.1∧p.1.2 = p.2.2)→l.length = σ.length→mixTG ops last σ listed = true→(∀ p ∈ σ,Reach .any ops p.1 last) →
      wpY G P ops Q l a w→wpTG P ops G last Z σ.length listed a w
  | [],[],listed,a,w,_,_,_,hB,_,h=>⟨by simpa [mixTG] using hB,fun x=>hQ _ _ h x⟩
  | [],_ :: _,_,_,_,_,_,hl,_,_,_=>by cases hl
  | _ :: _,[],_,_,_,_,_,hl,_,_,_=>by cases hl
  | (o,k) :: rest,(i,k') :: σ,listed,a,w,hc,hz,hl,hB,hh,h=>by
    have h0:=hz ((o,k),(i,k')) (by simp)
    obtain ⟨ho,rfl⟩:ops[i]? = some o∧k = k':=h0
    have hz':∀ p ∈ rest.zip σ,ops[p.2.1]? = some p.1.1∧p.1.2 = p.2.2:=fun p hp=>hz p (by simp [hp])
    have hl':rest.length = σ.length:=by simpa using hl
    have hh':∀ p ∈ σ,Reach .any ops p.1 last:=fun p hp=>hh p (by simp [hp])
    match k with
    | 0 =>
      simp only [mixTG,Bool.and_eq_true] at hB
      obtain ⟨⟨hr,hf⟩,hB'⟩:=hB
      obtain ⟨v,hy,hr2⟩:=h
      have hr':i ∈ Region.ready .any ops listed:=by simpa using hr
      exact wpTG_first ho (Region.noSelect_spec hsel) (hh (i,0) (by simp)) σ.length listed a w hc (Region.free_spec ho hf) hr' hy (wpTG_of_wpY hsel hQ rest σ _ _ _ (hc.set hr') hz' hl' hB' hh' hr2)
    | 1 =>
      simp only [mixTG,Bool.and_eq_true,decide_eq_true_eq] at hB
      intro x
      refine ⟨fun h0=>(by rw [hB.1] at h0;cases h0),fun j hj=>?_⟩
      have hj':=hj
      rw [hB.1] at hj'
      obtain rfl:j = i:=by simpa using hj'
      have:=h x
      unfold softOp
      simp only [ho]
      split
      · rename_i hw;rw [if_pos hw] at this
        exact this.mono (fun a' w' ⟨hM,w0,hE0,h0⟩=>⟨hM,(wpTG_of_wpY hsel hQ rest σ _ _ _ (hc.set hj) hz' hl' hB.2 hh' h0).later hE0⟩) (fun _ _ _ h=>h)
      · rename_i hw;rw [if_neg hw] at this
        obtain ⟨w0,hE0,h0⟩:=this
        exact ⟨Mod.refl _ _,(wpTG_of_wpY hsel hQ rest σ _ _ _ (hc.set hj) hz' hl' hB.2 hh' h0).later hE0⟩
    | 2 =>
      simp only [mixTG,Bool.and_eq_true,decide_eq_true_eq] at hB
      intro x
      refine ⟨fun h0=>(by rw [hB.1] at h0;cases h0),fun j hj=>?_⟩
      have hj':=hj
      rw [hB.1] at hj'
      obtain rfl:j = i:=by simpa using hj'
      have:=h x
      unfold softOp
      simp only [ho]
      split
      · rename_i hw;rw [if_pos hw] at this
        exact this.mono (fun a' w' ⟨hM,w0,hE0,h0⟩=>⟨hM,(wpTG_of_wpY hsel hQ rest σ _ _ _ (hc.set hj) hz' hl' hB.2 hh' h0).later hE0⟩) (fun _ _ _ h=>h)
      · rename_i hw;rw [if_neg hw] at this
        obtain ⟨w0,hE0,h0⟩:=this
        exact ⟨Mod.refl _ _,(wpTG_of_wpY hsel hQ rest σ _ _ _ (hc.set hj) hz' hl' hB.2 hh' h0).later hE0⟩
    | k + 3=>simp [mixTG] at hB
end
def dieGOk (ops:Array Oper) (σ:List (Nat × Nat)) (last:Nat):Bool :=
  Region.noSelect ops && decide (σ.length + 1 = ops.size) && (σ.all fun p=>((Region.before ops).getD last 0).testBit p.1 && decide (p.1 < ops.size)) && mixTG ops last σ (Array.replicate ops.size false)
theorem zip_get {l:List Oper} (σ:List (Nat × Nat)) (hlt:∀ q ∈ σ,q.1 < l.toArray.size):∀ p ∈ (σ.map fun p=>(l.getD p.1 default,p.2)).zip σ,l.toArray[p.2.1]? = some p.1.1∧p.1.2 = p.2.2:=by
  intro p hp
  have:∀ (τ:List (Nat × Nat)),(∀ q ∈ τ,q.1 < l.toArray.size)→p ∈ (τ.map fun q=>(l.getD q.1 default,q.2)).zip τ→l.toArray[p.2.1]? = some p.1.1∧p.1.2 = p.2.2:=by
    intro τ
    induction τ with
    | nil=>intro _ h;simp at h
    | cons q τ ih =>
      intro hq h
      simp only [List.map_cons,List.zip_cons_cons,List.mem_cons] at h
      rcases h with rfl|h
      · have:=hq q (by simp)
        simp only [List.size_toArray] at this
        refine ⟨?_,rfl⟩
        simp [this]
      · exact ih (fun r hr=>hq r (by simp [hr])) h
  exact this σ hlt hp
theorem W_dieG {id : Nat} {l : List Oper} (G : Nat → Prop) (σ : List (Nat × Nat)) (last : Nat) (hm : P.follows .mixedOrders = true) (hB : dieGOk l.toArray σ last = true)
    (h:wpY G P l.toArray (fun _ a w=>Dies P l.toArray last Q a w) (σ.map fun p=>(l.getD p.1 default,p.2)) a w):Wp none P (.region id l.toArray true) Q a w:=Wp.intro fun x=>by
  simp only [dieGOk,Bool.and_eq_true,decide_eq_true_eq] at hB
  obtain ⟨⟨⟨hsel,hlen⟩,hreach⟩,hmix⟩:=hB
  refine wpIn_region_any hm ?_
  have hz:=zip_get (l:=l) σ (fun q hq=>by have:=List.all_eq_true.1 hreach q hq;simp only [Bool.and_eq_true,decide_eq_true_eq] at this;exact this.2)
  have h2:=wpTG_of_wpY (P:=P) (ops:=l.toArray) (G:=G) (last:=last) (Z:=fun a w=>∃ w0,Ext w0 w∧Dies P l.toArray last Q a w0) hsel (fun a w h x=>⟨w,x.2,h⟩) _ σ (Array.replicate l.toArray.size false) a w (fun j oj _ hl=>(by rw [getD_replicate_false] at hl;cases hl)) hz (by simp) hmix (fun p hp=>before_reach l.toArray p.1 last (by have:=List.all_eq_true.1 hreach p hp;simp only [Bool.and_eq_true] at this;exact this.1)) h
  have h3:=wpAny_of_wpTG (Q:=UpQ Q) (fun a w K hZ=>by
    obtain ⟨w0,hE,o,ho,hw,hd⟩:=hZ
    unfold wpOpIn
    simp only [ho,hw,if_true]
    have hd':=hd ⟨w,hE⟩
    exact opIn_of_W (.inl rfl) (hd'.mono (fun _ _ h=>h.elim) (fun _ _ _ h=>h))) _ _ _ _ (h2.later (Ext.trans x.2 (Ext.drew (w.later x))))
  rw [hlen] at h3
  exact h3
variable {o:Oper} {A:Act} {fl:List (Nat × Value)}
theorem Y_nil (h:Q .normal a w):wpY G P ops Q [] a w:=h
theorem Y_q {rest : List (Oper × Nat)} {v : Value} {d : Nat} (h : wpY G P ops Q rest (fr ((d, v) :: fl) A) w) (hd : o.dst = some d := by rfl) (hg : o.guard = none := by rfl)
    (hv:∀ x:LaterG G w,o.quietAt P (fr fl A) (Ext (w.laterG x)) (w.laterG x) v:=by intro x;go_simp;(try go_bits);exact rfl):wpY G P ops Q ((o,0) :: rest) (fr fl A) w :=
  ⟨v,.inl ⟨by simp [Region.wanted,hg],hv⟩,by rw [hd,fr_put];exact h⟩
theorem Y_gf {rest : List (Oper × Nat)} {d : Nat} {j t m : Nat} {want : Bool} (h : wpY G P ops Q rest (fr ((d, undef) :: fl) A) w) (hd : o.dst = some d := by rfl) (hg : o.guard = some (j, want) := by rfl) (ht : (ops[j]?).bind (·.dst) = some t := by rfl)
    (hgg:Is (gw ((fr fl A).tmps.getD t undef) want) false:=by go_simp;exact Is.mk _):wpY G P ops Q ((o,m) :: rest) (fr fl A) w:=by
  match m with
  | 0=>exact ⟨undef,.inr ⟨by rw [wanted_gw hg ht,hgg.eq],rfl⟩,by rw [hd,fr_put];exact h⟩
  | 3=>exact ⟨undef,.inr ⟨by rw [wanted_gw hg ht,hgg.eq],rfl⟩,by rw [hd,fr_put];exact h⟩
  | 1 =>
    intro x
    rw [wanted_gw hg ht,hgg.eq]
    exact ⟨w,x.2,by rw [hd,fr_put];exact h⟩
  | 2 =>
    intro x
    rw [wanted_gw hg ht,hgg.eq]
    exact ⟨w,x.2,by rw [hd,fr_put];exact h⟩
  | m + 4 =>
    intro x
    rw [wanted_gw hg ht,hgg.eq]
    exact ⟨w,x.2,by rw [hd,fr_put];exact h⟩
theorem Y_gt {rest : List (Oper × Nat)} {dst : Option Tmp} {op : Op} {type : TypeId} {pos : String} {after : Array Edge} {j t k : Nat} {want : Bool}
    (h:wpY G P ops Q ((⟨dst,op,type,pos,after,none⟩,k) :: rest) (fr fl A) w) (ht:(ops[j]?).bind (·.dst) = some t:=by rfl)
    (hgg:Is (gw ((fr fl A).tmps.getD t undef) want) true:=by go_simp;exact Is.mk _):wpY G P ops Q ((⟨dst,op,type,pos,after,some (j,want)⟩,k) :: rest) (fr fl A) w:=by
  have hw:Region.wanted (⟨dst,op,type,pos,after,some (j,want)⟩:Oper) (yielded ops (fr fl A).tmps) = true:=by rw [wanted_gw rfl ht,hgg.eq]
  have hw':Region.wanted (⟨dst,op,type,pos,after,none⟩:Oper) (yielded ops (fr fl A).tmps) = true:=by simp [Region.wanted]
  match k with
  | 0 =>
    obtain ⟨v,hy,hr⟩:=h
    refine ⟨v,.inl ⟨hw,?_⟩,hr⟩
    rcases hy with ⟨_,hv⟩|⟨hn,_⟩
    · exact hv
    · rw [hw'] at hn;cases hn
  | 3 =>
    obtain ⟨v,hy,hr⟩:=h
    refine ⟨v,.inl ⟨hw,?_⟩,hr⟩
    rcases hy with ⟨_,hv⟩|⟨hn,_⟩
    · exact hv
    · rw [hw'] at hn;cases hn
  | 1 =>
    intro x
    have:=h x
    rw [if_pos hw'] at this
    rw [if_pos hw]
    exact this
  | 2 =>
    intro x
    have:=h x
    rw [if_pos hw'] at this
    rw [if_pos hw]
    exact this
  | k + 4 =>
    intro x
    have:=h x
    rw [if_pos hw'] at this
    rw [if_pos hw]
    exact this
theorem Y_r {rest : List (Oper × Nat)} {v : Value} {d : Nat} (h : wpY G P ops Q rest (fr ((d, v) :: fl) A) w) (hd : o.dst = some d := by rfl) (hg : o.guard = none := by rfl)
    (hv:∀ x:Later w,o.quietAt P (fr fl A) (Ext (w.later x)) (w.later x) v:=by intro x;go_simp;(try go_bits);exact rfl):wpY G P ops Q ((o,3) :: rest) (fr fl A) w :=
  ⟨v,.inl ⟨by simp [Region.wanted,hg],hv⟩,by rw [hd,fr_put];exact h⟩
theorem Y_op {rest:List (Oper × Nat)} {k:Nat} (hk:k = 1∨k = 2) (h:∀ x:Later w,OpW P o (fr fl A) (w.later x) (fun a' w'=>Mod G (w.later x) w'∧∃ w0,Ext w0 w'∧wpY G P ops Q rest a' w0) (fun _ _ _=>False)) (hg:o.guard = none:=by rfl):wpY G P ops Q ((o,k) :: rest) (fr fl A) w:=by
  rcases hk with rfl|rfl <;> (intro x;rw [if_pos (by simp [Region.wanted,hg])];exact h x)
theorem Y_store {b n : Nat} {E : TypeId} {g : Nat → Value} {rest : List (Oper × Nat)} {x y : Operand} {t : TypeId} {off : Nat} {v : Value} (hb : Blk w b E n g) (hGb : G b)
    (h:∀ W',Mod (· = b) w W'→Mod G w W'→Blk W' b E n (put g off v.cells.toList)→wpY G P ops Q rest (fr fl A) W')
    (ho:o.op = .store t x y:=by rfl) (hd:o.dst = none:=by rfl) (hg:o.guard = none:=by rfl)
    (hx:Is ((fr fl A).eval x) (.pointer (some ⟨b,off,none⟩)):=by go_simp;exact Is.mk _) (hy:Is ((fr fl A).eval y) v:=by go_simp;exact Is.mk _)
    (hi:(P.info? t).map (·.size) = some v.cells.size:=by kernel_rfl) (hoff:off + v.cells.size≤n:=by simp [Value.cells] <;> omega) (h1:v.cells.all (·.oneCell') = true:=by simp [Value.cells,Value.oneCell']) :
    wpY G P ops Q ((o,2) :: rest) (fr fl A) w:=by
  refine Y_op (.inr rfl) (fun X=>?_) hg
  obtain ⟨W',hr,hM,hB⟩:=run_store_blk (P:=P) (w:=w.later X) (hb.later X.2) t off v hi hoff h1
  have hMG:Mod G (w.later X) W':=hM.mono (fun k _ hk=>by subst hk;exact hGb)
  have hrun:runV P o (fr fl A) (w.later X) (fun v' w'=>v' = undef∧w' = W'):=by
    unfold runV execOp
    simp only [ho,hx.eq,hy.eq,Sem.run_bind,hr,Result.andThen_ok,Sem.run_pure]
    exact ⟨rfl,rfl⟩
  refine wp_of_runV hrun fun v' w' hk=>?_
  obtain ⟨rfl,rfl⟩:=hk
  exact ⟨hMG,_,Ext.refl _,by rw [hd];exact h _ (Mod.trans X.2 hM (fun _ _ h=>h.elim) (fun _ _ h=>h)) (Mod.trans X.2 hMG (fun _ _ h=>h.elim) (fun _ _ h=>h)) hB⟩
theorem Y_ret {rest : List (Oper × Nat)} {k : Nat} {f : FuncId} {fn : Func} {la : List Operand} {ats : Array TypeId} {lv lv' : List Value} {R : Value → World → Prop} {d : Nat} (hf : P.funcs[f]? = some fn)
    (hc':∀ x:Later w,Ret P f lv.toArray (w.later x) (fun v w'=>R v w'∧Mod G (w.later x) w')) (h:∀ v w',R v w'→wpY G P ops Q rest (fr ((d,v) :: fl) A) w') (hd:o.dst = some d:=by rfl) (hop:o.op = .call { callee:=.value (.func f),args:=la.toArray,argTypes:=ats }:=by rfl) (hn:callable fn = true:=by kernel_rfl)
    (hg:o.guard = none:=by rfl) (hargs:Is (la.map (fr fl A).eval) lv':=by go_simp;exact Is.mk _) (hlv:lv' = lv:=by rfl) (hk:k = 1∨k = 2:=by first|exact .inl rfl|exact .inr rfl):wpY G P ops Q ((o,k) :: rest) (fr fl A) w:=by
  refine Y_op hk (fun x=>?_) hg
  unfold OpW
  rw [run_call hf hn hop,hargs.eq,hlv]
  simp only [uponW]
  refine Calls.mono (Fn.calls (hc' x)) fun e w' hR=>?_
  obtain ⟨w0,hE,hR⟩:=hR
  cases e with
  | returned v=>exact ⟨hR.2.ext hE,w0,hE,by rw [hd,fr_put];exact h v w0 hR.1⟩
  | panicked c=>exact hR.elim
  | outgrown=>exact hR.elim
theorem Y_pure {rest : List (Oper × Nat)} {k : Nat} {f : FuncId} {fn : Func} {la : List Operand} {ats : Array TypeId} {lv lv' : List Value} {v : Value} {d : Nat} (hf : P.funcs[f]? = some fn)
    (hc:∀ x:Later w,Pure P f lv.toArray (w.later x) v) (h:wpY G P ops Q rest (fr ((d,v) :: fl) A) w) (hd:o.dst = some d:=by rfl) (hop:o.op = .call { callee:=.value (.func f),args:=la.toArray,argTypes:=ats }:=by rfl) (hn:callable fn = true:=by kernel_rfl)
    (hg:o.guard = none:=by rfl) (hargs:Is (la.map (fr fl A).eval) lv':=by go_simp;exact Is.mk _) (hlv:lv' = lv:=by rfl) (hk:k = 1∨k = 2:=by first|exact .inl rfl|exact .inr rfl):wpY G P ops Q ((o,k) :: rest) (fr fl A) w:=by
  refine Y_op hk (fun x=>?_) hg
  unfold OpW
  rw [run_call hf hn hop,hargs.eq,hlv]
  simp only [uponW]
  refine Calls.mono (Fn.calls (hc x)) fun e w' hR=>?_
  obtain ⟨w0,hE,hR⟩:=hR
  cases e with
  | returned v'=>obtain ⟨rfl,hE0⟩:=hR;exact ⟨(Ext.trans hE0 hE).mod,w,Ext.trans x.2 (Ext.trans hE0 hE),by rw [hd,fr_put];exact h⟩
  | panicked c=>exact hR.elim
  | outgrown=>exact hR.elim
end
attribute [irreducible] wpY
end Go.Ws
namespace Go.Ws
open Go Go.RowKit Go.Proofs
set_option maxHeartbeats 2000000
set_option maxRecDepth 100000
set_option linter.unusedVariables false
set_option linter.unusedSimpArgs false
theorem eqlSlE (a:Option Addr) (n c:Nat) (w:World):(binOp .eql 29 (.slice a n c) (.slice none 0 0)).run Tryz.prog w = .ok (.bool a.isNone) w:=by
  cases a <;> rfl
theorem cloneE_calls {w:World} {v:Value} {l:List Ent} (hl:RdE w v l) (hn:l.length≤1000000):Ret Tryz.prog 46 #[v] w fun v' w'=>Ext w w'∧OwnE w' v' l∧∀ b,v'.ownBlock = some b→w.heap.size≤b:=by
  have hl0:=Lib.hid hl
  obtain ⟨A0,c,rfl,hc,hcm,HA⟩:=hl
  clear HA
  cases A0 with
  | none =>
    have hl1:l = []:=by
      obtain ⟨A',c',h1,_,_,h4⟩:=hl0.out
      cases h1
      rcases h4 with ⟨_,h⟩|⟨b,o,h,_⟩
      · exact h
      · cases h
    subst hl1
    have g:=fun w=>eqlSlE none 0 c w
    refine Fn_of Tryz.func46 rfl (Nat.le_of_ble_eq_true rfl) ?_;intro A hd hA;simp only [ix,Nat.reduceAdd];replace hA:A.tmps.size = 8:=hA
    repeat' (first|refine X_q ?_|refine X_nil ?_|refine W_seqk (fun K hK=>?_)|refine W_seqr ?_|refine W_ret ?_|refine W_tt ?_|go_step)
    exact Body_ret hd ⟨by simp,Own.nil _,by intro b hb;cases hb⟩
  | some a =>
    have g:=fun w=>eqlSlE (some a) l.length c w
    refine Fn_of Tryz.func46 rfl (Nat.le_of_ble_eq_true rfl) ?_;intro A hd hA;simp only [ix,Nat.reduceAdd];replace hA:A.tmps.size = 8:=hA
    repeat' (first|refine X_q ?_|refine X_nil ?_|refine W_seqk (fun K hK=>?_)|refine W_seqr ?_|refine W_skip ?_|(refine X_s (fun x K hK=>?_);go_simp;refine hK _ _ (Ext.alloc _ _) ?_;clear hK K;refine X_al x ?_;generalize (World.later _ x).heap.size = bn;intro yn hn1 hn2 hn3 hn4 hn5;clear x)|refine W_ff ?_|go_step)
    refine X_append (xs:=[]) elemEnt (Own.empty hn5.out) (hl0.out.later (by simp)) (by simp;omega) (by unfold maxLen;simp;omega) (fun v' W' hM hO hF _=>?_)
    repeat' (first|refine X_q ?_|refine X_nil ?_|refine W_ret ?_|go_step)
    refine Body_ret hd ⟨Ext.fresh yn.2 hM (fun b hb=>by cases hb;exact hn1),hO,fun b hb=>?_⟩
    have hs:w.heap.size≤(w.later yn).heap.size:=yn.2.size
    rcases hF with h|⟨g,h,hg⟩
    · rw [h] at hb;cases hb;exact hn1
    · rw [h] at hb;cases hb;omega
theorem log_calls {w:World} {b:Nat} {F:Nat→Prop} {s:RepS} (h:Rep w b F s) (hs:s.least ≠ 0) (hn:s.log.length≤1000000):Ret Tryz.prog 17 #[.pointer (some ⟨b,0,none⟩)] w fun v' w'=>Ext w w'∧OwnE w' v' s.log∧∀ b,v'.ownBlock = some b→w.heap.size≤b:=by
  have HP:=Lib.hid h
  obtain ⟨uL,uI,uC,h,hf⟩:=h.ex
  have H:=Lib.hid h
  obtain ⟨hlt,-,-,-,-,-,-,-,-,d12,-,-⟩:=h.cells
  obtain ⟨A1,c1,rfl,-⟩:=h.rdL.ent
  clear h hf
  refine Fn_of Tryz.func17 rfl (Nat.le_of_ble_eq_true rfl) ?_;intro A hd hA;simp only [ix,Nat.reduceAdd];replace hA:A.tmps.size = 10:=hA
  repeat' (first|refine X_pure Tryz.func33 (none_of (HP.out.later (by simp)) hs) ?_|refine X_q ?_|refine X_nil ?_|refine W_seqk (fun K hK=>?_)|refine W_seqr ?_|refine W_skip ?_|refine W_ff ?_|go_step)
  refine X_ret Tryz.func46 (cloneE_calls H.out.rdL hn) (fun r w1 hR=>?_)
  repeat' (first|refine X_q ?_|refine X_nil ?_|refine W_ret ?_|go_step)
  exact Body_ret hd hR
structure Fetch where
  src:Int
  epoch:Int
  offset:Int
  last:Int
  flushed:Int
abbrev Fetch.cs (f:Fetch):List Value:=[.int .i64 f.src,.int .i64 f.epoch,.int .i64 f.offset,.int .i64 f.last,.int .i64 f.flushed]
abbrev Fetch.v (f:Fetch):Value:=.agg #[.int .i64 f.src,.int .i64 f.epoch,.int .i64 f.offset,.int .i64 f.last,.int .i64 f.flushed]
def RepS.asks (s:RepS):Fetch:=⟨s.self,s.epoch,s.log.length,lastE s.log,s.flushed⟩
theorem ask_ok {w:World} {b:Nat} {F:Nat→Prop} {s:RepS} (h:Rep w b F s) (hs:s.least ≠ 0) (hm:mayE s.log = true) (hr:s.role = 2):Ret Tryz.prog 22 #[.pointer (some ⟨b,0,none⟩)] w fun v w'=>v = .tuple #[s.asks.v,.int .i64 0]∧Ext w w':=by
  have HP:=Lib.hid h
  obtain ⟨uL,uI,uC,h,hf⟩:=h.ex
  have H:=Lib.hid h
  obtain ⟨hlt,-,-,-,-,d8,-,d10,d11,d12,d13,-⟩:=h.cells
  obtain ⟨A1,c1,rfl,-⟩:=h.rdL.ent
  clear h hf
  have hrb:(s.role == 2) = true:=by simp [hr]
  refine Fn_ofD Tryz.func22 rfl (Nat.le_of_ble_eq_true rfl) ?_;intro A hd hA;simp only [ix,Nat.reduceAdd];replace hA:A.tmps.size = 38:=hA
  repeat' (first|refine X_nil ?_|refine W_seqk (fun K hK=>?_)|refine W_seqr ?_|(refine X_s (fun x K hK=>?_);go_simp;refine hK _ _ (Ext.alloc _ _) ?_;clear hK K;refine X_al x ?_;generalize (World.later _ x).heap.size = bn;intro yn hn1 hn2 hn3 hn4 hn5;clear x)|go_step)
  rename_i bv yv p1 p2 p3 p4 p5
  refine X_defc (be:=bn) hd hA (fun W hE=>by unfold execOp caughtD;go_simp) ?_;have hbe:=Lib.hid (Blk.one hn5.out);clear hd hA A;intro A hd hA
  have hbv:=Lib.hid (Blk.new p5.out)
  repeat' (first|refine X_pure Tryz.func33 (none_of (HP.out.later (by simp)) hs) ?_|refine X_pure Tryz.func50 (must_ok _) ?_|refine X_q ?_|refine X_nil ?_|refine W_seqk (fun K hK=>?_)|refine W_seqr ?_|go_step)
  have hne:bv ≠ bn:=by have:=hbv.out.lt;omega
  obtain ⟨G,hG⟩:∃ G:Nat→Prop,G = (fun k=>k = bv∨k = bn):=⟨_,rfl⟩
  have hGb:¬ G b:=by subst hG;simp;omega
  have HGv:Hid (G bv):=Lib.hid (by subst hG;exact .inl rfl)
  have HGn:Hid (G bn):=Lib.hid (by subst hG;exact .inr rfl)
  have HGw:Hid (∀ k,G k→w.heap.size≤k):=Lib.hid (by subst hG;intro k hk;rcases hk with rfl|rfl <;> omega)
  clear hG
  have HE:=Lib.hid (by simp:Ext w ((w.later yv).later yn))
  have HX:=Lib.hid (hbv.out.later yn.2)
  clear hbv
  refine W_drawG G [(0,0),(1,0),(2,0),(3,0),(4,0),(5,0),(6,0),(7,0),(8,0),(9,0),(10,0),(11,0),(12,0),(13,0),(15,0),(16,0),(17,0),(18,0),(14,1),(19,2),(20,0),(21,2),(22,0),(23,2),(24,0),(25,2),(26,0),(27,2),(28,0),(29,2),(30,2)] (by kernel_rfl) (by kernel_rfl) ?_
  repeat' (first|refine Y_pure Tryz.func59 (fun x=>rlast_calls (HP.out.later (by simp)) hm) ?_|refine Y_q ?_|fail)
  refine Y_store (off:=0) HX.out HGv.out (fun W1 hM hG1 hB=>?_)
  have HBE:=Lib.hid (hbe.out.mod hM (fun h=>hne h.symm));have HX:=Lib.hid hB;have HMG:=Lib.hid hG1;clear hM hB hG1 hbe
  repeat' (first|refine Y_q ?_|fail)
  refine Y_store (off:=0) HX.out HGv.out (fun W2 hM hG1 hB=>?_)
  have HBE:=Lib.hid (HBE.out.mod hM (fun h=>hne h.symm));have HX:=Lib.hid hB;have HMG:=Lib.hid (HMG.out.transG hG1);clear hM hB hG1
  repeat' (first|refine Y_q ?_|fail)
  refine Y_store (off:=1) HX.out HGv.out (fun W3 hM hG1 hB=>?_)
  have HBE:=Lib.hid (HBE.out.mod hM (fun h=>hne h.symm));have HX:=Lib.hid hB;have HMG:=Lib.hid (HMG.out.transG hG1);clear hM hB hG1
  repeat' (first|refine Y_q ?_|fail)
  refine Y_store (off:=2) HX.out HGv.out (fun W4 hM hG1 hB=>?_)
  have HBE:=Lib.hid (HBE.out.mod hM (fun h=>hne h.symm));have HX:=Lib.hid hB;have HMG:=Lib.hid (HMG.out.transG hG1);clear hM hB hG1
  repeat' (first|refine Y_q ?_|fail)
  refine Y_store (off:=3) HX.out HGv.out (fun W5 hM hG1 hB=>?_)
  have HBE:=Lib.hid (HBE.out.mod hM (fun h=>hne h.symm));have HX:=Lib.hid hB;have HMG:=Lib.hid (HMG.out.transG hG1);clear hM hB hG1
  repeat' (first|refine Y_q ?_|fail)
  refine Y_store (off:=4) HX.out HGv.out (fun W6 hM hG1 hB=>?_)
  have HBE:=Lib.hid (HBE.out.mod hM (fun h=>hne h.symm));have HX:=Lib.hid hB;have HMG:=Lib.hid (HMG.out.transG hG1);clear hM hB hG1
  skip
  refine Y_store (off:=0) HBE.out HGn.out (fun W7 hM hG1 hB=>?_)
  have HX:=Lib.hid (HX.out.mod hM hne);have HBE:=Lib.hid hB;have HMG:=Lib.hid (HMG.out.transG hG1);clear hM hB hG1
  repeat' (first|refine Y_nil ?_)
  repeat' (first|refine W_ret ?_|go_step)
  refine End_ok2r (cs:=s.asks.cs) hd (HBE.out.congr (g':=fun _=>.int .i64 0) (fun k hk=>by obtain rfl:k = 0:=(by omega);rfl)) HX.out ?_ ⟨rfl,Ext.fresh HE.out HMG.out HGw.out⟩ Tryz.underlying47
  intro k hk
  simp only [List.length_cons,List.length_nil] at hk
  obtain rfl|rfl|rfl|rfl|rfl:k = 0∨k = 1∨k = 2∨k = 3∨k = 4:=by omega
  all_goals rfl
theorem ask_no {w:World} {b:Nat} {F:Nat→Prop} {s:RepS} (h:Rep w b F s) (hs:s.least ≠ 0) (hr:s.role ≠ 2):Ret Tryz.prog 22 #[.pointer (some ⟨b,0,none⟩)] w fun v w'=>v = .tuple #[(Fetch.mk 0 0 0 0 0).v,.int .i64 211]∧Ext w w':=by
  have HP:=Lib.hid h
  obtain ⟨uL,uI,uC,h,hf⟩:=h.ex
  obtain ⟨hlt,-,-,-,-,d8,-,d10,d11,d12,d13,-⟩:=h.cells
  clear h hf
  have hrb:(s.role == 2) = false:=by simp [hr]
  refine Fn_ofD Tryz.func22 rfl (Nat.le_of_ble_eq_true rfl) ?_;intro A hd hA;simp only [ix,Nat.reduceAdd];replace hA:A.tmps.size = 38:=hA
  repeat' (first|refine X_nil ?_|refine W_seqk (fun K hK=>?_)|refine W_seqr ?_|(refine X_s (fun x K hK=>?_);go_simp;refine hK _ _ (Ext.alloc _ _) ?_;clear hK K;refine X_al x ?_;generalize (World.later _ x).heap.size = bn;intro yn hn1 hn2 hn3 hn4 hn5;clear x)|go_step)
  rename_i bv yv p1 p2 p3 p4 p5
  refine X_defc (be:=bn) hd hA (fun W hE=>by unfold execOp caughtD;go_simp) ?_;have hbe:=Lib.hid (Blk.one hn5.out);clear hd hA A;intro A hd hA
  have hne:bv ≠ bn:=by omega
  have hbv:=Lib.hid ((Blk.new p5.out).later yn.2)
  repeat' (first|refine X_pure Tryz.func33 (none_of (HP.out.later (by simp)) hs) ?_|refine X_pure Tryz.func50 (must_ok 1) ?_|refine X_q ?_|refine X_nil ?_|refine W_seqk (fun K hK=>?_)|refine W_seqr ?_|go_step)
  refine X_die Tryz.func50 (must_no 211) (fun c w' hC=>?_)
  obtain ⟨rfl,hE⟩:=hC
  refine End_no2r (cs:=(Fetch.mk 0 0 0 0 0).cs) hd (hbe.out.later hE) (hbv.out.later hE) ?_ hne (fun W1 hM=>⟨rfl,Ext.fresh (Ext.trans (by simp) hE:Ext w w') hM (fun k hk=>by subst hk;omega)⟩) Tryz.underlying47
  intro k hk
  simp only [List.length_cons,List.length_nil] at hk
  obtain rfl|rfl|rfl|rfl|rfl:k = 0∨k = 1∨k = 2∨k = 3∨k = 4:=by omega
  all_goals rfl
def RepS.init (self least:Int):RepS:=⟨self,least,1,0,[],0,0,0,0,[],[],fun _=>0⟩
def rightNew (self least:Int):Bool:=inB self 0 3 && inB least 1 4
theorem repNew_ok {w:World} (self least:Int) (h:rightNew self least = true):Ret Tryz.prog 13 #[.int .i64 self,.int .i64 least] w fun v w'=>∃ b,v = .tuple #[.pointer (some ⟨b,0,none⟩),.int .i64 0]∧Ext w w'∧w.heap.size≤b∧Rep w' b (fun k=>w.heap.size≤k) (RepS.init self least):=by
  simp only [rightNew,Bool.and_eq_true] at h
  obtain ⟨h1,h2⟩:=h
  have h3:1≤least:=by simp [inB] at h2;omega
  have h4:least≤4:=by simp [inB] at h2;omega
  have h3b:¬ least < 1:=by omega
  have h4b:¬ 4 < least:=by omega
  refine Fn_of Tryz.func13 rfl (Nat.le_of_ble_eq_true rfl) ?_;intro A hd hA;simp only [ix,Nat.reduceAdd];replace hA:A.tmps.size = 21:=hA
  repeat' (first|refine X_q ?_|refine X_nil ?_|refine W_seqk (fun K hK=>?_)|refine W_seqr ?_|go_step)
  refine W_scope ?_
  repeat' (first|refine X_pure Tryz.func32 (h1▸broker_calls self _) ?_|refine X_gt ?_|refine X_q ?_|refine X_nil ?_|refine W_seqk (fun K hK=>?_)|refine W_seqr ?_|refine W_ret ?_|refine W_skip ?_|(refine X_s (fun x K hK=>?_);go_simp;refine hK _ _ (Ext.alloc _ _) ?_;clear hK K;refine X_al x ?_;generalize (World.later _ x).heap.size = bn;intro yn hn1 hn2 hn3 hn4 hn5;clear x)|refine W_ff ?_|go_step)
  refine Body_ret2 hd ⟨_,rfl,by simp,by first|assumption|omega,_,_,_,⟨(Blk.new hn5.out).congr (all15 (by refine ⟨?_,?_,?_,?_,?_,?_,?_,?_,?_,?_,?_,?_,?_,?_,?_⟩ <;> rfl)),Own.nil _,RdS.nil _,RdS.nil _,by simp [Value.ownBlock],by simp [Value.ownBlock],by simp [Value.ownBlock],by intro k hk;cases hk⟩,?_⟩
  rintro k (rfl|hk|hk|hk)
  · first|assumption|omega
  · cases hk
  · cases hk
  · cases hk
theorem repNew_no {w:World} (self least:Int) (h:rightNew self least = false):Pure Tryz.prog 13 #[.int .i64 self,.int .i64 least] w (.tuple #[.pointer none,.int .i64 2]):=by
  by_cases h1:inB self 0 3 = true
  · have h2:¬ (1≤least∧least≤4):=fun h2=>by rw [rightNew,h1,Bool.true_and] at h;simp [inB] at h;omega
    by_cases h3:least < 1
    · refine Fn_of Tryz.func13 rfl (Nat.le_of_ble_eq_true rfl) ?_;intro A hd hA;simp only [ix,Nat.reduceAdd];replace hA:A.tmps.size = 21:=hA
      repeat' (first|refine X_q ?_|refine X_nil ?_|refine W_seqk (fun K hK=>?_)|refine W_seqr ?_|go_step)
      refine W_scopeF 0 rfl ?_
      repeat' (first|refine X_pure Tryz.func32 (h1▸broker_calls self _) ?_|refine X_gt ?_|refine X_q ?_|refine X_g ?_|refine X_nil ?_|refine W_seqk (fun K hK=>?_)|refine W_seqr ?_|refine W_tt ?_|go_step)
      refine W_goto ?_
      refine And.intro rfl ?_
      repeat' (first|refine X_q ?_|refine X_nil ?_|refine W_seqk (fun K hK=>?_)|refine W_seqr ?_|refine W_ret ?_|refine W_skip ?_|go_step)
      exact Body_ret2 hd ⟨rfl,by simp⟩
    · have h4:4 < least:=by omega
      refine Fn_of Tryz.func13 rfl (Nat.le_of_ble_eq_true rfl) ?_;intro A hd hA;simp only [ix,Nat.reduceAdd];replace hA:A.tmps.size = 21:=hA
      repeat' (first|refine X_q ?_|refine X_nil ?_|refine W_seqk (fun K hK=>?_)|refine W_seqr ?_|go_step)
      refine W_scopeF 0 rfl ?_
      repeat' (first|refine X_pure Tryz.func32 (h1▸broker_calls self _) ?_|refine X_gt ?_|refine X_q ?_|refine X_nil ?_|refine W_seqk (fun K hK=>?_)|refine W_seqr ?_|refine W_tt ?_|go_step)
      refine W_goto ?_
      refine And.intro rfl ?_
      repeat' (first|refine X_q ?_|refine X_nil ?_|refine W_seqk (fun K hK=>?_)|refine W_seqr ?_|refine W_ret ?_|refine W_skip ?_|go_step)
      exact Body_ret2 hd ⟨rfl,by simp⟩
  · have h1f:inB self 0 3 = false:=by simpa using h1
    refine Fn_of Tryz.func13 rfl (Nat.le_of_ble_eq_true rfl) ?_;intro A hd hA;simp only [ix,Nat.reduceAdd];replace hA:A.tmps.size = 21:=hA
    repeat' (first|refine X_q ?_|refine X_nil ?_|refine W_seqk (fun K hK=>?_)|refine W_seqr ?_|go_step)
    refine W_scopeF 0 rfl ?_
    repeat' (first|refine X_pure Tryz.func32 (h1f▸broker_calls self _) ?_|refine X_q ?_|refine X_g ?_|refine X_nil ?_|refine W_seqk (fun K hK=>?_)|refine W_seqr ?_|refine W_tt ?_|go_step)
    refine W_goto ?_
    refine And.intro rfl ?_
    repeat' (first|refine X_q ?_|refine X_nil ?_|refine W_seqk (fun K hK=>?_)|refine W_seqr ?_|refine W_ret ?_|refine W_skip ?_|go_step)
    exact Body_ret2 hd ⟨rfl,by simp⟩
def RepS.crash (s:RepS) (keep:Int):RepS × Int :=
  if keep < 0 then (s,2) else
    let n:=gmin (s.log.length:Int) (s.flushed + gmin keep 4096)
    ({ s with version:=0,beg:=0,isr:=[],counts:=[],known:=fun _=>0,log:=s.log.take n.toNat,flushed:=n,high:=gmin s.high n,role:=1 },0)
theorem crash_ok {w : World} {b : Nat} {F : Nat → Prop} {s : RepS} (h : Rep w b F s) (hs : s.least ≠ 0) (hl : s.log.length ≤ 4096) (hf0 : 0 ≤ s.flushed) (hf1 : s.flushed ≤ s.log.length) (keep : Int) (hk : 0 ≤ keep) :
    Ret Tryz.prog 19 #[.pointer (some ⟨b,0,none⟩),.int .i64 keep] w fun r w'=>r = .int .i64 0∧Mod F w w'∧Rep w' b (fun k=>F k∨w.heap.size≤k) (s.crash keep).1:=by
  refine h.tight (R:=fun r _=>r = .int .i64 0) ?_
  intro F h hFW
  have hFb:=Lib.hid h.own
  have HFW:=Lib.hid hFW
  clear hFW
  have HP:=Lib.hid h
  obtain ⟨uL,uI,uC,h,hf⟩:=h.ex
  have H:=Lib.hid h
  have HFF:=Lib.hid hf
  obtain ⟨hlt,-,-,-,-,d8,-,d10,d11,d12,d13,d14⟩:=h.cells
  obtain ⟨A1,c1,rfl,hc1,hc2,-⟩:=h.rdL.ent
  have HLT:=Lib.hid h.lt
  clear h hf
  obtain ⟨n,hn⟩:∃ n:Nat,(n:Int) = gmin (s.log.length:Int) (s.flushed + gmin keep 4096):=by
    refine ⟨(gmin (s.log.length:Int) (s.flushed + gmin keep 4096)).toNat,?_⟩
    rw [gmin_eq,gmin_eq];omega
  have hnl:n≤s.log.length:=by rw [gmin_eq,gmin_eq] at hn;omega
  have hcr:(s.crash keep).1 = { s with version:=0,beg:=0,isr:=[],counts:=[],known:=fun _=>0,log:=s.log.take n,flushed:=n,high:=gmin s.high n,role:=1 }:=by
    unfold RepS.crash
    rw [if_neg (by omega)]
    simp only [← hn]
    rfl
  rw [hcr]
  clear hcr
  have hnn:(if (s.flushed + if 4096 < keep then 4096 else keep) < (s.log.length:Int) then s.flushed + if 4096 < keep then 4096 else keep else (s.log.length:Int)) = (n:Int):=by rw [hn];unfold gmin;rfl
  clear hn
  have hnc:n≤c1:=by omega
  have hk0:¬ keep < 0:=by omega
  have hkb:decide (0≤keep) = true:=by simpa using hk
  refine Fn_ofD Tryz.func19 rfl (Nat.le_of_ble_eq_true rfl) ?_;intro A hd hA;simp only [ix,Nat.reduceAdd];replace hA:A.tmps.size = 56:=hA
  repeat' (first|refine X_nil ?_|refine W_seqk (fun K hK=>?_)|refine W_seqr ?_|(refine X_s (fun x K hK=>?_);go_simp;refine hK _ _ (Ext.alloc _ _) ?_;clear hK K;refine X_al x ?_;generalize (World.later _ x).heap.size = bn;intro yn hn1 hn2 hn3 hn4 hn5;clear x)|go_step)
  refine X_defc (be:=bn) hd hA (fun W hE=>by unfold execOp caughtD;go_simp) ?_;have hbe:=Lib.hid (Blk.one hn5.out);clear hd hA A;intro A hd hA
  repeat' (first|refine X_pure Tryz.func33 (none_of (HP.out.later (by simp)) hs) ?_|refine X_pure Tryz.func50 (must_ok _) ?_|refine X_q ?_|refine X_nil ?_|refine W_seqk (fun K hK=>?_)|refine W_seqr ?_|go_step)
  refine W_draw (by kernel_rfl) (by kernel_rfl) ?_
  repeat' (first|refine X_q ?_|refine X_niln ?_|refine W_seqk (fun K hK=>?_)|refine W_seqr ?_|go_step)
  refine X_ret Tryz.func46 (cloneE_calls ((H.out.rdL.take n hnl).later (by simp)) (by simp;omega)) (fun r w1 hR=>?_)
  have HR:=Lib.hid hR
  obtain ⟨y1,rfl⟩:=hR.1.get
  clear hR
  repeat' (first|refine X_q ?_|fail)
  have HY:=Lib.hid (And.intro hn1 (And.intro y1.2 (Ext.trans yn.2 y1.2)))
  have HN2:=Lib.hid hn2
  have HBE:=Lib.hid (hbe.out.later y1.2)
  have HA0:=Lib.hid (H.out.later (Ext.trans yn.2 y1.2))
  obtain ⟨Ar,mr,cr,rfl⟩:=own_slice HR.out.2.1
  have hfr:∀ k,(Value.slice Ar mr cr).ownBlock = some k→w.heap.size≤k:=fun k hk=>Nat.le_trans yn.2.size (HR.out.2.2 k hk)
  have HFR:=Lib.hid hfr
  clear hfr hbe hn1 hn2 hn3 hn4 hn5
  refine X_store (off:=12) HA0.out.blk (fun W1 hM1 hB1=>?_)
  have HA1:=Lib.hid (HA0.out.putL hM1 hB1 (HR.out.2.1.mod hM1 (fun k hk he=>by subst he;have:=HFR.out _ hk;omega)) (fun hk=>by have:=HFR.out _ hk;omega) (fun k hk=>⟨fun h=>by have:=HFR.out _ hk;have:=HLT.out k (.inr (.inr (.inl h)));omega,fun h=>by have:=HFR.out _ hk;have:=HLT.out k (.inr (.inr (.inr h)));omega⟩))
  have HM:=Lib.hid (Mod.trans HY.out.2.2 hM1 (fun _ _ h=>h.elim) (fun _ _ h=>h):Mod (· = b) w W1)
  have HBE:=Lib.hid (HBE.out.mod hM1 (fun h=>by have:=HY.out.1;omega))
  clear hM1 hB1
  obtain ⟨hlt1,-,-,-,-,-,-,-,-,-,e13,e14⟩:=HA1.out.cells
  have hmin:(if (n:Int) < s.high then (n:Int) else s.high) = gmin s.high n:=rfl
  repeat' (first|refine X_q ?_|refine X_nil ?_|refine W_seqk (fun K hK=>?_)|refine W_seqr ?_|go_step)
  refine X_store (off:=13) HA1.out.blk (fun W2 hM2 hB2=>?_)
  have HA2:=Lib.hid (HA1.out.putFlu hM2 hB2)
  have HM:=Lib.hid (HM.out.transG hM2)
  have HBE:=Lib.hid (HBE.out.mod hM2 (fun h=>by have:=HY.out.1;omega))
  clear hM2 hB2
  repeat' (first|refine X_q ?_|fail)
  refine X_store (off:=14) HA2.out.blk (fun W3 hM3 hB3=>?_)
  have HA3:=Lib.hid (HA2.out.putHigh hM3 hB3)
  have HM:=Lib.hid (HM.out.transG hM3)
  have HBE:=Lib.hid (HBE.out.mod hM3 (fun h=>by have:=HY.out.1;omega))
  clear hM3 hB3
  repeat' (first|refine X_q ?_|refine X_nil ?_|refine W_seqk (fun K hK=>?_)|refine W_seqr ?_|go_step)
  refine X_store (off:=10) HA3.out.blk (fun W4 hM4 hB4=>?_)
  have HA4:=Lib.hid (HA3.out.putRole hM4 hB4)
  have HM:=Lib.hid (HM.out.transG hM4)
  have HBE:=Lib.hid (HBE.out.mod hM4 (fun h=>by have:=HY.out.1;omega))
  clear hM4 hB4
  repeat' (first|refine X_q ?_|fail)
  refine X_store (off:=0) HA4.out.blk (fun W5 hM5 hB5=>?_)
  have HA5:=Lib.hid (HA4.out.putBare hM5 hB5)
  have HM:=Lib.hid (HM.out.transG hM5)
  have HBE:=Lib.hid (HBE.out.mod hM5 (fun h=>by have:=HY.out.1;omega))
  clear hM5 hB5
  repeat' (first|refine X_nil ?_|refine W_seqk (fun K hK=>?_)|refine W_seqr ?_|go_step)
  refine X_store (off:=0) HBE.out (fun W6 hM6 hB6=>?_)
  have HA6:=Lib.hid (HA5.out.mod hM6 (fun k hk he=>by subst he;have:=HY.out.1;rcases hk with h|h|h|h;(have:=HY.out.1;omega);(have:=HR.out.2.2 _ h;have:=HN2.out;omega);cases h;cases h))
  have HB6:=Lib.hid hB6
  have HM6:=Lib.hid hM6
  clear hM6 hB6
  repeat' (first|refine X_nil ?_|refine W_ret ?_|go_step)
  refine End_ok1 hd (HB6.out.congr (g':=fun _=>.int .i64 0) (fun k hk=>by obtain rfl:k = 0:=(by omega);rfl)) ⟨rfl,?_,_,_,_,HA6.out,?_⟩
  · exact Mod.trans HM.out HM6.out (fun k _ h=>by subst h;exact hFb.out) (fun k hk h=>by subst h;have:=HY.out.1;omega)
  · rintro k (rfl|hk|hk|hk)
    · exact .inl hFb.out
    · exact .inr (HFR.out k hk)
    · cases hk
    · cases hk
end Go.Ws
