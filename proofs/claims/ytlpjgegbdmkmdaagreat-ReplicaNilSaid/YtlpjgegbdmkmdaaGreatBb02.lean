/- Lemmas for the statements of this layer (joined texts); no condition. -/
import Derived.Test.YtlpjgegbdmkmdaaGreatProg
import Derived.Test.YtlpjgegbdmkmdaaGreatRows
import Derived.ProofKit
import Derived.OpenShut
import Derived.Deep.Slices
import Derived.Below
import Derived.Test.YtlpjgegbdmkmdaaGreatBb01
namespace Go.Ws
open Go Go.RowKit
set_option linter.unusedVariables false
structure Ent where
  ep:Int
  id:Int
  num:Int
  seq:Int
  kind:Int
  val:Int
  deriving DecidableEq,Inhabited
def Ent.cs (e:Ent):List Value:=[.int .i64 e.ep,.int .i64 e.id,.int .i64 e.num,.int .i64 e.seq,.int .i64 e.kind,.int .i64 e.val]
abbrev Ent.v (e:Ent):Value:=.agg #[.int .i64 e.ep,.int .i64 e.id,.int .i64 e.num,.int .i64 e.seq,.int .i64 e.kind,.int .i64 e.val]
def RowAt {α:Type} (enc:α→List Value) (k:Nat) (w:World) (b o:Nat) (xs:List α):Prop :=
  ∀ i x,xs[i]? = some x→∀ j u,(enc x)[j]? = some u→w.cell? ⟨b,o + i * k + j,none⟩ = some u
def Rd {α:Type} (enc:α→List Value) (k:Nat) (w:World) (v:Value) (xs:List α):Prop :=
  ∃ A c,v = .slice A xs.length c∧xs.length≤c∧c≤maxLen∧(((A = none∨c = 0)∧xs = [])∨∃ b o,A = some ⟨b,o,none⟩∧b < w.heap.size∧RowAt enc k w b o xs)
variable {α:Type} {enc:α→List Value} {k:Nat} {w w':World} {v:Value} {xs:List α}
theorem RowAt.of_heap {b o:Nat} (h:RowAt enc k w b o xs) (hb:w'.heap[b]? = w.heap[b]?):RowAt enc k w' b o xs :=
  fun i x hx j u hu=>(World.cell?_of_block (a:=⟨b,o + i * k + j,none⟩) hb).trans (h i x hx j u hu)
theorem RowAt.later {b o:Nat} (h:RowAt enc k w b o xs) (hb:b < w.heap.size) (hE:Ext w w'):RowAt enc k w' b o xs :=
  h.of_heap (hE.block b hb (fun h=>h))
theorem Rd.later (h:Rd enc k w v xs) (hE:Ext w w'):Rd enc k w' v xs:=by
  obtain ⟨A,c,h1,h2,h3,h4⟩:=h
  refine ⟨A,c,h1,h2,h3,?_⟩
  rcases h4 with h4|⟨b,o,e,hb,hr⟩
  · exact .inl h4
  · exact .inr ⟨b,o,e,Nat.lt_of_lt_of_le hb hE.size,hr.later hb hE⟩
theorem Rd.mod {F:Nat→Prop} (h:Rd enc k w v xs) (hM:Mod F w w') (hF:∀ b,v.ownBlock = some b→¬ F b):Rd enc k w' v xs:=by
  obtain ⟨A,c,rfl,h2,h3,h4⟩:=h
  refine ⟨A,c,rfl,h2,h3,?_⟩
  rcases h4 with h4|⟨b,o,rfl,hb,hr⟩
  · exact .inl h4
  · exact .inr ⟨b,o,rfl,Nat.lt_of_lt_of_le hb hM.size,hr.of_heap (hM.block b hb (hF b rfl))⟩
theorem Rd.modW {F:Nat→Prop} (h:Rd enc k w v xs) (hM:Mod F w w') (hF:∀ b,v.ownBlock = some b→xs = []∨¬ F b):Rd enc k w' v xs:=by
  obtain ⟨A,c,rfl,h2,h3,h4⟩:=h
  refine ⟨A,c,rfl,h2,h3,?_⟩
  rcases h4 with h4|⟨b,o,rfl,hb,hr⟩
  · exact .inl h4
  · refine .inr ⟨b,o,rfl,Nat.lt_of_lt_of_le hb hM.size,?_⟩
    rcases hF b rfl with rfl|hn
    · exact fun i x hx=>by simp at hx
    · exact hr.of_heap (hM.block b hb hn)
theorem Rd.lt (h:Rd enc k w v xs) (hx:xs ≠ []):∀ b,v.ownBlock = some b→b < w.heap.size:=fun b hb=>by
  obtain ⟨A,c,rfl,h2,h3,h4⟩:=h
  rcases h4 with h4|⟨b',o,rfl,hb',hr⟩
  · exact (hx h4.2).elim
  · cases hb;exact hb'
theorem Rd.nil (w:World):Rd enc k w (.slice none 0 0) ([]:List α):=⟨none,0,rfl,Nat.le_refl _,Nat.zero_le _,.inl ⟨.inl rfl,rfl⟩⟩
theorem RowAt.take {b o:Nat} (h:RowAt enc k w b o xs) (n:Nat):RowAt enc k w b o (xs.take n):=fun i x hx j u hu=>by
  rw [List.getElem?_take] at hx
  split at hx
  · exact h i x hx j u hu
  · cases hx
theorem RowAt.drop {b o:Nat} (h:RowAt enc k w b o xs) (n:Nat):RowAt enc k w b (o + n * k) (xs.drop n):=fun i x hx j u hu=>by
  rw [List.getElem?_drop] at hx
  have:=h (n + i) x hx j u hu
  rw [Nat.add_mul] at this
  rw [← this];congr 2;omega
theorem Rd.take {A:Option Addr} {n c:Nat} (h:Rd enc k w (.slice A n c) xs) (m:Nat) (hm:m≤xs.length):Rd enc k w (.slice A m c) (xs.take m):=by
  obtain ⟨A',c',h1,h2,h3,h4⟩:=h
  cases h1
  have hl:(xs.take m).length = m:=by simp;omega
  refine ⟨A,c,by rw [hl],by rw [hl];omega,h3,?_⟩
  rcases h4 with ⟨h,h'⟩|⟨b,o,e,hb,hr⟩
  · exact .inl ⟨h,by simp [h']⟩
  · exact .inr ⟨b,o,e,hb,hr.take m⟩
theorem Rd.length {A:Option Addr} {n c:Nat} (h:Rd enc k w (.slice A n c) xs):xs.length = n:=by
  obtain ⟨A',c',h1,h2,h3,h4⟩:=h
  cases h1;rfl
theorem Rd.ent {w : World} {v : Value} {l : List Ent} (h : Rd Ent.cs 6 w v l) : ∃ A c, v = .slice A l.length c ∧ l.length ≤ c ∧ c ≤ 9223372036854775807 ∧
    Hid (∀ i,i < l.length→∃ e b o,Hid (l[i]? = some e)∧A = some ⟨b,o,none⟩∧b < w.heap.size∧w.cell? ⟨b,o + i * 6,none⟩ = some (.int .i64 e.ep)∧w.cell? ⟨b,o + i * 6 + 1,none⟩ = some (.int .i64 e.id) ∧
      w.cell? ⟨b,o + i * 6 + 2,none⟩ = some (.int .i64 e.num)∧w.cell? ⟨b,o + i * 6 + 3,none⟩ = some (.int .i64 e.seq)∧w.cell? ⟨b,o + i * 6 + 4,none⟩ = some (.int .i64 e.kind)∧w.cell? ⟨b,o + i * 6 + 5,none⟩ = some (.int .i64 e.val)):=by
  obtain ⟨A,c,h1,h2,h3,h4⟩:=h
  refine ⟨A,c,h1,h2,h3,fun i hi=>?_⟩
  have he:l[i]? = some l[i]:=by simp [hi]
  rcases h4 with ⟨_,rfl⟩|⟨b,o,hA,hb,hr⟩
  · simp at hi
  · exact ⟨l[i],b,o,he,hA,hb,hr i _ he 0 _ rfl,hr i _ he 1 _ rfl,hr i _ he 2 _ rfl,hr i _ he 3 _ rfl,hr i _ he 4 _ rfl,hr i _ he 5 _ rfl⟩
theorem take_snoc {α:Type} {l:List α} {k:Nat} {e:α} (h:l[k]? = some e):l.take (k + 1) = l.take k ++ [e]:=by
  rw [List.take_add_one,h];rfl
theorem mem_of_get {α:Type} {l:List α} {k:Nat} {e:α} (h:l[k]? = some e):e ∈ l:=List.mem_of_getElem? h
abbrev RdE:=Rd Ent.cs 6
abbrev RdI:=Rd (fun n:Int=>[Value.int .i64 n]) 1
end Go.Ws
namespace Go.Ws
open Go Go.RowKit
set_option linter.unusedVariables false
set_option linter.unusedSectionVars false
section
variable {P:Program} {w:World}
theorem run_append2 (t ty e : TypeId) (i : TypeInfo) (z : Value) (size bytes : Nat) (ht : P.underlying t = some (.slice e)) (hi : P.info? e = some i) (hz : i.zero = some z)
    (hsize:i.size = size) (hby:i.bytes = bytes) (hzs:z.cells.size = size) (hsz:0 < size)
    (v:Value) (n:Nat) (xs:List Value) (hown:w.ownsRow 0 e size v n xs)
    (a:Addr) (m c:Nat) (news:List Value) (hl:news.length = m * size) (hnews:∀ j u,news[j]? = some u→w.cell? (a.add j) = some u) (h1:∀ u ∈ news,u.oneCell' = true)
    (h63:n + m≤maxLen) (hbytes:(n + m) * bytes≤140737488355328) :
    ∃ v' w',(Builtin.append_ #[t,t] ty #[v,.slice (some a) m c]).run P w = .ok v' w'∧w'.ownsRow 0 e size v' (n + m) (xs ++ news)∧Mod (fun b=>v.ownBlock = some b) w w' ∧
      (v'.ownBlock = v.ownBlock∨∃ g,v'.ownBlock = some g∧w.heap.size≤g)∧(v' = .slice none 0 0↔v = .slice none 0 0∧m = 0):=by
  subst hsize
  subst hby
  have hsmall:n + m≤9223372036854775807:=by simp only [maxLen] at h63;omega
  have hlen:(xs ++ news).length = (n + m) * i.size:=by rw [List.length_append,hown.1,hl,Nat.add_mul]
  have grown : ∀ (old : Nat), old < n + m → ∀ (row : Option Nat),
      (w.drew.alloc (.cells (xs.toArray ++ news.toArray ++ Builtin.zeroCells z.cells (grownCap w (n + m) old e - (n + m))) e)).ownsRow 0 e i.size
        (.slice (some ⟨w.heap.size,0,none⟩) (n + m) (grownCap w (n + m) old e)) (n + m) (xs ++ news) ∧
      Mod (fun b=>row = some b) w (w.drew.alloc (.cells (xs.toArray ++ news.toArray ++ Builtin.zeroCells z.cells (grownCap w (n + m) old e - (n + m))) e)):=by
    intro old ho row
    have hge:=grownCap_ge w (n + m) old e
    have hcm:grownCap w (n + m) old e≤maxLen:=grownCap_le_maxLen w (n + m) old e h63
    refine ⟨⟨hlen,.inr ⟨w.heap.size,_,_,rfl,Nat.zero_le _,heap_alloc_new w.drew _,hge,hcm,?_,?_⟩⟩,⟨rfl,rfl,rfl,by simp,fun k hk _=>Below.heap_alloc w.drew _ k hk⟩⟩
    · simp only [Array.size_append,List.size_toArray,size_zeroCells,hzs,hown.1,hl,← Nat.add_mul]
      congr 1
      omega
    · simp only [Array.toList_append,List.append_assoc]
      rw [← List.append_assoc,← hlen]
      exact List.take_left
  rcases hown.2 with ⟨rfl,rfl⟩|⟨g,cap,cur,rfl,hbg,hg,hnc,hcm,hcs,htake⟩
  · have hx:xs = []:=List.eq_nil_of_length_eq_zero (by simpa using hown.1)
    subst hx
    by_cases hm:m = 0
    · subst hm
      have hn:news = []:=List.eq_nil_of_length_eq_zero (by simpa using hl)
      subst hn
      refine ⟨.slice none 0 0,w,?_,World.ownsRow_nil w 0 e i.size,Mod.refl _ w,.inl rfl,by simp⟩
      simp [Builtin.append_,run_underlying ht,sizeOf,typeInfo,hi,Builtin.lenOf,Builtin.firstCells,loadCells,loadCellsFrom]
    · have hr:=run_append_nil (P:=P) w t ty e i z ht hi hz a m c news hl hnews (by omega) (by omega) (by have hb:=hbytes;simp only [Nat.zero_add] at hb;omega)
      have hgr:=grown 0 (by omega) (Value.ownBlock (.slice none 0 0))
      simp only [Nat.zero_add,List.nil_append,Array.empty_append] at hgr ⊢
      exact ⟨_,_,hr,hgr.1,hgr.2,.inr ⟨_,rfl,Nat.le_refl _⟩,by simp [hm]⟩
  · by_cases hroom:n + m≤cap
    · have hfit:n * i.size + news.length≤cur.size:=by rw [hl,hcs,← Nat.add_mul];exact Nat.mul_le_mul_right _ hroom
      have hr:=run_append_room (P:=P) w t ty e i ht hi g n cap cur hg a m c news hl hnews h1 hroom hfit
      refine ⟨_,_,hr,⟨hlen,.inr ⟨g,cap,_,rfl,hbg,setRow_heap w g cur _ e _ hg,hroom,hcm,?_,?_⟩⟩,⟨rfl,rfl,rfl,by simp,fun k _ hk=>setRow_other w g k _ (fun e=>hk (by simp [Value.ownBlock,e]))⟩,.inl rfl,by simp⟩
      · simp only [List.size_toArray,List.length_append,List.length_take,List.length_drop,Array.length_toList]
        omega
      · rw [htake,← hlen]
        exact List.take_left
    · have holds:∀ j u,xs[j]? = some u→w.cell? ((⟨g,0,none⟩:Addr).add j) = some u:=hown.cells (g:=g) rfl
      have hr:=run_append_grow (P:=P) w t ty e i z ht hi hz ⟨g,0,none⟩ n cap xs hown.1 holds a m c news hl hnews (by omega) (by omega) (growslice_fits (by omega) hbytes)
      have hgr:=grown cap (by omega) (Value.ownBlock (.slice (some ⟨g,0,none⟩) n cap))
      exact ⟨_,_,hr,hgr.1,hgr.2,.inr ⟨_,rfl,Nat.le_refl _⟩,by simp⟩
theorem Ext.fresh {F:Nat→Prop} {a b c:World} (h:Ext a b) (k:Mod F b c) (hF:∀ i,F i→a.heap.size≤i):Ext a c :=
  Mod.trans h k (fun _ _ h=>h) (fun i hi hf=>by have:=hF i hf;omega)
def Own {α:Type} (enc:α→List Value) (k:Nat) (E:TypeId) (w:World) (v:Value) (xs:List α):Prop:=w.ownsRow 0 E k v xs.length (xs.flatMap enc)
variable {α:Type} {enc:α→List Value} {k:Nat} {E:TypeId} {v:Value} {xs:List α} {w':World}
theorem Own.nil (w:World):Own enc k E w (.slice none 0 0) ([]:List α):=World.ownsRow_nil w 0 E k
theorem Own.lt (h:Own enc k E w v xs):∀ b,v.ownBlock = some b→b < w.heap.size:=fun b hb=>(World.ownsRow.lt h b hb).2
theorem Own.mod {F:Nat→Prop} (h:Own enc k E w v xs) (hM:Mod F w w') (hF:∀ b,v.ownBlock = some b→¬ F b):Own enc k E w' v xs:=by
  refine ⟨h.1,?_⟩
  rcases h.2 with hn|⟨g,cap,cur,rfl,hb,hgg,rest⟩
  · exact .inl hn
  · refine .inr ⟨g,cap,cur,rfl,hb,?_,rest⟩
    rw [hM.block g (Array.getElem?_eq_some_iff.1 hgg).1 (hF g rfl)]
    exact hgg
theorem Own.later (h:Own enc k E w v xs) (hE:Ext w w'):Own enc k E w' v xs:=h.mod hE (fun _ _ h=>h)
theorem flat_get (hk:∀ x,(enc x).length = k):∀ (xs:List α) (i:Nat) (x:α) (j:Nat) (u:Value),xs[i]? = some x→(enc x)[j]? = some u→(xs.flatMap enc)[i * k + j]? = some u
  | [],i,x,j,u,h,_=>by simp at h
  | y :: ys,0,x,j,u,h,hu=>by
    simp at h;subst h
    have hj:j < (enc y).length:=by
      rcases Nat.lt_or_ge j (enc y).length with h|h
      · exact h
      · rw [List.getElem?_eq_none h] at hu;cases hu
    rw [List.flatMap_cons,Nat.zero_mul,Nat.zero_add,List.getElem?_append_left hj];exact hu
  | y :: ys,i + 1,x,j,u,h,hu=>by
    simp only [List.getElem?_cons_succ] at h
    rw [List.flatMap_cons,List.getElem?_append_right (by rw [hk,Nat.add_mul];omega),hk]
    have:=flat_get hk ys i x j u h hu
    rw [← this];congr 1;rw [Nat.add_mul];omega
theorem flat_len (hk:∀ x,(enc x).length = k):∀ (xs:List α),(xs.flatMap enc).length = xs.length * k
  | []=>by simp
  | y :: ys=>by rw [List.flatMap_cons,List.length_append,hk,flat_len hk ys,List.length_cons,Nat.add_mul];omega
theorem Own.rd (hk:∀ x,(enc x).length = k) (h:Own enc k E w v xs):Rd enc k w v xs:=by
  rcases h.2 with ⟨rfl,hn⟩|⟨g,cap,cur,rfl,hb,hgg,hnc,hcm,hcs,ht⟩
  · have:xs = []:=List.eq_nil_of_length_eq_zero hn
    subst this
    exact Rd.nil w
  · refine ⟨_,cap,rfl,hnc,hcm,.inr ⟨g,0,rfl,(Array.getElem?_eq_some_iff.1 hgg).1,fun i x hx j u hu=>?_⟩⟩
    have h1:=World.ownsRow.cells h (g:=g) rfl (i * k + j) u (flat_get hk xs i x j u hx hu)
    have hadd:(⟨g,0,none⟩:Addr).add (i * k + j) = ⟨g,0 + i * k + j,none⟩:=by unfold Addr.add;split <;> simp_all
    rw [← hadd];exact h1
theorem Own.shape (h:Own enc k E w v xs):(v = .slice none 0 0∧xs = [])∨∃ g c,v = .slice (some ⟨g,0,none⟩) xs.length c∧xs.length≤c∧c≤maxLen∧g < w.heap.size:=by
  rcases h.2 with ⟨rfl,hn⟩|⟨g,cap,cur,rfl,hb,hgg,hnc,hcm,hcs,ht⟩
  · exact .inl ⟨rfl,List.eq_nil_of_length_eq_zero hn⟩
  · exact .inr ⟨g,cap,rfl,hnc,hcm,(Array.getElem?_eq_some_iff.1 hgg).1⟩
theorem Own.lit (w : World) (x : Later w) {y : Later w} {b : Nat} (hk : ∀ x, (enc x).length = k) (cs : Array Value) (xs : List α) (hcs : cs.toList = xs.flatMap enc) (hb : (w.later y).heap[b]? = some (.cells cs E)) (hm : xs.length ≤ maxLen) :
    Own enc k E (w.later y) (.slice (some ⟨b,0,none⟩) xs.length xs.length) xs:=by
  refine ⟨flat_len hk xs,.inr ⟨b,xs.length,cs,rfl,Nat.zero_le _,hb,Nat.le_refl _,hm,?_,?_⟩⟩
  · rw [← Array.length_toList,hcs,flat_len hk]
  · rw [hcs,← flat_len hk xs];exact List.take_length
def Src (w:World) (a:Addr) (news:List Value):Prop:=∀ j u,news[j]? = some u→w.cell? (a.add j) = some u
variable {Q:Post} {A:Act} {fl:List (Nat × Value)} {ops:Array Oper} {o:Oper}
theorem Rd.src {w : World} {vs : Value} {ys : List α} (hk : ∀ x, (enc x).length = k) (h : Rd enc k w vs ys) :
    (∃ A c,vs = .slice A 0 c∧ys = [])∨∃ b o c,vs = .slice (some ⟨b,o,none⟩) ys.length c∧Src w ⟨b,o,none⟩ (ys.flatMap enc)∧b < w.heap.size:=by
  obtain ⟨A,c,rfl,h2,h3,h4⟩:=h
  rcases h4 with ⟨-,rfl⟩|⟨b,o,rfl,hb,hr⟩
  · exact .inl ⟨A,c,rfl,rfl⟩
  · refine .inr ⟨b,o,c,rfl,fun j u hu=>?_,hb⟩
    have hadd:(⟨b,o,none⟩:Addr).add j = ⟨b,o + j,none⟩:=by unfold Addr.add;split <;> simp_all
    rw [hadd]
    have key:∀ (ys:List α) (j:Nat) (u:Value),(ys.flatMap enc)[j]? = some u→∃ i x j',ys[i]? = some x∧(enc x)[j']? = some u∧j = i * k + j':=by
      intro ys
      induction ys with
      | nil=>intro j u h;simp at h
      | cons y ys ih =>
        intro j u h
        rw [List.flatMap_cons] at h
        rcases Nat.lt_or_ge j (enc y).length with hj|hj
        · rw [List.getElem?_append_left hj] at h
          exact ⟨0,y,j,rfl,h,by omega⟩
        · rw [List.getElem?_append_right hj] at h
          obtain ⟨i,x,j',h1,h2,h3⟩:=ih _ _ h
          refine ⟨i + 1,x,j',h1,h2,?_⟩
          rw [hk] at h3 hj
          rw [Nat.add_mul];omega
    obtain ⟨i,x,j',h1,h2,rfl⟩:=key ys j u hu
    rw [← Nat.add_assoc]
    exact hr i x h1 j' u h2
theorem Rd.one {w:World} {b:Nat} {cs:Array Value} {x:α} (hb:b < w.heap.size) (h:∀ k,w.cell? ⟨b,k,none⟩ = cs[k]?) (hcs:cs.toList = enc x):Rd enc k w (.slice (some ⟨b,0,none⟩) 1 1) [x]:=by
  refine ⟨_,1,rfl,Nat.le_refl _,by unfold maxLen;omega,.inr ⟨b,0,rfl,hb,fun i y hy j u hu=>?_⟩⟩
  cases i with
  | zero =>
    simp at hy;subst hy
    have h0:0 + 0 * k + j = j:=by omega
    rw [h0,h,← Array.getElem?_toList,hcs];exact hu
  | succ i=>simp at hy
structure Elem (P:Program) (enc:α→List Value) (k:Nat) (t E:TypeId) (bytes:Nat):Prop where
  len:∀ x,(enc x).length = k
  one:∀ x,∀ u ∈ enc x,u.oneCell' = true
  ty:P.underlying t = some (.slice E)
  pos:0 < k
  info:∃ z,(P.info? E).map (fun i=>(i.zero,i.size,i.bytes)) = some (some z,k,bytes)∧z.cells.size = k
theorem run_append3 {t E : TypeId} {bytes : Nat} (he : Elem P enc k t E bytes) (ty : TypeId) {w : World} {v vs : Value} {xs ys : List α} (hown : Own enc k E w v xs) (hs : Rd enc k w vs ys) (hb : (xs.length + ys.length) * bytes ≤ 140737488355328) (hm : xs.length + ys.length ≤ maxLen) :
    ∃ v' w',(Builtin.append_ #[t,t] ty #[v,vs]).run P w = .ok v' w'∧Own enc k E w' v' (xs ++ ys)∧Mod (fun b=>v.ownBlock = some b) w w' ∧
      (v'.ownBlock = v.ownBlock∨∃ g,v'.ownBlock = some g∧w.heap.size≤g)∧(v' = .slice none 0 0↔v = .slice none 0 0∧ys = []):=by
  obtain ⟨z,hi,hz⟩:=he.info
  obtain ⟨i,hi',hz',hs',hb'⟩:=info_parts hi
  rcases hs.src he.len with ⟨A0,c,rfl,rfl⟩|⟨b,o,c,rfl,hsrc,hlt⟩
  · have hl0:xs.length + 0≤maxLen:=hm
    refine ⟨v,w,?_,by simpa using hown,Mod.refl _ _,.inl rfl,by simp⟩
    rcases hown.shape with ⟨rfl,rfl⟩|⟨g,cap,rfl,h1,_,_⟩
    · cases A0 <;> simp [loadCells,loadCellsFrom,Builtin.append_,run_underlying he.ty,sizeOf,typeInfo,hi',Builtin.lenOf,Builtin.firstCells]
    · cases A0 <;> simp [loadCells,loadCellsFrom,storeCells,Builtin.append_,run_underlying he.ty,sizeOf,typeInfo,hi',Builtin.lenOf,Builtin.firstCells,h1]
  · have h1 : ∀ u ∈ ys.flatMap enc, u.oneCell' = true := fun u hu => by
      obtain ⟨x,_,hx⟩:=List.mem_flatMap.1 hu
      exact he.one x u hx
    obtain ⟨v',w',hr,h2,h3,h4,h5⟩:=run_append2 (P:=P) (w:=w) t ty E i z k bytes he.ty hi' hz' hs' hb' hz he.pos v xs.length _ hown ⟨b,o,none⟩ ys.length c _ (flat_len he.len ys) hsrc h1 hm hb
    refine ⟨v',w',hr,?_,h3,h4,?_⟩
    · unfold Own
      rw [List.length_append,List.flatMap_append];exact h2
    · rw [h5]
      constructor
      · rintro ⟨h,h'⟩;exact ⟨h,List.eq_nil_of_length_eq_zero h'⟩
      · rintro ⟨h,h'⟩;exact ⟨h,by rw [h'];rfl⟩
theorem run_append_op {t : TypeId} {s x : Operand} (ho : o.op = .call { callee := .builtin .append, args := #[s, x], argTypes := #[t, t] }) {a : Act} {v vs v' : Value} {w w' : World} (hs : a.eval s = v) (hx : a.eval x = vs)
    (hr:(Builtin.append_ #[t,t] o.type #[v,vs]).run P w = .ok v' w'):(execOp a.eval o).run P w = .ok (.value v') w':=by
  unfold execOp
  simp only [ho,resolve,invoke,builtin,Sem.run_bind,Sem.run_pure,Result.andThen_ok,List.map_toArray,List.map_cons,List.map_nil,hs,hx,hr]
theorem X_append {rest : List (Oper × Nat)} {s x : Operand} {t : TypeId} {d : Nat} {E : TypeId} {bytes : Nat} {v vs : Value} {xs ys : List α}
    (he:Elem P enc k t E bytes) (hown:Own enc k E w v xs) (hsrc:Rd enc k w vs ys) (hbytes:(xs.length + ys.length) * bytes≤140737488355328) (hm:xs.length + ys.length≤maxLen)
    (h:∀ v' W',Mod (fun b=>v.ownBlock = some b) w W'→Own enc k E W' v' (xs ++ ys)→(v'.ownBlock = v.ownBlock∨∃ g,v'.ownBlock = some g∧w.heap.size≤g)→(v' = .slice none 0 0↔v = .slice none 0 0∧ys = [])→wpX P ops Q rest (fr ((d,v') :: fl) A) W')
    (ho:o.op = .call { callee:=.builtin .append,args:=#[s,x],argTypes:=#[t,t] }:=by rfl) (hd:o.dst = some d:=by rfl) (hg:o.guard = none:=by rfl)
    (hs:Is ((fr fl A).eval s) v:=by go_simp;exact Is.mk _) (hx:Is ((fr fl A).eval x) vs:=by go_simp;exact Is.mk _) :
    wpX P ops Q ((o,2) :: rest) (fr fl A) w:=by
  refine X_v (fun X K hK=>?_) hd hg
  obtain ⟨v',W',hr,h2,h3,h4,h5⟩:=run_append3 (P:=P) (w:=w.later X) he o.type (hown.later X.2) (hsrc.later X.2) hbytes hm
  unfold runV
  rw [run_append_op ho hs.eq hx.eq hr]
  refine hK v' W' (h v' W' (Mod.trans X.2 h3 (fun _ _ h=>h.elim) (fun _ _ h=>h)) h2 ?_ h5)
  rcases h4 with h4|⟨g,hg,hle⟩
  · exact .inl h4
  · exact .inr ⟨g,hg,Nat.le_trans X.2.size hle⟩
theorem X_push {rest : List (Oper × Nat)} {s x : Operand} {t : TypeId} {d : Nat} {E : TypeId} {bytes : Nat} {v vs : Value} {xs ys : List α} {w0 : World} (hE0 : Ext w0 w)
    (he:Elem P enc k t E bytes) (hown:Own enc k E w v xs) (hf:∀ b,v.ownBlock = some b→w0.heap.size≤b) (hsrc:Rd enc k w vs ys) (hbytes:(xs.length + ys.length) * bytes≤140737488355328) (hm:xs.length + ys.length≤maxLen)
    (h:∀ (y':Later w0) v',Own enc k E (w0.later y') v' (xs ++ ys)→(∀ b,v'.ownBlock = some b→w0.heap.size≤b)→(v' = .slice none 0 0↔v = .slice none 0 0∧ys = [])→Mod (fun b=>v.ownBlock = some b) w (w0.later y')→wpX P ops Q rest (fr ((d,v') :: fl) A) (w0.later y'))
    (ho:o.op = .call { callee:=.builtin .append,args:=#[s,x],argTypes:=#[t,t] }:=by rfl) (hd:o.dst = some d:=by rfl) (hg:o.guard = none:=by rfl)
    (hs:Is ((fr fl A).eval s) v:=by go_simp;exact Is.mk _) (hx:Is ((fr fl A).eval x) vs:=by go_simp;exact Is.mk _) :
    wpX P ops Q ((o,2) :: rest) (fr fl A) w :=
  X_append he hown hsrc hbytes hm (fun v' W' hM hO hF hN =>
    have hE:Ext w0 W':=Ext.fresh hE0 hM hf
    h ⟨W',hE⟩ v' hO (fun b hb=>by
      rcases hF with h|⟨g,h,hle⟩
      · exact hf b (h▸hb)
      · rw [h] at hb;cases hb;exact Nat.le_trans hE0.size hle) hN hM) ho hd hg hs hx
theorem X_var {rest : List (Oper × Nat)} {o2 : Oper} {d : Nat} {E : TypeId} {x : Operand} {z : Value} {cs : Array Value} {n : Nat}
    (h:∀ (y:Later w) (b:Nat),w.heap.size≤b→b < (w.later y).heap.size→(∀ k,(w.later y).cell? ⟨b,k,none⟩ = cs[k]?)→(∀ k,(w.later y).frozen? ⟨b,k,none⟩ = false) →
      Hid ((w.later y).heap[b]? = some (.cells cs E))→wpX P ops Q rest (fr ((d,.pointer (some ⟨b,0,none⟩)) :: fl) A) (w.later y))
    (ho:o.op = .alloc E:=by rfl) (ho2:o2.op = .store E (.tmp d) x:=by rfl) (hd:o.dst = some d:=by rfl) (hd2:o2.dst = none:=by rfl) (hg:o.guard = none:=by rfl) (hg2:o2.guard = none:=by rfl)
    (hz:∀ w,(zeroValue E).run P w = .ok z w:=by intro w;go_simp;exact rfl) (hn:(P.info? E).map (·.size) = some n:=by kernel_rfl) (hzn:z.cells.size = n:=by rfl)
    (hdA:d < A.tmps.size:=by simp only [hA];decide)
    (hx:∀ b,Is ((fr ((d,.pointer (some ⟨b,0,none⟩)) :: fl) A).eval x) (.agg cs):=by intro b;go_simp;exact Is.mk _) (hcn:cs.size = n:=by rfl) (h1:cs.all (·.oneCell') = true:=by simp [Value.oneCell']) :
    wpX P ops Q ((o,1) :: (o2,2) :: rest) (fr fl A) w:=by
  refine X_s (fun X K hK=>?_) hd hg
  have hrun:(execOp (fr fl A).eval o).run P (w.later X) = .ok (.value (.pointer (some ⟨(w.later X).heap.size,0,none⟩))) ((w.later X).alloc (.cells z.cells E)):=by
    unfold execOp
    simp only [ho,Instr.alloc,Sem.run_bind,hz,Result.andThen_ok,newVar,newRow,newObj,Sem.run,World.alloc_eq,Sem.run_pure]
  unfold runV
  rw [hrun]
  refine hK _ _ (Ext.alloc _ _) ?_
  refine X_w (fun Y K hK=>?_) hd2 hg2
  have hb:((w.later X).alloc (.cells z.cells E)).heap[(w.later X).heap.size]? = some (.cells z.cells E):=heap_alloc_new _ _
  have hlt:(w.later X).heap.size < ((w.later X).alloc (.cells z.cells E)).heap.size:=by simp
  have hb':(((w.later X).alloc (.cells z.cells E)).later Y).heap[(w.later X).heap.size]? = some (.cells z.cells E):=(heap_later _ Y _ hlt).trans hb
  have hst:=run_storeVar_row (P:=P) (((w.later X).alloc (.cells z.cells E)).later Y) (w.later X).heap.size E E z.cells cs hb' (by rw [hn,hcn]) (by rw [hzn,hcn]) h1
  have hev:(fr ((d,.pointer (some ⟨(w.later X).heap.size,0,none⟩)) :: fl) A).eval (.tmp d) = .pointer (some ⟨(w.later X).heap.size,0,none⟩):=by
    rw [fr_eval _ _ _ hdA,lkp_hit]
  have hrun2:(execOp (fr ((d,.pointer (some ⟨(w.later X).heap.size,0,none⟩)) :: fl) A).eval o2).run P (((w.later X).alloc (.cells z.cells E)).later Y) = .ok .skip ((((w.later X).alloc (.cells z.cells E)).later Y).setRow (w.later X).heap.size cs):=by
    unfold execOp
    simp only [ho2,hev,(hx _).eq,Instr.storeAt,Instr.sureAddr,Sem.run_bind,Sem.run_pure,Result.andThen_ok,hst]
  unfold runV
  rw [hrun2]
  refine hK undef _ ?_
  have hE:Ext w ((((w.later X).alloc (.cells z.cells E)).later Y).setRow (w.later X).heap.size cs):=by
    have h0:=X.2.size
    refine ⟨?_,?_,?_,?_,fun k hk _=>?_⟩
    · exact Y.2.os.trans ((Ext.alloc _ _).os.trans X.2.os)
    · exact Y.2.tape.trans ((Ext.alloc _ _).tape.trans X.2.tape)
    · exact Y.2.output.trans ((Ext.alloc _ _).output.trans X.2.output)
    · rw [setRow_size];exact Nat.le_trans h0 (Nat.le_trans (Ext.alloc _ _).size Y.2.size)
    · have h0':w.heap.size≤(w.later X).heap.size:=h0
      rw [setRow_other _ _ _ _ (by omega)]
      have hk1:k < (w.later X).heap.size:=by omega
      exact (heap_later _ Y k (by simp;omega)).trans ((Below.heap_alloc _ _ _ hk1).trans (heap_later _ X k hk))
  have hbn:((((w.later X).alloc (.cells z.cells E)).later Y).setRow (w.later X).heap.size cs).heap[(w.later X).heap.size]? = some (.cells cs E):=setRow_heap _ _ _ _ _ _ hb'
  have hlt2:(w.later X).heap.size < ((((w.later X).alloc (.cells z.cells E)).later Y).setRow (w.later X).heap.size cs).heap.size:=(Array.getElem?_eq_some_iff.1 hbn).1
  have:=h ⟨_,hE⟩ (w.later X).heap.size X.2.size hlt2 (fun k=>cell_of_row _ _ _ _ _ _ hbn) (fun k=>by
    show World.frozen? ((((w.later X).alloc (.cells z.cells E)).later Y).setRow (w.later X).heap.size cs) _ = false
    unfold World.frozen?;simp only [hbn];simp) hbn
  exact this
end
end Go.Ws
namespace Go.Ws
open Go Go.RowKit
set_option linter.unusedVariables false
set_option linter.unusedSimpArgs false
section
variable {ρ:Option Nat} {P:Program} {ops:Array Oper} {Q:Post}
def closedB (ops:Array Oper) (listed:Array Bool):Bool :=
  (List.range ops.size).all fun j=>!listed.getD j false || match ops[j]? with|some o=>o.after.all fun e=>!Region.binds .any e || listed.getD e.on false|none=>true
theorem closed_of {listed:Array Bool} (h:closedB ops listed = true):Closed .any ops listed:=by
  intro j oj hj hl e he hb
  have hlt:j < ops.size:=(Array.getElem?_eq_some_iff.1 hj).1
  have h1:=List.all_eq_true.1 h j (List.mem_range.2 hlt)
  simp only [hl,Bool.not_true,Bool.false_or,hj,Array.all_eq_true_iff_forall_mem] at h1
  have:=h1 e he
  simpa [hb] using this
def firstB (ops:Array Oper) (hs:List Nat) (listed:Array Bool) (i:Nat):Bool :=
  Region.noSelect ops && !hs.contains i && (Region.ready .any ops listed).contains i && Region.free .any ops listed i && closedB ops listed &&
    ((hs.all fun j=>((Region.before ops).getD j 0).testBit i || ((Region.before ops).getD i 0).testBit j) || (match ops[i]? with|some o=>Oper.mover o|none=>false))
abbrev wpF (P:Program) (ops:Array Oper) (hs:List Nat) (Q:Post) (f:Nat) (listed:Array Bool) (a:Act) (w:World):Prop:=wpS P .any ops (fun j=>hs.contains j) (UpQ Q) f listed a w
variable {hs:List Nat} {f:Nat} {listed:Array Bool} {a:Act} {w:World} {A:Act} {fl:List (Nat × Value)}
theorem F_first {i:Nat} {o:Oper} {v:Value} (hi:ops[i]? = some o) (hB:firstB ops hs listed i = true) (hy:YieldsQ P ops o v a w) (h:wpF P ops hs Q f (listed.setIfInBounds i true) (a.put o.dst v) w):wpF P ops hs Q (f + 1) listed a w:=by
  simp only [firstB,Bool.and_eq_true,Bool.not_eq_true'] at hB
  obtain ⟨⟨⟨⟨⟨hsel,hih⟩,hr⟩,hf⟩,hc⟩,hre⟩:=hB
  refine wpS_first hi (Region.noSelect_spec hsel) hih ?_ f listed a w (closed_of hc) (Region.free_spec hi hf) (by simpa using hr) hy h
  rw [Bool.or_eq_true] at hre
  rcases hre with hre|hmv
  · left
    intro j hj
    have h1:=List.all_eq_true.1 hre j (by simpa using hj)
    simp only [Bool.or_eq_true] at h1
    exact h1.imp (before_reach ops i j) (before_reach ops j i)
  · right
    simpa only [hi] using hmv
theorem F_nil (hr:Region.ready .any ops listed = []:=by kernel_rfl) (h:Q .normal a w):wpF P ops hs Q 0 listed a w:=⟨hr,fun x=>⟨w,x.2,h⟩⟩
theorem F_q {i : Nat} {o : Oper} {v : Value} {d : Nat} (h : wpF P ops hs Q f (listed.setIfInBounds i true) (fr ((d, v) :: fl) A) w) (hi : ops[i]? = some o := by rfl) (hB : firstB ops hs listed i = true := by kernel_rfl)
    (hd:o.dst = some d:=by rfl) (hg:o.guard = none:=by rfl) (hv:∀ x:Later w,o.quietAt P (fr fl A) (Ext (w.later x)) (w.later x) v:=by intro x;go_simp;(try go_bits);exact rfl):wpF P ops hs Q (f + 1) listed (fr fl A) w :=
  F_first hi hB (.inl ⟨by simp [Region.wanted,hg],hv⟩) (by rw [hd,fr_put];exact h)
theorem wpF.later {w':World} (h:wpF P ops hs Q f listed a w) (hE:Ext w w'):wpF P ops hs Q f listed a w':=wpS.later h hE
theorem F_s {i : Nat} {o : Oper} {d : Nat} (h : ∀ (x : Later w) (K : Value → World → Prop), (∀ v w' w0, Ext (w.later x) w' → Ext w0 w' → wpF P ops hs Q f (listed.setIfInBounds i true) (fr ((d, v) :: fl) A) w0 → K v w') → runV P o (fr fl A) (w.later x) K)
    (hi:ops[i]? = some o:=by rfl) (hr:Region.ready .any ops listed = [i]:=by kernel_rfl) (hh:hs.contains i = false:=by rfl) (hd:o.dst = some d:=by rfl) (hg:o.guard = none:=by rfl):wpF P ops hs Q (f + 1) listed (fr fl A) w:=by
  intro x
  refine ⟨fun h0=>(by rw [hr] at h0;cases h0),fun j hj=>?_⟩
  rw [hr] at hj
  obtain rfl:j = i:=by simpa using hj
  simp only [hh,Bool.false_eq_true,if_false]
  unfold softOp
  simp only [hi]
  rw [if_pos (by simp [Region.wanted,hg])]
  refine wp_of_runV (h x (fun v w'=>Ext (w.later x) w'∧wpF P ops hs Q f (listed.setIfInBounds j true) (fr ((d,v) :: fl) A) w') fun v w' w0 hE hE0 h=>⟨hE,wpF.later h hE0⟩) fun v w' hk=>⟨hk.1,?_⟩
  rw [hd,fr_put];exact hk.2
theorem F_h {i : Nat} {o : Oper} {d : Nat} (h : ∀ (x : Later w) (K : Value → World → Prop), (∀ v w', wpF P ops hs Q f (listed.setIfInBounds i true) (fr ((d, v) :: fl) A) w' → K v w') → runV P o (fr fl A) (w.later x) K)
    (hi:ops[i]? = some o:=by rfl) (hr:Region.ready .any ops listed = [i]:=by kernel_rfl) (hh:hs.contains i = true:=by rfl) (hd:o.dst = some d:=by rfl) (hg:o.guard = none:=by rfl):wpF P ops hs Q (f + 1) listed (fr fl A) w:=by
  intro x
  refine ⟨fun h0=>(by rw [hr] at h0;cases h0),fun j hj=>?_⟩
  rw [hr] at hj
  obtain rfl:j = i:=by simpa using hj
  simp only [hh,if_true]
  unfold softOp
  simp only [hi]
  rw [if_pos (by simp [Region.wanted,hg])]
  refine (wp_of_runV (h x (fun v w'=>wpF P ops hs Q f (listed.setIfInBounds j true) (fr ((d,v) :: fl) A) w') fun v w' h=>h) fun v w' hk=>?_)
  rw [hd,fr_put];exact hk
theorem F_two {i j : Nat} {o o' : Oper} {d d' : Nat}
    (h:∀ (x:Later w) (K:Value→World→Prop),(∀ v w' w0,Ext (w.later x) w'→Ext w0 w'→wpF P ops hs Q f (listed.setIfInBounds i true) (fr ((d,v) :: fl) A) w0→K v w')→runV P o (fr fl A) (w.later x) K)
    (h':∀ (x:Later w) (K:Value→World→Prop),(∀ v w' w0,Ext (w.later x) w'→Ext w0 w'→wpF P ops hs Q f (listed.setIfInBounds j true) (fr ((d',v) :: fl) A) w0→K v w')→runV P o' (fr fl A) (w.later x) K)
    (hr:Region.ready .any ops listed = [i,j]:=by kernel_rfl) (hi:ops[i]? = some o:=by rfl) (hj:ops[j]? = some o':=by rfl) (hh:hs.contains i = false:=by rfl) (hh':hs.contains j = false:=by rfl)
    (hd:o.dst = some d:=by rfl) (hd':o'.dst = some d':=by rfl) (hg:o.guard = none:=by rfl) (hg':o'.guard = none:=by rfl):wpF P ops hs Q (f + 1) listed (fr fl A) w:=by
  intro x
  refine ⟨fun h0=>(by rw [hr] at h0;cases h0),fun k hk=>?_⟩
  rw [hr] at hk
  rcases (by simpa using hk:k = i∨k = j) with rfl|rfl
  · simp only [hh,Bool.false_eq_true,if_false]
    unfold softOp
    simp only [hi]
    rw [if_pos (by simp [Region.wanted,hg])]
    refine wp_of_runV (h x (fun v w'=>Ext (w.later x) w'∧wpF P ops hs Q f (listed.setIfInBounds k true) (fr ((d,v) :: fl) A) w') fun v w' w0 hE hE0 h=>⟨hE,wpF.later h hE0⟩) fun v w' hk=>⟨hk.1,?_⟩
    rw [hd,fr_put];exact hk.2
  · simp only [hh',Bool.false_eq_true,if_false]
    unfold softOp
    simp only [hj]
    rw [if_pos (by simp [Region.wanted,hg'])]
    refine wp_of_runV (h' x (fun v w'=>Ext (w.later x) w'∧wpF P ops hs Q f (listed.setIfInBounds k true) (fr ((d',v) :: fl) A) w') fun v w' w0 hE hE0 h=>⟨hE,wpF.later h hE0⟩) fun v w' hk=>⟨hk.1,?_⟩
    rw [hd',fr_put];exact hk.2
def stepF (P:Program) (ops:Array Oper) (hs:List Nat) (Q:Post) (f:Nat) (listed:Array Bool) (a:Act) (w:World) (i:Nat):Prop :=
  ∀ x:Later w,softOp P ops i (fun a' w'=>(hs.contains i = false→Ext (w.later x) w')∧wpF P ops hs Q f (listed.setIfInBounds i true) a' w') a (w.later x)
theorem F_alts {i:Nat} {rs:List Nat} (h:∀ j ∈ i :: rs,stepF P ops hs Q f listed a w j) (hr:Region.ready .any ops listed = i :: rs:=by kernel_rfl):wpF P ops hs Q (f + 1) listed a w:=by
  intro x
  refine ⟨fun h0=>(by rw [hr] at h0;cases h0),fun j hj=>?_⟩
  rw [hr] at hj
  have hs':=h j hj x
  split
  · exact softOp_mono (fun _ _ h=>h.2) hs'
  · rename_i hc
    exact softOp_mono (fun _ _ h=>⟨h.1 (by simpa using hc),h.2⟩) hs'
theorem S_cons {p:Nat→Prop} {i:Nat} {rs:List Nat} (h:p i) (hr:∀ j ∈ rs,p j):∀ j ∈ i :: rs,p j:=by
  intro j hj
  rcases List.mem_cons.1 hj with rfl|hj
  · exact h
  · exact hr j hj
theorem S_end {p:Nat→Prop}:∀ j ∈ ([]:List Nat),p j:=by intro j hj;cases hj
theorem S_q {i : Nat} {o : Oper} {v : Value} {d : Nat} (h : wpF P ops hs Q f (listed.setIfInBounds i true) (fr ((d, v) :: fl) A) w) (hi : ops[i]? = some o := by rfl)
    (hd:o.dst = some d:=by rfl) (hg:o.guard = none:=by rfl) (hv:∀ x:Later w,o.quietAt P (fr fl A) (Ext (w.later x)) (w.later x) v:=by intro x;go_simp;(try go_bits);exact rfl):stepF P ops hs Q f listed (fr fl A) w i:=by
  intro x
  unfold softOp
  simp only [hi]
  have hy:YieldsQ P ops o v (fr fl A) w:=.inl ⟨by simp [Region.wanted,hg],hv⟩
  have:=hy.wp (K:=fun a' w'=>Ext (w.later x) w'∧wpF P ops hs Q f (listed.setIfInBounds i true) a' w') (Q':=fun _ _ _=>False) x
  have hw:Region.wanted o (yielded ops (fr fl A).tmps) = true:=by simp [Region.wanted,hg]
  rw [if_pos hw]
  have hv':=hv x
  unfold Oper.quietAt at hv'
  unfold OpW
  generalize (execOp (fr fl A).eval o).run P (w.later x) = r at *
  have k:∀ w',Ext (w.later x) w'→(hs.contains i = false→Ext (w.later x) w')∧wpF P ops hs Q f (listed.setIfInBounds i true) ((fr fl A).put o.dst v) w':=fun w' hE=>⟨fun _=>hE,by rw [hd,fr_put];exact h.later (Ext.trans x.2 hE)⟩
  cases r with
  | ok n w' =>
    cases n <;> simp only [Oper.quietUpon] at hv' <;> simp only [uponW]
    case value u=>obtain ⟨e1,e2⟩:=hv';rw [e1,e2];exact k _ (Ext.refl _)
    case skip=>obtain ⟨e1,e2⟩:=hv';rw [e1,← e2];exact k _ (Ext.refl _)
    case enter g args =>
      obtain ⟨e1,hc⟩:=hv'
      rw [e1]
      exact hc.mono fun e w'' ⟨he,hw''⟩=>by subst he;exact k _ hw''
  | halt z w'=>simp only [Oper.quietUpon] at hv'
theorem S_s {i : Nat} {o : Oper} {d : Nat} (h : ∀ (x : Later w) (K : Value → World → Prop), (∀ v w' w0, Ext (w.later x) w' → Ext w0 w' → wpF P ops hs Q f (listed.setIfInBounds i true) (fr ((d, v) :: fl) A) w0 → K v w') → runV P o (fr fl A) (w.later x) K)
    (hi:ops[i]? = some o:=by rfl) (hd:o.dst = some d:=by rfl) (hg:o.guard = none:=by rfl):stepF P ops hs Q f listed (fr fl A) w i:=by
  intro x
  unfold softOp
  simp only [hi]
  rw [if_pos (by simp [Region.wanted,hg])]
  refine wp_of_runV (h x (fun v w'=>Ext (w.later x) w'∧wpF P ops hs Q f (listed.setIfInBounds i true) (fr ((d,v) :: fl) A) w') fun v w' w0 hE hE0 h=>⟨hE,wpF.later h hE0⟩) fun v w' hk=>⟨fun _=>hk.1,?_⟩
  rw [hd,fr_put];exact hk.2
theorem S_w {i : Nat} {o : Oper} (h : ∀ (x : Later w) (K : Value → World → Prop), (∀ v w', wpF P ops hs Q f (listed.setIfInBounds i true) (fr fl A) w' → K v w') → runV P o (fr fl A) (w.later x) K)
    (hi:ops[i]? = some o:=by rfl) (hh:hs.contains i = true:=by rfl) (hd:o.dst = none:=by rfl) (hg:o.guard = none:=by rfl):stepF P ops hs Q f listed (fr fl A) w i:=by
  intro x
  unfold softOp
  simp only [hi]
  rw [if_pos (by simp [Region.wanted,hg])]
  refine wp_of_runV (h x (fun v w'=>wpF P ops hs Q f (listed.setIfInBounds i true) (fr fl A) w') fun v w' h=>h) fun v w' hk=>⟨fun h0=>absurd h0 (by rw [hh];decide),?_⟩
  rw [hd];exact hk
theorem W_fork {rid:Nat} {l:List Oper} (hs:List Nat) (hm:P.follows .mixedOrders = true) (h:wpF P l.toArray hs Q l.length (Array.replicate l.length false) a w) (hnd:calmIn ρ l:=by first|exact .inl rfl|exact .inr (by kernel_rfl)):Wp ρ P (.region rid l.toArray true) Q a w:=Wp.intro fun x=>by
  refine wpIn_region_any hm ?_
  have:=wpAny_of_wpS (n:=0) hnd.get _ _ _ _ (wpF.later h (Ext.trans x.2 (Ext.drew _)))
  rw [List.size_toArray]
  exact this
theorem F_al (x : Later w) {cs : Array Value} {e : TypeId} (h : ∀ y : Later w, w.heap.size ≤ (w.later x).heap.size → (w.later x).heap.size < (w.later y).heap.size →
    (∀ k,(w.later y).cell? ⟨(w.later x).heap.size,k,none⟩ = cs[k]?)→(∀ k,(w.later y).frozen? ⟨(w.later x).heap.size,k,none⟩ = false)→Hid ((w.later y).heap[(w.later x).heap.size]? = some (.cells cs e))→wpF P ops hs Q f listed a (w.later y)) :
    wpF P ops hs Q f listed a ((w.later x).alloc (.cells cs e)) :=
  h ⟨_,Ext.trans x.2 (Ext.alloc _ _)⟩ (size_later _ _) (by show _ < ((w.later x).alloc _).heap.size;simp) (fun k=>World.cell?_alloc_new _ _ _ _) (fun k=>World.frozen?_alloc_new _ _ _ _) (heap_alloc_new _ _)
variable {α:Type} {enc:α→List Value} {k:Nat}
theorem run_append_empty {t E : TypeId} {bytes : Nat} (he : Elem P enc k t E bytes) (ty : TypeId) {b : Nat} {vs : Value} {ys : List α} (hb : w.heap[b]? = some (.cells #[] E)) (hs : Rd enc k w vs ys) (hbytes : ys.length * bytes ≤ 140737488355328) (hm : ys.length ≤ maxLen) :
    ∃ v' w',(Builtin.append_ #[t,t] ty #[.slice (some ⟨b,0,none⟩) 0 0,vs]).run P w = .ok v' w'∧Own enc k E w' v' ys∧Ext w w'∧(∀ g,v'.ownBlock = some g→g = b∨w.heap.size≤g):=by
  obtain ⟨z,hi,hz⟩:=he.info
  obtain ⟨i,hi',hz',hs',hb'⟩:=info_parts hi
  have hown:Own enc k E w (.slice (some ⟨b,0,none⟩) 0 0) ([]:List α):=⟨by simp,.inr ⟨b,0,#[],rfl,Nat.zero_le _,hb,Nat.le_refl _,Nat.zero_le _,by simp,by simp⟩⟩
  rcases hs.src he.len with ⟨A0,c,rfl,rfl⟩|⟨b1,o1,c,rfl,hsrc,hlt⟩
  · refine ⟨_,w,?_,hown,Ext.refl _,fun g h=>by cases h;exact .inl rfl⟩
    cases A0 <;> simp [loadCells,loadCellsFrom,Builtin.append_,run_underlying he.ty,sizeOf,typeInfo,hi',Builtin.lenOf,Builtin.firstCells,storeCells]
  · by_cases hy:ys.length = 0
    · have:ys = []:=List.eq_nil_of_length_eq_zero hy
      subst this
      refine ⟨_,w,?_,hown,Ext.refl _,fun g h=>by cases h;exact .inl rfl⟩
      have hr:=run_append_room (P:=P) w t ty E i he.ty hi' b 0 0 #[] hb ⟨b1,o1,none⟩ 0 c [] (by simp) (by simp) (by simp) (by simp) (by simp)
      simp only [Nat.add_zero,Nat.zero_mul,List.take_zero,List.nil_append,List.length_nil,List.drop_zero] at hr
      rw [List.length_nil,hr]
      congr 1
      exact setRow_self w b #[] E (0,0) hb
    · have hr := run_append_grow (P := P) w t ty E i z he.ty hi' hz' ⟨b, 0, none⟩ 0 0 [] (by simp) (by simp) ⟨b1, o1, none⟩ ys.length c (ys.flatMap enc) (by rw [flat_len he.len, hs']) hsrc (by omega) (by simp only [maxLen] at hm; omega) (by
        rw [hb',Nat.zero_add];exact growslice_fits (by omega) (by simpa using hbytes))
      simp only [Nat.zero_add,Array.empty_append,List.size_toArray] at hr
      refine ⟨_,_,hr,?_,(Ext.trans (Ext.drew w) (Ext.alloc _ _)),fun g h=>by cases h;exact .inr (Nat.le_refl _)⟩
      have hge:=grownCap_ge w ys.length 0 E
      have hcm:grownCap w ys.length 0 E≤maxLen:=grownCap_le_maxLen w ys.length 0 E hm
      refine ⟨flat_len he.len ys,.inr ⟨w.heap.size,_,_,rfl,Nat.zero_le _,heap_alloc_new w.drew _,hge,hcm,?_,?_⟩⟩
      · simp only [Array.size_append,List.size_toArray,size_zeroCells,hz,flat_len he.len,List.length_nil,Nat.zero_mul,Nat.zero_add,Nat.sub_zero,← Nat.add_mul]
        congr 1;omega
      · simp only [Array.toList_append,List.nil_append]
        rw [← flat_len he.len ys]
        exact List.take_left
theorem F_copy {o : Oper} {t E : TypeId} {bytes b : Nat} {vs : Value} {ys : List α} {s x : Operand} (he : Elem P enc k t E bytes) (hb : w.heap[b]? = some (.cells #[] E)) (hr : Rd enc k w vs ys) (hbytes : ys.length * bytes ≤ 140737488355328) (hm : ys.length ≤ maxLen)
    (X:Later w) (K:Value→World→Prop) (hK:∀ (y:Later w) v',Ext (w.later X) (w.later y)→Own enc k E (w.later y) v' ys→(∀ g,v'.ownBlock = some g→g = b∨w.heap.size≤g)→K v' (w.later y))
    (ho:o.op = .call { callee:=.builtin .append,args:=#[s,x],argTypes:=#[t,t] }:=by rfl)
    (hs:Is ((fr fl A).eval s) (.slice (some ⟨b,0,none⟩) 0 0):=by go_simp;exact Is.mk _) (hx:Is ((fr fl A).eval x) vs:=by go_simp;exact Is.mk _):runV P o (fr fl A) (w.later X) K:=by
  have hlt:b < w.heap.size:=(Array.getElem?_eq_some_iff.1 hb).1
  obtain ⟨v',w',h1,h2,h3,h4⟩:=run_append_empty (P:=P) (w:=w.later X) he o.type ((heap_later w X b hlt).trans hb) (hr.later X.2) hbytes hm
  unfold runV
  rw [run_append_op ho hs.eq hx.eq h1]
  exact hK ⟨w',Ext.trans X.2 h3⟩ v' h3 h2 fun g hg=>(h4 g hg).imp id (fun h=>Nat.le_trans X.2.size h)
theorem F_push {i : Nat} {o : Oper} {s x : Operand} {t : TypeId} {d : Nat} {E : TypeId} {bytes : Nat} {v vs : Value} {xs ys : List α} {w0 : World} (hE0 : Ext w0 w)
    (he:Elem P enc k t E bytes) (hown:Own enc k E w v xs) (hf:∀ b,v.ownBlock = some b→w0.heap.size≤b) (hsrc:Rd enc k w vs ys) (hbytes:(xs.length + ys.length) * bytes≤140737488355328) (hm:xs.length + ys.length≤maxLen)
    (h:∀ (y':Later w0) v',Own enc k E (w0.later y') v' (xs ++ ys)→(∀ b,v'.ownBlock = some b→w0.heap.size≤b)→wpF P ops hs Q f (listed.setIfInBounds i true) (fr ((d,v') :: fl) A) (w0.later y'))
    (hi:ops[i]? = some o:=by rfl) (hr:Region.ready .any ops listed = [i]:=by kernel_rfl) (hh:hs.contains i = true:=by rfl)
    (ho:o.op = .call { callee:=.builtin .append,args:=#[s,x],argTypes:=#[t,t] }:=by rfl) (hd:o.dst = some d:=by rfl) (hg:o.guard = none:=by rfl)
    (hs':Is ((fr fl A).eval s) v:=by go_simp;exact Is.mk _) (hx:Is ((fr fl A).eval x) vs:=by go_simp;exact Is.mk _) :
    wpF P ops hs Q (f + 1) listed (fr fl A) w:=by
  refine F_h (fun X K hK=>?_) hi hr hh hd hg
  obtain ⟨v',W',hr,h2,h3,h4,h5⟩:=run_append3 (P:=P) (w:=w.later X) he o.type (hown.later X.2) (hsrc.later X.2) hbytes hm
  unfold runV
  rw [run_append_op ho hs'.eq hx.eq hr]
  have hM:Mod (fun b=>v.ownBlock = some b) w W':=Mod.trans X.2 h3 (fun _ _ h=>h.elim) (fun _ _ h=>h)
  refine hK v' W' (h ⟨W',Ext.fresh hE0 hM hf⟩ v' h2 fun b hb=>?_)
  rcases h4 with h4|⟨g,hg,hle⟩
  · exact hf b (h4▸hb)
  · rw [hg] at hb;cases hb
    exact Nat.le_trans hE0.size (Nat.le_trans X.2.size hle)
end
end Go.Ws
namespace Go.Ws
open Go Go.RowKit Go.Proofs
set_option linter.unusedVariables false
structure Opn where
  num:Int
  first:Int
  deriving DecidableEq,Inhabited
def Opn.cs (o:Opn):List Value:=[.int .i64 o.num,.int .i64 o.first]
theorem Opn.len (o:Opn):o.cs.length = 2:=rfl
theorem Ent.len (o:Ent):o.cs.length = 6:=rfl
theorem Rd.opn {w : World} {v : Value} {l : List Opn} (h : Rd Opn.cs 2 w v l) : ∃ A c, v = .slice A l.length c ∧ l.length ≤ c ∧ c ≤ 9223372036854775807 ∧
    Hid (∀ i,i < l.length→∃ e b o,Hid (l[i]? = some e)∧A = some ⟨b,o,none⟩∧b < w.heap.size∧w.cell? ⟨b,o + i * 2,none⟩ = some (.int .i64 e.num)∧w.cell? ⟨b,o + i * 2 + 1,none⟩ = some (.int .i64 e.first)):=by
  obtain ⟨A,c,h1,h2,h3,h4⟩:=h
  refine ⟨A,c,h1,h2,h3,fun i hi=>?_⟩
  have he:l[i]? = some l[i]:=by simp [hi]
  rcases h4 with ⟨_,rfl⟩|⟨b,o,hA,hb,hr⟩
  · simp at hi
  · exact ⟨l[i],b,o,he,hA,hb,hr i _ he 0 _ rfl,hr i _ he 1 _ rfl⟩
abbrev ics (n:Int):List Value:=[.int .i64 n]
theorem Rd.int {w : World} {v : Value} {l : List Int} (h : Rd ics 1 w v l) : ∃ A c, v = .slice A l.length c ∧ l.length ≤ c ∧ c ≤ 9223372036854775807 ∧
    Hid (∀ i,i < l.length→∃ e b o,Hid (l[i]? = some e)∧A = some ⟨b,o,none⟩∧b < w.heap.size∧w.cell? ⟨b,o + i,none⟩ = some (.int .i64 e)):=by
  obtain ⟨A,c,h1,h2,h3,h4⟩:=h
  refine ⟨A,c,h1,h2,h3,fun i hi=>?_⟩
  have he:l[i]? = some l[i]:=by simp [hi]
  rcases h4 with ⟨_,rfl⟩|⟨b,o,hA,hb,hr⟩
  · simp at hi
  · have:=hr i _ he 0 _ rfl
    exact ⟨l[i],b,o,he,hA,hb,by simpa using this⟩
theorem infoOpn:(Tryz.prog.info? 199).map (fun i=>(i.zero,i.size,i.bytes)) = some (some (.agg #[.int .i64 0,.int .i64 0]),2,16):=by kernel_rfl
theorem infoEnt:(Tryz.prog.info? 45).map (fun i=>(i.zero,i.size,i.bytes)) = some (some (.agg #[.int .i64 0,.int .i64 0,.int .i64 0,.int .i64 0,.int .i64 0,.int .i64 0]),6,48):=by kernel_rfl
theorem infoInt:(Tryz.prog.info? 3).map (fun i=>(i.zero,i.size,i.bytes)) = some (some (.int .i64 0),1,8):=by kernel_rfl
theorem elemOpn:Elem Tryz.prog Opn.cs 2 175 199 16:=⟨Opn.len,fun x u h=>by simp [Opn.cs] at h;rcases h with rfl|rfl <;> rfl,Tryz.underlying175,by decide,_,infoOpn,rfl⟩
theorem elemEnt:Elem Tryz.prog Ent.cs 6 29 45 48:=⟨Ent.len,fun x u h=>by simp [Ent.cs] at h;rcases h with rfl|rfl|rfl|rfl|rfl|rfl <;> rfl,Tryz.underlying29,by decide,_,infoEnt,rfl⟩
theorem elemInt:Elem Tryz.prog ics 1 30 3 8:=⟨fun _=>rfl,fun x u h=>by simp [ics] at h;subst h;rfl,Tryz.underlying30,by decide,_,infoInt,rfl⟩
theorem eqGuardEnt (ox oy:Operand) (a b:Array Value) (w:World):(eqGuard .neq 45 ox oy (.agg a) (.agg b)).run Tryz.prog w = .ok () w:=by
  have hg:Tryz.prog.eqGuardType Tryz.prog.depth 45 = false:=by kernel_rfl
  simp [eqGuard,program,Sem.run,hg]
set_option maxHeartbeats 1000000 in
theorem equalEnt (x y:Ent) (w:World):(Op.equal 45 x.v y.v).run Tryz.prog w = .ok (decide (x = y)) w:=by
  have hst:Tryz.prog.stoodInHeld 45 = false:=by kernel_rfl
  have key : ∀ (t : TypeId), Tryz.prog.underlying t = some (.int .i64) → ∀ (a b : Int) (cs ds : Array Value) (i : Nat) (w : World), cs[i]? = some (.int .i64 a) → ds[i]? = some (.int .i64 b) →
      (part t cs i).run Tryz.prog w = .ok (.int .i64 a) w∧(part t ds i).run Tryz.prog w = .ok (.int .i64 b) w∧(Op.equalIn 9999 t (.int .i64 a) (.int .i64 b)).run Tryz.prog w = .ok (a == b) w :=
    fun t ht a b cs ds i w h1 h2=>⟨part_int ht cs i _ w h1,part_int ht ds i _ w h2,equalIn_int ht 9998 a b w⟩
  obtain ⟨a0,a1,a2,a3,a4,a5⟩:=x
  obtain ⟨b0,b1,b2,b3,b4,b5⟩:=y
  have k0:=key 2 Tryz.underlying2 a0 b0 #[.int .i64 a0,.int .i64 a1,.int .i64 a2,.int .i64 a3,.int .i64 a4,.int .i64 a5] #[.int .i64 b0,.int .i64 b1,.int .i64 b2,.int .i64 b3,.int .i64 b4,.int .i64 b5] 0 w rfl rfl
  have k1:=key 3 Tryz.underlying3 a1 b1 #[.int .i64 a0,.int .i64 a1,.int .i64 a2,.int .i64 a3,.int .i64 a4,.int .i64 a5] #[.int .i64 b0,.int .i64 b1,.int .i64 b2,.int .i64 b3,.int .i64 b4,.int .i64 b5] 1 w rfl rfl
  have k2:=key 2 Tryz.underlying2 a2 b2 #[.int .i64 a0,.int .i64 a1,.int .i64 a2,.int .i64 a3,.int .i64 a4,.int .i64 a5] #[.int .i64 b0,.int .i64 b1,.int .i64 b2,.int .i64 b3,.int .i64 b4,.int .i64 b5] 2 w rfl rfl
  have k3:=key 2 Tryz.underlying2 a3 b3 #[.int .i64 a0,.int .i64 a1,.int .i64 a2,.int .i64 a3,.int .i64 a4,.int .i64 a5] #[.int .i64 b0,.int .i64 b1,.int .i64 b2,.int .i64 b3,.int .i64 b4,.int .i64 b5] 3 w rfl rfl
  have k4:=key 43 Tryz.underlying43 a4 b4 #[.int .i64 a0,.int .i64 a1,.int .i64 a2,.int .i64 a3,.int .i64 a4,.int .i64 a5] #[.int .i64 b0,.int .i64 b1,.int .i64 b2,.int .i64 b3,.int .i64 b4,.int .i64 b5] 4 w rfl rfl
  have k5:=key 2 Tryz.underlying2 a5 b5 #[.int .i64 a0,.int .i64 a1,.int .i64 a2,.int .i64 a3,.int .i64 a4,.int .i64 a5] #[.int .i64 b0,.int .i64 b1,.int .i64 b2,.int .i64 b3,.int .i64 b4,.int .i64 b5] 5 w rfl rfl
  unfold Op.equal Op.maxDepth
  rw [show (10000:Nat) = 9999 + 1 from rfl,Op.equalIn]
  simp only [Sem.run_bind,run_underlying Tryz.underlying45,Result.andThen_ok,program,Sem.run,hst]
  by_cases h0:a0 = b0
  rotate_left;· simp [k0,h0]
  subst h0
  by_cases h1:a1 = b1
  rotate_left;· simp [k0,k1,h1]
  subst h1
  by_cases h2:a2 = b2
  rotate_left;· simp [k0,k1,k2,h2]
  subst h2
  by_cases h3:a3 = b3
  rotate_left;· simp [k0,k1,k2,k3,h3]
  subst h3
  by_cases h4:a4 = b4
  rotate_left;· simp [k0,k1,k2,k3,k4,h4]
  subst h4
  by_cases h5:a5 = b5
  rotate_left;· simp [k0,k1,k2,k3,k4,k5,h5]
  subst h5
  simp [k0,k1,k2,k3,k4,k5]
theorem neqEnt (x y:Ent) (w:World):(binOp .neq 45 x.v y.v).run Tryz.prog w = .ok (.bool (decide (x ≠ y))) w:=by
  have h:=equalEnt x y w
  have e:binOp .neq 45 x.v y.v = (do pure (.bool (!(← Op.equal 45 x.v y.v)))):=rfl
  rw [e]
  simp only [Sem.run_bind,h,Result.andThen_ok,Sem.run_pure]
  rw [← decide_not]
abbrev OwnE:=Own Ent.cs 6 45
abbrev OwnI:=Own ics 1 3
end Go.Ws
namespace Go.Ws
open Go Go.RowKit Go.Proofs Go.ChangeShapes Go.WideShapes
set_option linter.unusedVariables false
set_option maxRecDepth 100000
section
variable {H:Type} {enc:TypeId × Value→H} {W:World} {base:Nat} {sp:Nat→Bool} {held:Bool} {v:Value} {d:DataW H} {ps:List MemPlace}
theorem slice_home {P:Program} {t e:TypeId} {a:Addr} {n c:Nat} (ht:P.underlying t = some (.slice e)) (h:Value.okWide P W .any base t (.slice (some a) n c)):a.spot = none∧a.block < W.heap.size:=by
  unfold Value.okWide at h
  rw [ht] at h
  simp only [Cell.okWide,ht,Cell.ok] at h
  obtain ⟨_,_,_,hs,row,cells,hsh,_⟩:=h
  refine ⟨hs,?_⟩
  unfold World.shape? at hsh
  rcases Nat.lt_or_ge a.block W.heap.size with h1|h1
  · exact h1
  · rw [Array.getElem?_eq_none h1] at hsh;cases hsh
theorem open_rd {α : Type} {en : α → List Value} {k : Nat} {P : Program} {t e : TypeId} (ht : P.underlying t = some (.slice e)) (hk : P.cellsOf e = k) (hpos : 0 < k) (hlen : ∀ x, (en x).length = k)
    (one:∀ n cs x,DataW.trod enc P W 0 sp held n e cs = some x→∃ y,cs = en y)
    (hok:Value.okWide P W .any base t v) (h:DataW.Trod enc P W 0 sp held t v d ps):∃ l,Rd en k W v l:=by
  obtain ⟨fuel,hf⟩:=h
  obtain ⟨a0,len,cap,rfl⟩:=okWide_slice ht hok
  rcases Deep.open_slice ht hf with ⟨hcs,_⟩|⟨a,len',cap',m,n,D,Pl,hcs,_,hl,hm,hmm,_,hx⟩
  · simp [Value.cells] at hcs
    obtain ⟨rfl,rfl,rfl⟩:=hcs
    exact ⟨[],Rd.nil W⟩
  · simp [Value.cells] at hcs
    obtain ⟨rfl,rfl,rfl⟩:=hcs
    obtain ⟨hsp,hb⟩:=slice_home ht hok
    obtain ⟨b,o,s⟩:=a
    simp only at hsp hb
    subst hsp
    have hlm:len≤m:=by rw [hmm];split <;> omega
    have each:∀ i,i < len→∃ y,∀ j u,(en y)[j]? = some u→W.cell? ⟨b,o + i * k + j,none⟩ = some u:=by
      intro i hi
      obtain ⟨cs',h1,h2⟩:=hx i (by omega)
      obtain ⟨_,hcl,hcell⟩:=World.cells?_some h1
      obtain ⟨y,rfl⟩:=one _ _ _ h2
      refine ⟨y,fun j u hu=>?_⟩
      have hj:j < k:=by
        rw [← hlen y]
        exact (List.getElem?_eq_some_iff.1 hu).1
      have:=hcell j (by omega)
      rw [hk] at this
      rw [hu] at this
      rw [← this,add_plain,add_plain]
    by_cases hl0:len = 0
    · subst hl0
      exact ⟨[],_,cap,rfl,Nat.zero_le _,hm,.inr ⟨b,o,rfl,hb,fun i x hx=>by simp at hx⟩⟩
    have hne:Nonempty α:=⟨(each 0 (by omega)).choose⟩
    have hin:Inhabited α:=⟨Classical.choice hne⟩
    obtain ⟨f,hf⟩:=Deep.choose_lt each
    refine ⟨(List.range len).map f,_,cap,by simp,by simpa using hl,hm,.inr ⟨b,o,rfl,hb,fun i x hx j u hu=>?_⟩⟩
    simp only [List.getElem?_map] at hx
    rcases Nat.lt_or_ge i len with hi|hi
    · rw [List.getElem?_range hi] at hx
      cases hx
      exact hf i hi j u hu
    · rw [List.getElem?_eq_none (by simpa using hi)] at hx;cases hx
theorem one_ent (n:Nat) (cs:List Value) (x:DataW H × List MemPlace) (h:DataW.trod enc Tryz.prog W 0 sp held n 45 cs = some x):∃ y:Ent,cs = y.cs:=by
  obtain ⟨xs,m,_,_,hl,hxl,hf⟩:=DataW.trod_struct Tryz.underlying45 h
  have hc:Tryz.prog.cellsOf 45 = 6:=by kernel_rfl
  rw [hc] at hl
  match cs,hl with
  | [c0,c1,c2,c3,c4,c5],_ =>
    have hxs:xs.length = 6:=hxl
    have go:∀ (i:Nat) (t:TypeId) (c:Value),Tryz.prog.underlying t = some (.int .i64)→DataW.trod enc Tryz.prog W 0 sp held m t [c] = xs[i]?→i < 6→∃ z,c = .int .i64 z:=by
      intro i t c ht hd hi
      rw [List.getElem?_eq_getElem (by omega)] at hd
      obtain ⟨z,hz,_⟩:=DataW.trod_int ht hd
      simp at hz
      exact ⟨z,hz⟩
    have g0:=hf 0 _ rfl
    have g1:=hf 1 _ rfl
    have g2:=hf 2 _ rfl
    have g3:=hf 3 _ rfl
    have g4:=hf 4 _ rfl
    have g5:=hf 5 _ rfl
    have k1:Tryz.prog.cellsOf 2 = 1:=by kernel_rfl
    have k2:Tryz.prog.cellsOf 3 = 1:=by kernel_rfl
    have k3:Tryz.prog.cellsOf 43 = 1:=by kernel_rfl
    simp [k1,k2,k3] at g0 g1 g2 g3 g4 g5
    obtain ⟨z0,rfl⟩:=go 0 _ c0 Tryz.underlying2 g0 (by omega)
    obtain ⟨z1,rfl⟩:=go 1 _ c1 Tryz.underlying3 g1 (by omega)
    obtain ⟨z2,rfl⟩:=go 2 _ c2 Tryz.underlying2 g2 (by omega)
    obtain ⟨z3,rfl⟩:=go 3 _ c3 Tryz.underlying2 g3 (by omega)
    obtain ⟨z4,rfl⟩:=go 4 _ c4 Tryz.underlying43 g4 (by omega)
    obtain ⟨z5,rfl⟩:=go 5 _ c5 Tryz.underlying2 g5 (by omega)
    exact ⟨⟨z0,z1,z2,z3,z4,z5⟩,rfl⟩
end
theorem ownKn:ownKnob Tryz.prog.godebug = none:=by kernel_rfl
theorem laidOut:laidOutB Tryz.prog = true:=by kernel_rfl
end Go.Ws
