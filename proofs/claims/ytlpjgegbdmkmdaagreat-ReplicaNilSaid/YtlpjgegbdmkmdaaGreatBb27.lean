/- Lemmas for the statements of this layer (joined texts); no condition. -/
import Derived.Lib.AppendZerosOnto
import Derived.Lib.SliceRun
import Derived.Test.YtlpjgegbdmkmdaaGreatBb05
import Derived.Test.YtlpjgegbdmkmdaaGreatBb10
import Derived.Test.YtlpjgegbdmkmdaaGreatBb26
namespace Go.Ws
open Go Go.RowKit Go.Proofs
set_option maxHeartbeats 2000000
set_option maxRecDepth 100000
set_option linter.unusedVariables false
set_option linter.unusedSimpArgs false
def ienc (n:Nat) (f:Nat→Int) (h:Nat→Value) (j:Nat):Value:=if j < n then .int .i64 (f j) else h j
def Has (f:Nat→Int) (n:Nat) (x:Int):Prop:=∃ j,j < n∧f j = x
def swapF (f:Nat→Int) (j:Nat):Nat→Int:=fun i=>if i = j then f (j - 1) else if i = j - 1 then f j else f i
theorem has_swap {f:Nat→Int} {n j:Nat} (hj:0 < j) (hn:j < n) (x:Int):Has (swapF f j) n x↔Has f n x:=by
  constructor
  · rintro ⟨i,hi,rfl⟩
    unfold swapF
    split
    · exact ⟨j - 1,by omega,rfl⟩
    · split
      · exact ⟨j,hn,rfl⟩
      · exact ⟨i,hi,rfl⟩
  · rintro ⟨i,hi,rfl⟩
    by_cases h1:i = j
    · exact ⟨j - 1,by omega,by unfold swapF;rw [if_neg (by omega),if_pos rfl,h1]⟩
    · by_cases h2:i = j - 1
      · exact ⟨j,hn,by unfold swapF;rw [if_pos rfl,h2]⟩
      · exact ⟨i,hi,by unfold swapF;rw [if_neg h1,if_neg h2]⟩
def SortedTo (f:Nat→Int) (i:Nat):Prop:=∀ p q,p < q→q < i→f p≤f q
def SortedBut (f:Nat→Int) (i j:Nat):Prop:=(∀ p q,p < q→q≤i→p ≠ j→q ≠ j→f p≤f q)∧(∀ q,j < q→q≤i→f j≤f q)
theorem but_start {f:Nat→Int} {i:Nat} (h:SortedTo f i):SortedBut f i i:=⟨fun p q h1 h2 h3 h4=>h p q h1 (by omega),fun q h1 h2=>by omega⟩
theorem but_end {f:Nat→Int} {i j:Nat} (h:SortedBut f i j) (hj:j≤i) (hs:j = 0∨f (j - 1)≤f j):SortedTo f (i + 1):=by
  intro p q h1 h2
  by_cases e1:p = j
  · subst e1;exact h.2 q h1 (by omega)
  · by_cases e2:q = j
    · subst e2
      rcases hs with h0|h0
      · omega
      · by_cases e3:p = q - 1
        · rw [e3];exact h0
        · exact Int.le_trans (h.1 p (q - 1) (by omega) (by omega) e1 (by omega)) h0
    · exact h.1 p q h1 (by omega) e1 e2
theorem but_swap {f:Nat→Int} {i j:Nat} (h:SortedBut f i j) (hj0:0 < j) (hj:j≤i) (hl:f j < f (j - 1)):SortedBut (swapF f j) i (j - 1):=by
  have sw1:swapF f j j = f (j - 1):=if_pos rfl
  have sw2:swapF f j (j - 1) = f j:=by unfold swapF;rw [if_neg (by omega),if_pos rfl]
  have sw3:∀ k,k ≠ j→k ≠ j - 1→swapF f j k = f k:=fun k h1 h2=>by unfold swapF;rw [if_neg h1,if_neg h2]
  constructor
  · intro p q h1 h2 h3 h4
    by_cases e1:p = j
    · subst e1
      rw [sw1,sw3 q (by omega) h4]
      exact h.1 (p - 1) q (by omega) h2 (by omega) (by omega)
    · by_cases e2:q = j
      · subst e2
        rw [sw1,sw3 p e1 h3]
        exact h.1 p (q - 1) (by omega) (by omega) e1 (by omega)
      · rw [sw3 p e1 h3,sw3 q e2 h4]
        exact h.1 p q h1 h2 e1 e2
  · intro q h1 h2
    rw [sw2]
    by_cases e:q = j
    · subst e;rw [sw1];omega
    · rw [sw3 q e (by omega)]
      exact h.2 q (by omega) h2
theorem isort_calls (g n c : Nat) (f : Nat → Int) (hh : Nat → Value) (w : World) (h : Blk w g 3 c (ienc n f hh)) (hnc : n ≤ c) (hcm : c ≤ maxLen) (hn : n ≤ 100) :
    Ret Tryz.prog 139 #[.slice (some ⟨g,0,none⟩) n c,.int .i64 0,.int .i64 n] w fun v w'=>Mod (· = g) w w'∧∃ f',Blk w' g 3 c (ienc n f' hh)∧SortedTo f' n∧∀ x,Has f' n x↔Has f n x:=by
  have HB:=Lib.hid h
  have hgl:=h.lt
  clear h
  refine Fn_of Tryz.func139 rfl (Nat.le_of_ble_eq_true rfl) ?_;intro A hd hA;simp only [ix,Nat.reduceAdd];replace hA:A.tmps.size = 49:=hA
  repeat' (first|refine X_q ?_|refine X_nil ?_|refine W_seqk (fun K hK=>?_)|refine W_seqr ?_|refine W_block ?_|go_step)
  refine W_loops [0,1,2,6] (fun m vs w'=>∃ (i:Nat) (f':Nat→Int),(i + m = n∨(m = 0∧n < i))∧1≤i∧vs = [.slice (some ⟨g,0,none⟩) n c,.int .i64 0,.int .i64 n,.int .i64 i]∧Mod (· = g) w w'∧Blk w' g 3 c (ienc n f' hh)∧SortedTo f' i∧∀ x,Has f' n x↔Has f n x) (n - 1) hd hA (by decide) ⟨1,f,by omega,by omega,by simp,Mod.refl _ _,HB.out,fun p q h1 h2=>by omega,fun x=>Iff.rfl⟩ ?_
  clear hd hA A;intro m vs B w' hd hA _ ⟨i,f',him,hi1,hvs,hM,hB,hs,hp⟩;subst hvs
  have HM:=Lib.hid hM
  replace HB:=Lib.hid hB
  have HS:=Lib.hid hs
  have HP:=Lib.hid hp
  clear hM hB hs hp
  simp only [List.zip_cons_cons,List.zip_nil_right,List.zip_nil_left]
  by_cases hin:i < n
  · have hii:(i:Int) < n:=by omega
    repeat' (first|refine X_q ?_|refine X_nil ?_|refine W_seqk (fun K hK=>?_)|refine W_seqr ?_|refine W_skip ?_|refine W_block ?_|refine W_tt ?_|go_step)
    refine W_loops [0,1,2,6,7] (fun m2 vs w2=>∃ (j:Nat) (f2:Nat→Int),m2 = j∧j≤i∧vs = [.slice (some ⟨g,0,none⟩) n c,.int .i64 0,.int .i64 n,.int .i64 i,.int .i64 j]∧Mod (· = g) w w2∧Blk w2 g 3 c (ienc n f2 hh)∧SortedBut f2 i j∧∀ x,Has f2 n x↔Has f n x) i hd hA (by decide) ⟨i,f',rfl,Nat.le_refl _,by simp,HM.out,HB.out,but_start HS.out,HP.out⟩ ?_
    clear hd hA B HM HB HS HP;intro m2 vs B w2 hd hA _ ⟨j,f2,hmj,hji,hvs,hM,hB,hs,hp⟩;subst hvs hmj
    have HM:=Lib.hid hM
    have HB:=Lib.hid hB
    have HS:=Lib.hid hs
    have HP:=Lib.hid hp
    have hgl2:=hB.lt
    clear hM hB hs hp
    simp only [List.zip_cons_cons,List.zip_nil_right,List.zip_nil_left]
    by_cases hj0:m2 = 0
    · subst hj0
      have HS2:=Lib.hid (but_end HS.out (by omega) (.inl rfl))
      have hz:¬ ((0:Nat):Int) > 0:=by omega
      repeat' (first|refine W_seqk (fun K hK=>?_)|fail)
      refine W_drawσ [(0,0),(1,0),(2,0),(3,0),(4,0),(5,0),(6,0),(7,0),(8,0),(9,0),(10,0),(11,0),(12,0),(13,1),(14,0)] (by kernel_rfl) (by kernel_rfl) ?_
      repeat' (first|(refine X_gf2 ?_)|refine X_q ?_|refine X_g ?_|refine X_gf ?_|refine X_niln ?_|refine X_nil ?_|refine W_seqr ?_|refine W_exit ?_|refine W_ff ?_|go_step)
      exact ⟨_,_,rfl,hd,hA,m - 1,by omega,i + 1,f2,by omega,by omega,by simp,HM.out,HB.out,HS2.out,HP.out⟩
    · obtain ⟨j,hj⟩:∃ j,m2 = j + 1:=⟨m2 - 1,by omega⟩
      have hz:(0:Int) < (m2:Int):=by omega
      have hzn:0 < m2:=by omega
      have hsub:(m2:Int) - 1 = (j:Int):=by omega
      have hjn:m2 < n:=by omega
      have hjn1:(m2:Int) < n:=by omega
      have hjn2:(j:Int) < n:=by omega
      have e1:w2.cell? ⟨g,m2,none⟩ = some (.int .i64 (f2 m2)):=by have:=HB.out.cell (k:=m2) (by omega);rwa [show ienc n f2 hh m2 = .int .i64 (f2 m2) from if_pos hjn] at this
      have e0:w2.cell? ⟨g,j,none⟩ = some (.int .i64 (f2 j)):=by have:=HB.out.cell (k:=j) (by omega);rwa [show ienc n f2 hh j = .int .i64 (f2 j) from if_pos (by omega)] at this
      have HJ:=Lib.hid hj
      have hjm:m2 - 1 = j:=by omega
      have HJM:=Lib.hid hjm
      clear hj hjm
      by_cases lt:f2 m2 < f2 j
      · have HLT:=Lib.hid lt
        repeat' (first|refine W_seqk (fun K hK=>?_)|fail)
        refine W_drawσ [(0,0),(1,0),(2,0),(3,0),(4,0),(5,0),(6,0),(7,0),(8,0),(9,0),(10,0),(11,0),(12,0),(13,1),(14,0)] (by kernel_rfl) (by kernel_rfl) ?_
        repeat' (first|(refine X_pure1 Tryz.func145 (fun _=>less_calls _ _ _) ?_)|refine X_gt ?_|refine X_q ?_|refine X_niln ?_|refine W_seqk (fun K hK=>?_)|refine W_skip ?_|refine W_block ?_|refine W_tt ?_|go_step)
        obtain ⟨G,hG⟩:∃ G:Nat→Prop,G = (fun k=>k = g):=⟨_,rfl⟩;have HGo:Hid (G g):=Lib.hid (by subst hG;rfl);clear hG
        refine W_drawG G [(0,0),(1,0),(2,0),(3,0),(4,0),(5,0),(6,0),(7,0),(8,0),(9,3),(10,0),(11,0),(12,0),(13,3),(14,0),(15,2),(16,0),(17,2)] (by kernel_rfl) (by kernel_rfl) ?_
        repeat' (first|refine Y_q ?_|refine Y_r ?_|fail)
        refine Y_store (off:=m2) HB.out HGo.out (fun W1 hM1 hG1 hB1=>?_)
        have HM1:=Lib.hid hM1
        have HB1:=Lib.hid hB1
        clear hM1 hG1 hB1
        have hgl3:=HB1.out.lt
        repeat' (first|refine Y_q ?_|fail)
        refine Y_store (off:=j) HB1.out HGo.out (fun W2 hM2 hG2 hB2=>?_)
        have HM2:=Lib.hid hM2
        have HB2:=Lib.hid hB2
        clear hM2 hG2 hB2
        repeat' (first|refine Y_nil ?_)
        repeat' (first|refine X_q ?_|refine X_nil ?_|refine W_seqr ?_|go_step)
        have HS2:=Lib.hid (but_swap HS.out hzn hji (by rw [HJM.out];exact HLT.out))
        rw [HJM.out] at HS2
        exact ⟨_,_,rfl,hd,hA,j,by have:=HJ.out;omega,j,swapF f2 m2,rfl,by have:=HJ.out;omega,by simp,Mod.trans (Mod.trans HM.out HM1.out (fun _ _ h=>h) (fun _ _ h=>h)) HM2.out (fun _ _ h=>h) (fun _ _ h=>h),HB2.out.congr (fun k hk=>by
          show _ = put (put (ienc n f2 hh) m2 [.int .i64 (f2 j)]) j [.int .i64 (f2 m2)] k
          rw [put_one,put_one]
          unfold ienc swapF
          rw [HJM.out]
          have:=HJ.out
          by_cases k1:k = m2
          · have h2:¬ k = j:=by omega
            have h3:k < n:=by omega
            simp [k1,h2,h3,hjn,show ¬ m2 = j by omega]
          · by_cases k2:k = j
            · have h3:k < n:=by omega
              simp [k2,show j < n by omega,show ¬ j = m2 by omega]
            · simp [k1,k2]),HS2.out,fun x=>(has_swap hzn hjn x).trans (HP.out x)⟩
      · have HS2:=Lib.hid (but_end HS.out (by omega) (.inr (by rw [HJM.out];omega)))
        repeat' (first|refine W_seqk (fun K hK=>?_)|fail)
        refine W_drawσ [(0,0),(1,0),(2,0),(3,0),(4,0),(5,0),(6,0),(7,0),(8,0),(9,0),(10,0),(11,0),(12,0),(13,1),(14,0)] (by kernel_rfl) (by kernel_rfl) ?_
        repeat' (first|(refine X_pure1 Tryz.func145 (fun _=>less_calls _ _ _) ?_)|refine X_gt ?_|refine X_q ?_|refine X_niln ?_|refine X_nil ?_|refine W_seqr ?_|refine W_exit ?_|refine W_ff ?_|go_step)
        exact ⟨_,_,rfl,hd,hA,m - 1,by omega,i + 1,f2,by omega,by omega,by simp,HM.out,HB.out,HS2.out,HP.out⟩
  · have hii:¬ (i:Int) < n:=by omega
    repeat' (first|refine X_q ?_|refine X_nil ?_|refine W_seqk (fun K hK=>?_)|refine W_seqr ?_|refine W_exit ?_|refine W_ff ?_|go_step)
    exact Body_ret0 hd ⟨HM.out,f',HB.out,fun p q h1 h2=>HS.out p q h1 (by omega),HP.out⟩
theorem X_zeros {Q : Post} {A : Act} {fl : List (Nat × Value)} {ops : Array Oper} {o : Oper} {rest : List (Oper × Nat)} {s x : Operand} {d : Nat} {w : World} (n : Nat) (h0 : 0 < n) (hn : n ≤ 1000)
    (h:∀ (y:Later w) (b c:Nat) (cs:Array Value),w.heap.size≤b→(w.later y).heap[b]? = some (.cells cs 3)→cs.size = c→n≤c→c≤maxLen→wpX Tryz.prog ops Q rest (fr ((d,.slice (some ⟨b,0,none⟩) n c) :: fl) A) (w.later y))
    (ho:o.op = .call { callee:=.builtin .append,args:=#[s,x],argTypes:=#[30,3] }:=by rfl) (hd:o.dst = some d:=by rfl) (hg:o.guard = none:=by rfl)
    (hs:Is ((fr fl A).eval s) (.slice none 0 0):=by go_simp;exact Is.mk _) (hx:Is ((fr fl A).eval x) (.int .i64 n):=by go_simp;exact Is.mk _) :
    wpX Tryz.prog ops Q ((o,2) :: rest) (fr fl A) w:=by
  refine X_v (fun X K hK=>?_) hd hg
  obtain ⟨z,hi,hz⟩:=elemInt.info
  obtain ⟨i,hi',hz',hs',hb'⟩:=info_parts hi
  have hr:=Lib.run_append_grow_zeros (w.later X) 30 3 o.type 3 i z .i64 .i64 Tryz.underlying30 Tryz.underlying3 hi' hz' none 0 0 [] (run_firstCells_none _ _ _ _ _) n h0 (by rw [hs'];decide) (by omega) (by omega) (by rw [hb'];omega) (by
    have hnc:Builtin.nextslicecap (0 + n) 0 = n:=by unfold Builtin.nextslicecap;rw [if_pos (by omega)];omega
    rw [hnc,hb'];omega)
  have hge:n≤grownCap (w.later X) (0 + n) 0 3:=by have:=grownCap_ge (w.later X) (0 + n) 0 3;omega
  have hle:=grownCap_le_maxLen (w.later X) (0 + n) 0 3 (by unfold maxLen;omega)
  generalize grownCap (w.later X) (0 + n) 0 3 = cap at *
  have hzs:∀ m,(Builtin.zeroCells z.cells m).size = m:=fun m=>by unfold Builtin.zeroCells;simp [hz]
  unfold runV execOp
  simp only [ho,resolve,invoke,builtin,Sem.run_bind,Sem.run_pure,Result.andThen_ok,List.map_toArray,List.map_cons,List.map_nil,hs.eq,hx.eq,hr]
  rw [Nat.zero_add]
  refine hK _ _ (h ⟨_,Ext.trans X.2 (Ext.trans (Ext.drew _) (Ext.alloc _ _))⟩ (w.later X).heap.size cap _ X.2.size (heap_alloc_new _ _) ?_ hge hle)
  simp only [Array.size_append,hzs]
  simp;omega
theorem grow_calls (n:Nat) (h0:0 < n) (hn:n≤1000) (w:World):Ret Tryz.prog 123 #[.slice none 0 0,.int .i64 n] w fun v w'=>Ext w w'∧OwnI w' v []∧∀ g,v.ownBlock = some g→w.heap.size≤g:=by
  have hn0:¬ (n:Int) < 0:=by omega
  have hn1:(0:Int) < n:=by omega
  refine Fn_of Tryz.func123 rfl (Nat.le_of_ble_eq_true rfl) ?_;intro A hd hA;simp only [ix,Nat.reduceAdd];replace hA:A.tmps.size = 27:=hA
  repeat' (first|refine X_q ?_|refine X_nil ?_|refine W_seqk (fun K hK=>?_)|refine W_seqr ?_|refine W_skip ?_|refine W_tt ?_|refine W_ff ?_|go_step)
  refine X_zeros n h0 hn (fun y b c cs hb hh hc hnc hcm=>?_)
  have HOW:Hid (OwnI (w.later y) (.slice (some ⟨b,0,none⟩) 0 c) []):=Lib.hid ⟨by simp,.inr ⟨b,c,cs,rfl,Nat.zero_le _,hh,Nat.zero_le _,hcm,by rw [hc];omega,by simp⟩⟩
  have hbl:b < (w.later y).heap.size:=(Array.getElem?_eq_some_iff.1 hh).1
  clear hh
  repeat' (first|refine X_q ?_|refine X_nil ?_|refine W_seqk (fun K hK=>?_)|refine W_seqr ?_|refine W_ret ?_|go_step)
  exact Body_ret hd ⟨y.ext,HOW.out,fun g hg=>by cases hg;exact hb⟩
def sz2 (a b:List Int):Nat→Int
  | 0=>0
  | 1=>a.length
  | _=>a.length + b.length
def cat2 (a b:List Int):Nat→List Int
  | 0=>[]
  | 1=>a
  | _=>a ++ b
theorem concat_calls (a b : List Int) (u1 u2 : Value) (bq : Nat) (w : World) (ha : RdI w u1 a) (hb : RdI w u2 b) (hq : bq < w.heap.size) (c0 : w.cell? ⟨bq, 0, none⟩ = some u1) (c1 : w.cell? ⟨bq, 1, none⟩ = some u2) (hn : 0 < b.length) (hl : a.length + b.length ≤ 100) :
    Ret Tryz.prog 97 #[.slice (some ⟨bq,0,none⟩) 2 2] w fun v w'=>Ext w w'∧OwnI w' v (a ++ b)∧∀ g,v.ownBlock = some g→w.heap.size≤g:=by
  have HRA:=Lib.hid ha
  have HRB:=Lib.hid hb
  obtain ⟨A1,c3,rfl,hc1,hc1m,-⟩:=ha.int
  obtain ⟨A2,c4,rfl,hc2,hc2m,-⟩:=hb.int
  clear ha hb
  have hla:a.length≤100:=by omega
  have hlb:b.length≤100:=by omega
  refine Fn_of Tryz.func97 rfl (Nat.le_of_ble_eq_true rfl) ?_;intro A hd hA;simp only [ix,Nat.reduceAdd];replace hA:A.tmps.size = 36:=hA
  repeat' (first|refine X_q ?_|refine X_nil ?_|refine W_seqk (fun K hK=>?_)|refine W_seqr ?_|refine W_block ?_|go_step)
  refine W_loops [0,2,3,9,10,11] (fun n vs w'=>∃ k:Nat,w' = w∧k + n = 2∧vs = [.slice (some ⟨bq,0,none⟩) 2 2,.slice none 0 0,.int .i64 (sz2 a b k),.slice (some ⟨bq,0,none⟩) 2 2,.int .i64 2,.int .i64 k]) 2 hd hA (by decide) ⟨0,rfl,by omega,by simp [sz2]⟩ ?_
  clear hd hA A;intro n vs B w' hd hA _ ⟨k,hw,hk,hvs⟩;subst hw hvs
  obtain rfl|rfl|rfl:k = 0∨k = 1∨k = 2:=by omega
  · simp only [sz2]
    simp only [List.zip_cons_cons,List.zip_nil_right,List.zip_nil_left]
    repeat' (first|refine X_q ?_|refine X_nil ?_|refine W_seqk (fun K hK=>?_)|refine W_seqr ?_|refine W_skip ?_|refine W_block ?_|refine W_tt ?_|refine W_ff ?_|go_step)
    exact ⟨_,_,rfl,hd,hA,n - 1,by omega,1,trivial,by omega,by simp [sz2]⟩
  · simp only [sz2]
    simp only [List.zip_cons_cons,List.zip_nil_right,List.zip_nil_left]
    repeat' (first|refine X_q ?_|refine X_nil ?_|refine W_seqk (fun K hK=>?_)|refine W_seqr ?_|refine W_skip ?_|refine W_block ?_|refine W_tt ?_|refine W_ff ?_|go_step)
    exact ⟨_,_,rfl,hd,hA,n - 1,by omega,2,trivial,by omega,by simp [sz2]⟩
  · simp only [sz2]
    simp only [List.zip_cons_cons,List.zip_nil_right,List.zip_nil_left]
    repeat' (first|refine X_q ?_|refine X_nil ?_|refine W_seqk (fun K hK=>?_)|refine W_seqr ?_|refine W_exit ?_|refine W_ff ?_|go_step)
    refine X_ret Tryz.func123 (grow_calls (a.length + b.length) (by omega) (by omega) _) (fun r w1 hR=>?_)
    obtain ⟨hE1,hO1,hF1⟩:=hR
    have HO1:=Lib.hid hO1
    have HF1:=Lib.hid hF1
    have HE1:=Lib.hid hE1
    clear hO1 hF1 hE1
    repeat' (first|refine X_q ?_|refine X_nil ?_|refine W_seqk (fun K hK=>?_)|refine W_seqr ?_|refine W_block ?_|go_step)
    refine W_loops [2,6,25,26,27] (fun n vs w2=>∃ (k:Nat) (u:Value),Ext w' w2∧k + n = 2∧vs = [.slice none 0 0,u,.slice (some ⟨bq,0,none⟩) 2 2,.int .i64 2,.int .i64 k]∧OwnI w2 u (cat2 a b k)∧∀ g,u.ownBlock = some g→w'.heap.size≤g) 2 hd hA (by decide) ⟨0,r,HE1.out,by omega,by simp,HO1.out,HF1.out⟩ ?_
    clear hd hA B HE1 HO1 HF1;intro n2 vs B w2 hd hA _ ⟨k,u,hE2,hk2,hvs,hown,hfr⟩;subst hvs
    have Ho:=Lib.hid hown
    have Hf:=Lib.hid hfr
    obtain ⟨y,rfl⟩:=hE2.get
    clear hE2
    obtain ⟨A6,m6,c6,rfl⟩:=own_slice hown
    clear hown hfr
    obtain rfl|rfl|rfl:k = 0∨k = 1∨k = 2:=by omega
    · simp only [List.zip_cons_cons,List.zip_nil_right,List.zip_nil_left]
      repeat' (first|refine X_q ?_|refine X_nil ?_|refine W_seqk (fun K hK=>?_)|refine W_seqr ?_|refine W_skip ?_|refine W_block ?_|refine W_tt ?_|go_step)
      refine X_push (w0:=w') (xs:=([]:List Int)) (by simp) elemInt Ho.out Hf.out (HRA.out.later (by simp)) (by simp;omega) (by unfold maxLen;simp;omega) (fun y2 v' hO2 hF2 hN2 hM2=>?_)
      have HO2:=Lib.hid hO2
      have HF2:=Lib.hid hF2
      clear hO2 hF2 hN2 hM2
      repeat' (first|refine X_q ?_|refine X_nil ?_|refine W_seqr ?_|go_step)
      exact ⟨_,_,rfl,hd,hA,n2 - 1,by omega,1,_,y2.ext,by omega,by simp,by simpa [cat2] using HO2.out,HF2.out⟩
    · simp only [List.zip_cons_cons,List.zip_nil_right,List.zip_nil_left]
      repeat' (first|refine X_q ?_|refine X_nil ?_|refine W_seqk (fun K hK=>?_)|refine W_seqr ?_|refine W_skip ?_|refine W_block ?_|refine W_tt ?_|go_step)
      refine X_push (w0:=w') (xs:=a) (by simp) elemInt Ho.out Hf.out (HRB.out.later (by simp)) (by omega) (by unfold maxLen;omega) (fun y2 v' hO2 hF2 hN2 hM2=>?_)
      have HO2:=Lib.hid hO2
      have HF2:=Lib.hid hF2
      clear hO2 hF2 hN2 hM2
      repeat' (first|refine X_q ?_|refine X_nil ?_|refine W_seqr ?_|go_step)
      exact ⟨_,_,rfl,hd,hA,n2 - 1,by omega,2,_,y2.ext,by omega,by simp,by simpa [cat2] using HO2.out,HF2.out⟩
    · have HO3:Hid (OwnI (w'.later y) (.slice A6 m6 c6) (a ++ b)):=Lib.hid Ho.out
      simp only [List.zip_cons_cons,List.zip_nil_right,List.zip_nil_left]
      repeat' (first|refine X_q ?_|refine X_nil ?_|refine W_seqk (fun K hK=>?_)|refine W_seqr ?_|refine W_ret ?_|refine W_exit ?_|refine W_ff ?_|go_step)
      exact Body_ret hd ⟨y.ext,HO3.out,Hf.out⟩
theorem pdq_calls (g n c : Nat) (lim : Int) (f : Nat → Int) (hh : Nat → Value) (w : World) (h : Blk w g 3 c (ienc n f hh)) (hnc : n ≤ c) (hcm : c ≤ maxLen) (hn : n ≤ 12) :
    Ret Tryz.prog 124 #[.slice (some ⟨g,0,none⟩) n c,.int .i64 0,.int .i64 n,.int .i64 lim] w fun v w'=>Mod (· = g) w w'∧∃ f',Blk w' g 3 c (ienc n f' hh)∧SortedTo f' n∧∀ x,Has f' n x↔Has f n x:=by
  have HB:=Lib.hid h
  clear h
  have hn12:(n:Int)≤12:=by omega
  refine Fn_of Tryz.func124 rfl (Nat.le_of_ble_eq_true rfl) ?_;intro A hd hA;simp only [ix,Nat.reduceAdd];replace hA:A.tmps.size = 134:=hA
  repeat' (first|refine X_q ?_|refine X_nil ?_|refine W_seqk (fun K hK=>?_)|refine W_seqr ?_|refine W_block ?_|go_step)
  refine W_loops [0,1,2,3,8,9] (fun m vs w'=>m = 0∧w' = w∧vs = [.slice (some ⟨g,0,none⟩) n c,.int .i64 0,.int .i64 n,.int .i64 lim,.bool true,.bool true]) 0 hd hA (by decide) ⟨rfl,rfl,by simp⟩ ?_
  clear hd hA A;intro m vs B w' hd hA _ ⟨hm,hw,hvs⟩;subst hm hw hvs
  simp only [List.zip_cons_cons,List.zip_nil_right,List.zip_nil_left]
  repeat' (first|refine X_q ?_|refine X_nil ?_|refine W_seqk (fun K hK=>?_)|refine W_seqr ?_|refine W_block ?_|refine W_tt ?_|go_step)
  refine X_ret Tryz.func139 (isort_calls g n c f hh _ HB.out hnc hcm (by omega)) (fun r w1 hR=>?_)
  repeat' (first|refine X_nil ?_|refine W_ret ?_|go_step)
  exact Body_ret0 hd hR
theorem sort_calls (g n c : Nat) (f : Nat → Int) (hh : Nat → Value) (w : World) (h : Blk w g 3 c (ienc n f hh)) (hnc : n ≤ c) (hcm : c ≤ maxLen) (hn : n ≤ 8) :
    Ret Tryz.prog 98 #[.slice (some ⟨g,0,none⟩) n c] w fun v w'=>Mod (· = g) w w'∧∃ f',Blk w' g 3 c (ienc n f' hh)∧SortedTo f' n∧∀ x,Has f' n x↔Has f n x:=by
  have HB:=Lib.hid h
  clear h
  refine Fn_of Tryz.func98 rfl (Nat.le_of_ble_eq_true rfl) ?_;intro A hd hA;simp only [ix,Nat.reduceAdd];replace hA:A.tmps.size = 11:=hA
  repeat' (first|(refine X_pure Tryz.func125 (len_calls n hn _) ?_)|refine X_q ?_|refine X_nil ?_|refine W_seqk (fun K hK=>?_)|refine W_seqr ?_|go_step)
  refine X_ret Tryz.func124 (pdq_calls g n c _ f hh _ HB.out hnc hcm (by omega)) (fun r w1 hR=>?_)
  repeat' (first|refine X_nil ?_|fail)
  exact Body_ret0 hd hR
theorem X_clear {Q : Post} {A : Act} {fl : List (Nat × Value)} {ops : Array Oper} {o : Oper} {rest : List (Oper × Nat)} {x : Operand} {w : World} {b n c : Nat} {g : Nat → Value} (off m : Nat) (hb : Blk w b 3 n g) (hm : 0 < m) (hom : off + m ≤ n)
    (h:∀ W',Mod (· = b) w W'→Blk W' b 3 n (put g off (List.replicate m (.int .i64 0)))→wpX Tryz.prog ops Q rest (fr fl A) W')
    (ho:o.op = .call { callee:=.builtin .clear,args:=#[x],argTypes:=#[30] }:=by rfl) (hd:o.dst = none:=by rfl) (hg:o.guard = none:=by rfl)
    (hx:Is ((fr fl A).eval x) (.slice (some ⟨b,off,none⟩) m c):=by go_simp;exact Is.mk _):wpX Tryz.prog ops Q ((o,2) :: rest) (fr fl A) w:=by
  refine X_w (fun X K hK=>?_) hd hg
  obtain ⟨cs,hh,hs,hgg⟩:=hb.later X.2
  have hlen:(List.replicate m (Value.int .i64 0)).length = m:=List.length_replicate
  have hst:=run_storeCells_at Tryz.prog b off 3 (List.replicate m (Value.int .i64 0)) 0 cs (w.later X) hh (by simp;omega) (fun u hu=>by rw [List.eq_of_mem_replicate hu];rfl)
  have hr:(Builtin.clear_ #[30] o.type #[.slice (some ⟨b,off,none⟩) m c]).run Tryz.prog (w.later X) = .ok (.tuple #[]) ((w.later X).setRow b (cs.toList.take (off + 0) ++ List.replicate m (Value.int .i64 0) ++ cs.toList.drop (off + 0 + (List.replicate m (Value.int .i64 0)).length)).toArray):=by
    have hv:∀ w,(zeroValue 3).run Tryz.prog w = .ok (.int .i64 0) w:=fun w=>by kernel_rfl
    have hzc:(Builtin.zeroCells (Value.int .i64 0).cells m).toList = List.replicate m (Value.int .i64 0):=by
      show (Builtin.zeroCells #[Value.int .i64 0] m).toList = _
      simp [Builtin.zeroCells]
      apply List.ext_getElem
      · simp
      · intro i h1 h2
        simp [Nat.mod_one]
    obtain ⟨m',rfl⟩:∃ m',m = m' + 1:=⟨m - 1,by omega⟩
    simp only [Builtin.clear_]
    simp [run_underlying Tryz.underlying30,hv,hzc]
    simp at hst
    rw [hst]
    rfl
  unfold runV execOp
  simp only [ho,resolve,invoke,builtin,Sem.run_bind,Sem.run_pure,Result.andThen_ok,List.map_toArray,List.map_cons,List.map_nil,hx.eq,hr]
  refine hK _ _ (h _ ?_ ?_)
  · refine Mod.trans X.2 (G:=(· = b)) ⟨rfl,rfl,rfl,by rw [setRow_size];exact Nat.le_refl _,fun k hk hne=>setRow_other _ _ _ _ (fun e=>hne (by first|exact e|exact e.symm))⟩ (fun _ _ h=>h.elim) (fun _ _ h=>h)
  · refine ⟨_,setRow_heap _ _ _ _ _ _ hh,by simp;omega,fun k hk=>?_⟩
    simp only [Nat.add_zero,List.getElem?_toArray]
    unfold put
    have hcl:cs.toList.length = n:=by simp [hs]
    by_cases h1:k < off
    · rw [if_neg (by omega),List.append_assoc,List.getElem?_append_left (by simp;omega),List.getElem?_take,if_pos h1,← hgg k hk,Array.getElem?_toList]
    · by_cases h2:k < off + m
      · rw [if_pos ⟨by omega,by rw [hlen];exact h2⟩,List.getElem?_append_left (by simp;omega),List.getElem?_append_right (by simp;omega)]
        have e:k - (cs.toList.take off).length = k - off:=by simp;omega
        rw [e,List.getD_eq_getElem?_getD]
        have hlt:k - off < (List.replicate m (Value.int .i64 0)).length:=by rw [hlen];omega
        rw [List.getElem?_eq_getElem hlt];rfl
      · rw [if_neg (by rw [hlen];omega),List.getElem?_append_right (by simp;omega),List.getElem?_drop,← hgg k hk,Array.getElem?_toList]
        congr 1
        simp;omega
theorem compact_calls (g n c : Nat) (f : Nat → Int) (hh : Nat → Value) (w : World) (h : Blk w g 3 c (ienc n f hh)) (hnc : n ≤ c) (hcm : c ≤ maxLen) (hn : n ≤ 8) (hs : SortedTo f n) :
    Ret Tryz.prog 99 #[.slice (some ⟨g,0,none⟩) n c] w fun v w'=>Mod (· = g) w w'∧∃ m f' h',v = .slice (some ⟨g,0,none⟩) m c∧m≤n∧Blk w' g 3 c (ienc m f' h')∧(∀ p q,p < q→q < m→f' p < f' q)∧∀ x,Has f' m x↔Has f n x:=by
  have HB:=Lib.hid h
  have hgl:=h.lt
  have HS:=Lib.hid hs
  have hcm2:c≤9223372036854775807:=hcm
  clear h hs
  have CELL:Hid (∀ k,k < n→w.cell? ⟨g,k,none⟩ = some (.int .i64 (f k))):=Lib.hid (fun k hk=>by have:=HB.out.cell (k:=k) (by omega);rwa [show ienc n f hh k = .int .i64 (f k) from if_pos hk] at this)
  by_cases h2:n < 2
  · have h2i:(n:Int) < 2:=by omega
    refine Fn_of Tryz.func99 rfl (Nat.le_of_ble_eq_true rfl) ?_;intro A hd hA;simp only [ix,Nat.reduceAdd];replace hA:A.tmps.size = 61:=hA
    repeat' (first|refine X_q ?_|refine X_nil ?_|refine W_seqk (fun K hK=>?_)|refine W_seqr ?_|refine W_ret ?_|refine W_tt ?_|go_step)
    exact Body_ret hd ⟨Mod.refl _ _,n,f,hh,rfl,Nat.le_refl _,HB.out,fun p q h1 h2=>by omega,fun x=>Iff.rfl⟩
  · have h2i:¬ (n:Int) < 2:=by omega
    refine Fn_of Tryz.func99 rfl (Nat.le_of_ble_eq_true rfl) ?_;intro A hd hA;simp only [ix,Nat.reduceAdd];replace hA:A.tmps.size = 61:=hA
    repeat' (first|refine X_q ?_|refine X_nil ?_|refine W_seqk (fun K hK=>?_)|refine W_seqr ?_|refine W_skip ?_|refine W_block ?_|refine W_ff ?_|go_step)
    refine W_loops [0,2,3] (fun m vs w'=>∃ k:Nat,w' = w∧k + m = n∧1≤k∧vs = [.slice (some ⟨g,0,none⟩) n c,.slice none 0 0,.int .i64 k]∧∀ p,p + 1 < k→f p < f (p + 1)) (n - 1) hd hA (by decide) ⟨1,rfl,by omega,by omega,by simp,fun p h=>by omega⟩ ?_
    clear hd hA A;intro m vs B w' hd hA _ ⟨k,hw,hkm,hk1,hvs,hst⟩;subst hw hvs
    have HST:=Lib.hid hst
    clear hst
    simp only [List.zip_cons_cons,List.zip_nil_right,List.zip_nil_left]
    by_cases hkn:k < n
    · obtain ⟨j,hj⟩:∃ j,k = j + 1:=⟨k - 1,by omega⟩
      have hsub:(k:Int) - 1 = (j:Int):=by omega
      have hki:(k:Int) < n:=by omega
      have hji:(j:Int) < n:=by omega
      have e1:=CELL.out k hkn
      have e0:=CELL.out j (by omega)
      have HJ:=Lib.hid hj
      clear hj
      by_cases e:f k = f j
      · have eb:(f k == f j) = true:=by simp [e]
        have HEQ:=Lib.hid e
        clear e
        have hkc:k≤c:=by omega
        have hkle:k≤n:=by omega
        have hkleI:(k:Int)≤n:=by omega
        have hkcI:(k:Int)≤c:=by omega
        have hck:¬ c = k:=by omega
        have hck0:¬ c - k = 0:=by omega
        have hncI:(n:Int)≤c:=by omega
        repeat' (first|refine X_q ?_|refine X_nil ?_|refine W_seqk (fun K hK=>?_)|refine W_seqr ?_|refine W_skip ?_|refine W_block ?_|refine W_tt ?_|go_step)
        refine W_drawσ [(0,0),(1,0),(2,0),(3,0),(4,0),(5,0),(6,0),(7,0),(8,0),(9,0)] (by kernel_rfl) (by kernel_rfl) ?_
        repeat' (first|refine X_q ?_|refine X_niln ?_|refine X_nil ?_|refine W_seqk (fun K hK=>?_)|refine W_seqr ?_|refine W_block ?_|refine W_tt ?_|go_step)
        obtain ⟨r,hr⟩:∃ r,r = n - k:=⟨_,rfl⟩
        obtain ⟨cr,hcr⟩:∃ cr,cr = c - k:=⟨_,rfl⟩
        rw [← hr,← hcr]
        have hnr:n = k + r:=by omega
        have HNR:=Lib.hid hnr
        have hrn:r≤n:=by omega
        have hrc:r≤cr:=by omega
        have hr1:1≤r:=by omega
        have hmono:∀ q p,p < q→q < k→f p < f q:=by
          intro q
          induction q with
          | zero=>intro p h1;omega
          | succ q ih =>
            intro p h1 h2
            have h3:=HST.out q (by omega)
            by_cases hpq:p = q
            · rw [hpq];exact h3
            · exact Int.lt_trans (ih p (by omega) (by omega)) h3
        have hhas:∀ x,Has f k x↔Has f (k + 1) x:=fun x=>by
          constructor
          · rintro ⟨p,h1,h2⟩;exact ⟨p,by omega,h2⟩
          · rintro ⟨p,h1,h2⟩
            by_cases hpk:p = k
            · exact ⟨j,by have:=HJ.out;omega,by rw [← h2,hpk,HEQ.out]⟩
            · exact ⟨p,by omega,h2⟩
        have hlast:f (k - 1) = f (k + 1 - 1):=by
          have h1:=HJ.out
          have h2:k - 1 = j:=by omega
          rw [h2,Nat.add_sub_cancel];exact HEQ.out.symm
        clear hr hcr hnr
        refine W_loops [0,2,3,4,5] (fun m2 vs w2=>∃ (i k2:Nat) (f2:Nat→Int),1≤i∧i + m2 = r∧vs = [.slice (some ⟨g,0,none⟩) n c,.slice none 0 0,.int .i64 k2,.slice (some ⟨g,k,none⟩) r cr,.int .i64 i]∧Mod (· = g) w' w2∧Blk w2 g 3 c (ienc n f2 hh)∧(1≤k2∧k2 + 1≤k + i)∧(∀ q p,p < q→q < k2→f2 p < f2 q)∧(∀ x,Has f2 k2 x↔Has f (k + i) x)∧(∀ p,k + i≤p + 1→p < n→f2 p = f p)∧f2 (k2 - 1) = f (k + i - 1)) (r - 1) hd hA (by decide) ⟨1,k,f,Nat.le_refl _,by omega,by simp,Mod.refl _ _,HB.out,⟨hk1,Nat.le_refl _⟩,hmono,hhas,fun p _ _=>rfl,hlast⟩ ?_
        clear hd hA B hmono hhas hlast e1 e0 CELL HB;intro m2 vs B w2 hd hA _ ⟨i,k2,f2,hi1,him,hvs,hM,hB,⟨hk21,hk22⟩,hinc,hhas,htail,hlast⟩;subst hvs
        have HM:=Lib.hid hM
        have HB:=Lib.hid hB
        have HINC:=Lib.hid hinc
        have HHAS:=Lib.hid hhas
        have HTL:=Lib.hid htail
        have HLA:=Lib.hid hlast
        have hgl2:=hB.lt
        clear hM hB hinc hhas htail hlast
        simp only [List.zip_cons_cons,List.zip_nil_right,List.zip_nil_left]
        by_cases hir:i < r
        · obtain ⟨i',hi'⟩:∃ i',i = i' + 1:=⟨i - 1,by omega⟩
          have hiI:(i:Int) < r:=by omega
          have hsub2:(i:Int) - 1 = (i':Int):=by omega
          have hiI':(i':Int) < r:=by omega
          have hkin:k + i < n:=by have:=HNR.out;omega
          have c1:w2.cell? ⟨g,k + i,none⟩ = some (.int .i64 (f (k + i))):=by have:=HB.out.cell (k:=k + i) (by omega);rwa [show ienc n f2 hh (k + i) = .int .i64 (f (k + i)) from by unfold ienc;rw [if_pos hkin,HTL.out (k + i) (by omega) hkin]] at this
          have c0:w2.cell? ⟨g,k + i',none⟩ = some (.int .i64 (f (k + i'))):=by have:=HB.out.cell (k:=k + i') (by omega);rwa [show ienc n f2 hh (k + i') = .int .i64 (f (k + i')) from by unfold ienc;rw [if_pos (by omega),HTL.out (k + i') (by omega) (by omega)]] at this
          have HI:=Lib.hid hi'
          have hk2n:(k2:Int) < n:=by omega
          clear hi'
          by_cases e:f (k + i) = f (k + i')
          · have eb:(f (k + i) != f (k + i')) = false:=by simp [e]
            have HEQ2:=Lib.hid e
            clear e
            repeat' (first|refine X_q ?_|refine X_nil ?_|refine W_seqk (fun K hK=>?_)|refine W_seqr ?_|refine W_skip ?_|refine W_block ?_|refine W_tt ?_|go_step)
            refine W_drawσ [(0,0),(1,0),(2,0),(3,0),(4,0),(5,0),(6,0),(7,0),(8,0),(9,0)] (by kernel_rfl) (by kernel_rfl) ?_
            repeat' (first|refine X_q ?_|refine X_niln ?_|refine X_nil ?_|refine W_seqr ?_|refine W_skip ?_|refine W_ff ?_|go_step)
            exact ⟨_,_,rfl,hd,hA,m2 - 1,by omega,i + 1,k2,f2,by omega,by omega,by simp,HM.out,HB.out,⟨hk21,by omega⟩,HINC.out,(fun x=>(HHAS.out x).trans ⟨fun ⟨p,h1,h2⟩=>⟨p,by omega,h2⟩,fun ⟨p,h1,h2⟩=>by
              by_cases hp:p = k + i
              · exact ⟨k + i',by have:=HI.out;omega,by rw [← h2,hp,HEQ2.out]⟩
              · exact ⟨p,by omega,h2⟩⟩),(fun p h1 h2=>HTL.out p (by omega) h2),by
                have h1:=HI.out
                rw [HLA.out,show k + (i + 1) - 1 = k + i by omega,show k + i - 1 = k + i' by omega];exact HEQ2.out.symm⟩
          · have eb:(f (k + i) != f (k + i')) = true:=by simp [e]
            have HNE:=Lib.hid e
            clear e
            repeat' (first|refine X_q ?_|refine X_nil ?_|refine W_seqk (fun K hK=>?_)|refine W_seqr ?_|refine W_skip ?_|refine W_block ?_|refine W_tt ?_|go_step)
            refine W_drawσ [(0,0),(1,0),(2,0),(3,0),(4,0),(5,0),(6,0),(7,0),(8,0),(9,0)] (by kernel_rfl) (by kernel_rfl) ?_
            repeat' (first|refine X_q ?_|refine X_niln ?_|refine W_seqk (fun K hK=>?_)|refine W_seqr ?_|refine W_tt ?_|go_step)
            refine X_store (off:=k2) HB.out (fun W3 hM3 hB3=>?_)
            have HM3:=Lib.hid hM3
            have HB3:=Lib.hid hB3
            clear hM3 hB3
            repeat' (first|refine X_q ?_|refine X_nil ?_|refine W_seqr ?_|go_step)
            have hne2:f (k + i - 1) < f (k + i):=by
              have h1:=HI.out
              have h2:=HS.out (k + i') (k + i) (by omega) hkin
              have h3:=HNE.out
              rw [show k + i - 1 = k + i' by omega];omega
            have hk2i:k2 < k + i:=by omega
            refine ⟨_,_,rfl,hd,hA,m2 - 1,by omega,i + 1,k2 + 1,(fun p=>if p = k2 then f (k + i) else f2 p),by omega,by omega,by simp,Mod.trans HM.out HM3.out (fun _ _ h=>h) (fun _ _ h=>h),HB3.out.congr (fun p hp=>?_),⟨by omega,by omega⟩,?_,?_,?_,?_⟩
            · show _ = put (ienc n f2 hh) k2 [.int .i64 (f (k + i))] p
              rw [put_one]
              unfold ienc
              by_cases hp2:p = k2
              · simp [hp2,show k2 < n by omega]
              · simp [hp2]
            · intro q p h1 h2
              show (if p = k2 then f (k + i) else f2 p) < (if q = k2 then f (k + i) else f2 q)
              rw [if_neg (by omega)]
              by_cases hq:q = k2
              · rw [if_pos hq]
                by_cases hp:p = k2 - 1
                · rw [hp,HLA.out];exact hne2
                · have:=HINC.out (k2 - 1) p (by omega) (by omega)
                  rw [HLA.out] at this
                  exact Int.lt_trans this hne2
              · rw [if_neg hq];exact HINC.out q p h1 (by omega)
            · intro x
              constructor
              · rintro ⟨p,h1,h2⟩
                by_cases hp:p = k2
                · exact ⟨k + i,by omega,by rw [← h2];show _ = (if p = k2 then f (k + i) else f2 p);rw [if_pos hp]⟩
                · obtain ⟨p',h3,h4⟩:=(HHAS.out x).1 ⟨p,by omega,by rw [← h2];show _ = (if p = k2 then f (k + i) else f2 p);rw [if_neg hp]⟩
                  exact ⟨p',by omega,h4⟩
              · rintro ⟨p,h1,h2⟩
                by_cases hp:p = k + i
                · exact ⟨k2,by omega,by rw [← h2,hp];exact if_pos rfl⟩
                · obtain ⟨p',h3,h4⟩:=(HHAS.out x).2 ⟨p,by omega,h2⟩
                  exact ⟨p',by omega,by rw [← h4];exact if_neg (by omega)⟩
            · intro p h1 h2
              show (if p = k2 then f (k + i) else f2 p) = f p
              rw [if_neg (by omega)];exact HTL.out p (by omega) h2
            · show (if k2 + 1 - 1 = k2 then f (k + i) else f2 (k2 + 1 - 1)) = f (k + (i + 1) - 1)
              rw [if_pos (by omega)]
              rfl
        · have hiI:¬ (i:Int) < r:=by omega
          have hk2n:k2 < n:=by have:=HNR.out;omega
          have hk2le:k2≤n:=by omega
          have hk2leI:(k2:Int)≤n:=by omega
          have hk2c:k2≤c:=by omega
          have hk2cI:(k2:Int)≤c:=by omega
          have hck2:¬ c = k2:=by omega
          have hck3:¬ c - k2 = 0:=by omega
          repeat' (first|refine X_q ?_|refine X_nil ?_|refine W_seqk (fun K hK=>?_)|refine W_seqr ?_|refine W_exit ?_|refine W_ff ?_|go_step)
          refine X_clear k2 (n - k2) HB.out (by omega) (by omega) (fun W3 hM3 hB3=>?_)
          have HM3:=Lib.hid hM3
          have HB3:=Lib.hid hB3
          clear hM3 hB3
          repeat' (first|refine X_q ?_|refine X_nil ?_|refine W_seqk (fun K hK=>?_)|refine W_seqr ?_|refine W_ret ?_|go_step)
          have hir2:k + i = n:=by have:=HNR.out;omega
          exact Body_ret hd ⟨Mod.trans HM.out HM3.out (fun _ _ h=>h) (fun _ _ h=>h),k2,f2,_,rfl,hk2le,HB3.out.congr (g':=ienc k2 f2 (put (ienc n f2 hh) k2 (List.replicate (n - k2) (.int .i64 0)))) (fun p hp=>by
            unfold ienc
            by_cases hp2:p < k2
            · rw [if_pos hp2,put_out (.inl hp2),if_pos (by omega)]
            · rw [if_neg hp2]),fun p q h1 h2=>HINC.out q p h1 h2,fun x=>by rw [← hir2];exact HHAS.out x⟩
      · have eb:(f k == f j) = false:=by simp [e]
        have hlt:f j < f k:=by have:=HS.out j k (by have:=HJ.out;omega) hkn;omega
        have HLT:=Lib.hid hlt
        clear e hlt
        repeat' (first|refine X_q ?_|refine X_nil ?_|refine W_seqk (fun K hK=>?_)|refine W_seqr ?_|refine W_skip ?_|refine W_block ?_|refine W_tt ?_|go_step)
        refine W_drawσ [(0,0),(1,0),(2,0),(3,0),(4,0),(5,0),(6,0),(7,0),(8,0),(9,0)] (by kernel_rfl) (by kernel_rfl) ?_
        repeat' (first|refine X_q ?_|refine X_niln ?_|refine X_nil ?_|refine W_seqr ?_|refine W_skip ?_|refine W_ff ?_|go_step)
        exact ⟨_,_,rfl,hd,hA,m - 1,by omega,k + 1,by simp,by omega,by omega,by simp,fun p hp=>by
          by_cases hpk:p + 1 = k
          · have h1:=HJ.out
            obtain rfl:p = j:=by omega
            rw [hpk];exact HLT.out
          · exact HST.out p (by omega)⟩
    · have hki:¬ (k:Int) < n:=by omega
      repeat' (first|refine X_q ?_|refine X_nil ?_|refine W_seqk (fun K hK=>?_)|refine W_seqr ?_|refine W_ret ?_|refine W_exit ?_|refine W_ff ?_|go_step)
      have hmono:∀ q p,p < q→q < n→f p < f q:=by
        intro q
        induction q with
        | zero=>intro p h1;omega
        | succ q ih =>
          intro p h1 h2
          have h3:=HST.out q (by omega)
          by_cases hpq:p = q
          · rw [hpq];exact h3
          · exact Int.lt_trans (ih p (by omega) (by omega)) h3
      exact Body_ret hd ⟨Mod.refl _ _,n,f,hh,rfl,Nat.le_refl _,HB.out,fun p q h1 h2=>hmono q p h1 h2,fun x=>Iff.rfl⟩
theorem rise_ext:∀ (l m:List Int),l.Pairwise (· < ·)→m.Pairwise (· < ·)→(∀ x,x ∈ l↔x ∈ m)→l = m
  | [],[],_,_,_=>rfl
  | [],y :: m,_,_,h=>by have:=(h y).2 (by simp);cases this
  | x :: l,[],_,_,h=>by have:=(h x).1 (by simp);cases this
  | x :: l,y :: m,hl,hm,h=>by
    obtain ⟨h1,h2⟩:=List.pairwise_cons.1 hl
    obtain ⟨h3,h4⟩:=List.pairwise_cons.1 hm
    have e:x = y:=by
      rcases List.mem_cons.1 ((h x).1 (by simp)) with e|e
      · exact e
      · rcases List.mem_cons.1 ((h y).2 (by simp)) with e2|e2
        · exact e2.symm
        · have:=h3 x e;have:=h1 y e2;omega
    subst e
    rw [rise_ext l m h2 h4 (fun z=>?_)]
    constructor
    · intro hz
      rcases List.mem_cons.1 ((h z).1 (List.mem_cons_of_mem _ hz)) with e|e
      · have:=h1 z hz;omega
      · exact e
    · intro hz
      rcases List.mem_cons.1 ((h z).2 (List.mem_cons_of_mem _ hz)) with e|e
      · have:=h3 z hz;omega
      · exact e
theorem joinB_rise (a b:List Int):(joinB a b).Pairwise (· < ·):=by
  unfold joinB
  exact List.Pairwise.filter _ (by decide)
theorem joinB_mem {a b:List Int} (ha:Bks a) (hb:Bks b) (x:Int):x ∈ joinB a b↔x ∈ a ++ b:=by
  unfold joinB
  rw [List.mem_filter,List.mem_append]
  constructor
  · rintro ⟨-,h⟩;simpa using h
  · intro h
    refine ⟨?_,by simpa using h⟩
    have hx:0≤x∧x < 4:=h.elim (fun h=>ha x h) (fun h=>hb x h)
    have:x = 0∨x = 1∨x = 2∨x = 3:=by omega
    simpa using this
theorem join_eq {a b:List Int} (ha:Bks a) (hb:Bks b) {f:Nat→Int} {m:Nat} (hi:∀ p q,p < q→q < m→f p < f q) (hh:∀ x,Has f m x↔x ∈ a ++ b):(List.range m).map f = joinB a b:=by
  refine rise_ext _ _ ?_ (joinB_rise a b) (fun x=>?_)
  · rw [List.pairwise_map]
    refine List.Pairwise.imp_of_mem ?_ List.pairwise_lt_range
    intro p q _ hq hpq
    exact hi p q hpq (List.mem_range.1 hq)
  · rw [joinB_mem ha hb,← hh,List.mem_map]
    constructor
    · rintro ⟨p,hp,rfl⟩;exact ⟨p,List.mem_range.1 hp,rfl⟩
    · rintro ⟨p,hp,rfl⟩;exact ⟨p,List.mem_range.2 hp,rfl⟩
theorem ics_flat:∀ xs:List Int,xs.flatMap ics = xs.map (fun x=>Value.int .i64 x)
  | []=>rfl
  | x :: xs=>by rw [List.flatMap_cons,ics_flat xs];rfl
theorem own_blk {w:World} {v:Value} {xs:List Int} (h:OwnI w v xs) (hx:0 < xs.length):∃ g c hh,v = .slice (some ⟨g,0,none⟩) xs.length c∧xs.length≤c∧c≤maxLen∧Blk w g 3 c (ienc xs.length (fun j=>xs.getD j 0) hh):=by
  obtain ⟨hl,⟨-,h0⟩|⟨g,cap,cur,rfl,-,hh,hnc,hcm,hcs,htk⟩⟩:=h
  · omega
  · refine ⟨g,cap,fun j=>cur.getD j undef,rfl,hnc,hcm,cur,hh,by omega,fun k hk=>?_⟩
    unfold ienc
    have hkc:k < cur.size:=by omega
    by_cases hkn:k < xs.length
    · rw [if_pos hkn]
      have h1:(cur.toList.take (xs.length * 1))[k]? = (xs.flatMap ics)[k]?:=by rw [htk]
      rw [List.getElem?_take,if_pos (by omega),ics_flat,List.getElem?_map,Array.getElem?_toList] at h1
      rw [h1,List.getElem?_eq_getElem hkn]
      simp [List.getD_eq_getElem?_getD,List.getElem?_eq_getElem hkn]
    · rw [if_neg hkn]
      simp [Array.getD,hkc]
theorem blk_rd {w:World} {g c m:Nat} {f:Nat→Int} {hh:Nat→Value} (h:Blk w g 3 c (ienc m f hh)) (hmc:m≤c) (hcm:c≤maxLen):RdI w (.slice (some ⟨g,0,none⟩) m c) ((List.range m).map f):=by
  refine ⟨_,c,by simp,by simpa using hmc,hcm,.inr ⟨g,0,rfl,h.lt,fun i x hx j u hu=>?_⟩⟩
  rw [List.getElem?_map] at hx
  have him:i < m:=by
    rcases Nat.lt_or_ge i m with h1|h1
    · exact h1
    · rw [List.getElem?_eq_none (by simpa using h1)] at hx;cases hx
  rw [List.getElem?_range him] at hx
  cases hx
  have hj:j = 0:=by have:=(List.getElem?_eq_some_iff.1 hu).1;simpa using this
  subst hj
  cases hu
  have:=h.cell (k:=i) (by omega)
  rw [show ienc m f hh i = .int .i64 (f i) from if_pos him] at this
  have e:0 + i * 1 + 0 = i:=by omega
  rw [e];exact this
theorem joined_calls (a b : List Int) (u1 u2 : Value) (w : World) (ha : RdI w u1 a) (hb : RdI w u2 b) (hka : Bks a) (hkb : Bks b) (hla : a.length ≤ 4) (hlb : b.length ≤ 4) (hb0 : 0 < b.length) :
    Ret Tryz.prog 64 #[u1,u2] w fun v w'=>Ext w w'∧RdS w' v (joinB a b)∧∀ k,v.ownBlock = some k→w.heap.size≤k:=by
  have HRA:=Lib.hid ha
  have HRB:=Lib.hid hb
  obtain ⟨A1,c3,rfl,-⟩:=ha.int
  obtain ⟨A2,c4,rfl,-⟩:=hb.int
  clear ha hb
  refine Fn_of Tryz.func64 rfl (Nat.le_of_ble_eq_true rfl) ?_;intro A hd hA;simp only [ix,Nat.reduceAdd];replace hA:A.tmps.size = 14:=hA
  repeat' (first|refine X_q ?_|refine X_nil ?_|refine W_seqk (fun K hK=>?_)|refine W_seqr ?_|(refine X_s (fun x K hK=>?_);go_simp;refine hK _ _ (Ext.alloc _ _) ?_;clear hK K;refine X_al x ?_;generalize (World.later _ x).heap.size = bn;intro yn hn1 hn2 hn3 hn4 hn5;clear x)|go_step)
  have c0:(w.later yn).cell? ⟨bn,0,none⟩ = some (.slice A1 a.length c3):=by rw [hn3];rfl
  have c1:(w.later yn).cell? ⟨bn,1,none⟩ = some (.slice A2 b.length c4):=by rw [hn3];rfl
  have hyw:=yn.ext.size
  refine X_ret Tryz.func97 (concat_calls a b _ _ bn _ (HRA.out.later yn.ext) (HRB.out.later yn.ext) hn2 c0 c1 hb0 (by omega)) (fun r w1 hR=>?_)
  obtain ⟨hE1,hO1,hF1⟩:=hR
  obtain ⟨g,c,hh,rfl,hnc,hcm,hB⟩:=own_blk hO1 (by simp;omega)
  have HE1:=Lib.hid (Ext.trans yn.ext hE1)
  have hgw:w.heap.size≤g:=by have:=hF1 g rfl;omega
  have hl8:(a ++ b).length≤8:=by simp;omega
  obtain ⟨n,hn⟩:∃ n,n = (a ++ b).length:=⟨_,rfl⟩
  rw [← hn] at hnc hB hl8 ⊢
  have HB:=Lib.hid hB
  have HHA:Hid (∀ x,Has (fun j=>(a ++ b).getD j 0) n x↔x ∈ a ++ b):=Lib.hid (fun x=>by
    subst hn
    constructor
    · rintro ⟨j,hj,rfl⟩
      show (a ++ b).getD j 0 ∈ a ++ b
      rw [List.getD_eq_getElem?_getD,List.getElem?_eq_getElem hj];exact List.getElem_mem hj
    · intro h
      obtain ⟨j,hj,rfl⟩:=List.mem_iff_getElem.1 h
      exact ⟨j,hj,by simp [List.getD_eq_getElem?_getD,List.getElem?_eq_getElem hj]⟩)
  clear hO1 hF1 hE1 hB hn1 hn2 hn3 hn4 hn5 c0 c1 hn
  repeat' (first|refine X_q ?_|refine X_nil ?_|refine W_seqk (fun K hK=>?_)|refine W_seqr ?_|go_step)
  refine X_ret Tryz.func98 (sort_calls g n c _ hh _ HB.out hnc hcm hl8) (fun r w2 hR=>?_)
  obtain ⟨hM2,f2,hB2,hs2,hh2⟩:=hR
  have HM2:=Lib.hid hM2
  clear hM2 HB
  repeat' (first|refine X_q ?_|refine X_nil ?_|refine W_seqk (fun K hK=>?_)|refine W_seqr ?_|go_step)
  refine X_ret Tryz.func99 (compact_calls g n c f2 hh _ hB2 hnc hcm hl8 hs2) (fun r w3 hR=>?_)
  obtain ⟨hM3,m,f3,h3,rfl,hmn,hB3,hi3,hh3⟩:=hR
  repeat' (first|refine X_q ?_|refine X_nil ?_|refine W_ret ?_|go_step)
  refine Body_ret hd ⟨?_,?_,?_⟩
  · exact Ext.fresh (Ext.fresh HE1.out HM2.out (fun k hk=>by subst hk;exact hgw)) hM3 (fun k hk=>by subst hk;exact hgw)
  · rw [← join_eq hka hkb hi3 (fun x=>(hh3 x).trans ((hh2 x).trans (HHA.out x)))]
    exact ⟨blk_rd hB3 (by omega) hcm,fun k hk=>by cases hk;exact hB3.lt⟩
  · intro k hk;cases hk;exact hgw
end Go.Ws
