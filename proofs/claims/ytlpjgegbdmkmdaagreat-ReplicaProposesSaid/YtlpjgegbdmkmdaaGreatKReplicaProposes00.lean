/- Lemmas for the statements of this layer (joined texts); no condition. -/
import Derived.Test.YtlpjgegbdmkmdaaGreatBb29
namespace Go.Ws
open Go Go.RowKit Go.Proofs
set_option maxHeartbeats 4000000
set_option maxRecDepth 100000
set_option linter.unusedVariables false
set_option linter.unusedSimpArgs false
theorem Rd.u8 {w : World} {v : Value} {l : List Int} (h : Rd (fun n : Int => [Value.int .u8 n]) 1 w v l) : ∃ A c, v = .slice A l.length c ∧ l.length ≤ c ∧ c ≤ 9223372036854775807 ∧
    Hid (∀ i,i < l.length→∃ e b o,Hid (l[i]? = some e)∧A = some ⟨b,o,none⟩∧b < w.heap.size∧w.cell? ⟨b,o + i,none⟩ = some (.int .u8 e)):=by
  obtain ⟨A,c,h1,h2,h3,h4⟩:=h
  refine ⟨A,c,h1,h2,h3,fun i hi=>?_⟩
  have he:l[i]? = some l[i]:=by simp [hi]
  rcases h4 with ⟨_,rfl⟩|⟨b,o,hA,hb,hr⟩
  · simp at hi
  · have:=hr i _ he 0 _ rfl
    rw [Nat.mul_one,Nat.add_zero] at this
    exact ⟨l[i],b,o,he,hA,hb,this⟩
theorem Rd.ofArr {α:Type} {enc:α→List Value} {k:Nat} {w:World} {b:Nat} {E:TypeId} {cs:Array Value} {xs:List α} (hk:∀ x,(enc x).length = k) (h:Blk w b E cs.size (fun k=>cs.getD k undef)) (hcs:cs.toList = xs.flatMap enc) (hl:xs.length≤maxLen):Rd enc k w (.slice (some ⟨b,0,none⟩) xs.length xs.length) xs:=by
  refine ⟨_,_,rfl,Nat.le_refl _,hl,.inr ⟨b,0,rfl,h.lt,fun i y hy j u hu=>?_⟩⟩
  have key:∀ (xs:List α) (i:Nat),xs[i]? = some y→(xs.flatMap enc)[i * k + j]? = some u:=by
    intro xs
    induction xs with
    | nil=>intro i hy;simp at hy
    | cons x xs ih =>
      intro i hy
      rw [List.flatMap_cons]
      have hl:=hk x
      cases i with
      | zero =>
        simp at hy;subst hy
        have hj:j < (enc x).length:=(List.getElem?_eq_some_iff.1 hu).1
        rw [Nat.zero_mul,Nat.zero_add,List.getElem?_append_left hj];exact hu
      | succ i =>
        have he:(i + 1) * k = i * k + k:=Nat.succ_mul i k
        rw [List.getElem?_append_right (by rw [hl];omega),hl]
        have:(i + 1) * k + j - k = i * k + j:=by omega
        rw [this]
        exact ih i (by simpa using hy)
  have h1:=key xs i hy
  rw [← hcs,Array.getElem?_toList] at h1
  have h2:0 + i * k + j < cs.size:=by have:=(Array.getElem?_eq_some_iff.1 h1).1;omega
  have h3:=h.cell h2
  rw [h3]
  have h4:0 + i * k + j = i * k + j:=by omega
  rw [h4,Array.getD_eq_getD_getElem?,h1];rfl
def oneE:Ent:=⟨1,-1,0,0,1,0⟩
abbrev propsV (bt bi bj:Nat):List ActW:=[⟨{ ActD.zero with kind:=1,view:=⟨3,1,0,[0,3]⟩ },⟨some ⟨bi,0,none⟩,2,2⟩,Sl.nil,Sl.nil⟩,⟨{ ActD.zero with kind:=6,reply:=⟨1,0,0,false,0,0,[oneE,oneE,oneE],2⟩ },Sl.nil,⟨some ⟨bt,0,none⟩,3,3⟩,Sl.nil⟩,
  ⟨{ ActD.zero with kind:=1,view:=⟨0,2,4,[0]⟩ },⟨some ⟨bj,0,none⟩,1,1⟩,Sl.nil,Sl.nil⟩,⟨{ ActD.zero with kind:=2,ent:=oneE },Sl.nil,Sl.nil,Sl.nil⟩,⟨{ ActD.zero with kind:=3 },Sl.nil,Sl.nil,Sl.nil⟩]
theorem proposes_calls (lb:List Int) (v1:Value) (lf:List Two2) (v2:Value) (w:World) (h1:Rd (fun n:Int=>[Value.int .u8 n]) 1 w v1 lb) (hb:∀ q ∈ lb,0≤q∧q≤255) (h2:Rd Two2.cs 2 w v2 lf) (hq:∀ q ∈ lf,q.in):Pure Tryz.prog 7 #[v1,v2] w (.bool true):=by
  have HBI:=Lib.hid hb
  have HQI:=Lib.hid hq
  obtain ⟨A0,c0,rfl,hc0,hcm0,HR1⟩:=h1.u8
  obtain ⟨A1,c1,rfl,hc1,hcm1,HR2⟩:=h2.two2
  clear h1 h2 hb hq
  by_cases g1:lb.length≤10
  · have g1i:¬ (10:Int) < lb.length:=by omega
    by_cases g2:lb.length≤lf.length
    · have g2i:¬ (lf.length:Int) < lb.length:=by omega
      by_cases g3:lf.length≤20
      · have g3i:¬ (20:Int) < lf.length:=by omega
        refine Fn_of Tryz.func7 rfl (Nat.le_of_ble_eq_true rfl) ?_;intro A hd hA;simp only [ix,Nat.reduceAdd];replace hA:A.tmps.size = 101:=hA
        (repeat' (first|refine X_gt ?_|refine X_q ?_|refine X_nil ?_|refine W_seqk (fun K hK=>?_)|refine W_seqr ?_|refine W_skip ?_|refine W_ff ?_|go_step));(first|(refine X_var (fun yn bt hn1 hn2 hn3 hn4 hn5=>?_))|(refine X_s (fun x K hK=>?_);go_simp;refine hK _ _ (Ext.alloc _ _) ?_;clear hK K;refine X_al x ?_;generalize (World.later _ x).heap.size = bt;intro yn hn1 hn2 hn3 hn4 hn5;clear x));have HBbt:=Lib.hid (Blk.new hn5.out);have HEbt:=Lib.hid yn.ext;have hlbt:(World.heap w).size≤bt:=hn1;generalize World.later w yn = W0 at *;clear hn1 hn2 hn3 hn4 hn5 yn
        (repeat' (first|refine X_q ?_|refine X_nil ?_|refine W_seqk (fun K hK=>?_)|refine W_seqr ?_|go_step));(first|(refine X_var (fun yn bi hn1 hn2 hn3 hn4 hn5=>?_))|(refine X_s (fun x K hK=>?_);go_simp;refine hK _ _ (Ext.alloc _ _) ?_;clear hK K;refine X_al x ?_;generalize (World.later _ x).heap.size = bi;intro yn hn1 hn2 hn3 hn4 hn5;clear x));have HBbi:=Lib.hid (Blk.new hn5.out);have HEbi:=Lib.hid yn.ext;have hlbi:(World.heap W0).size≤bi:=hn1;generalize World.later W0 yn = W1 at *;clear hn1 hn2 hn3 hn4 hn5 yn
        (repeat' (first|refine X_q ?_|fail));(first|(refine X_var (fun yn bj hn1 hn2 hn3 hn4 hn5=>?_))|(refine X_s (fun x K hK=>?_);go_simp;refine hK _ _ (Ext.alloc _ _) ?_;clear hK K;refine X_al x ?_;generalize (World.later _ x).heap.size = bj;intro yn hn1 hn2 hn3 hn4 hn5;clear x));have HBbj:=Lib.hid (Blk.new hn5.out);have HEbj:=Lib.hid yn.ext;have hlbj:(World.heap W1).size≤bj:=hn1;generalize World.later W1 yn = W2 at *;clear hn1 hn2 hn3 hn4 hn5 yn
        have HT:=Lib.hid (HBbt.out.later (Ext.trans HEbi.out HEbj.out))
        have HE2:Hid (Ext w W2):=Lib.hid (Ext.trans HEbt.out (Ext.trans HEbi.out HEbj.out))
        have HRT:Hid (RdE W2 (.slice (some ⟨bt,0,none⟩) 3 3) [oneE,oneE,oneE]):=Lib.hid (Rd.ofArr (xs:=[oneE,oneE,oneE]) Ent.len HT.out rfl (by simp [maxLen]))
        have HRI:Hid (RdI W2 (.slice (some ⟨bi,0,none⟩) 2 2) [0,3]):=Lib.hid (Rd.ofArr (enc:=ics) (k:=1) (xs:=[0,3]) (fun _=>rfl) (HBbi.out.later HEbj.out) rfl (by simp [maxLen]))
        have HRJ:Hid (RdI W2 (.slice (some ⟨bj,0,none⟩) 1 1) [0]):=Lib.hid (Rd.ofArr (enc:=ics) (k:=1) (xs:=[0]) (fun _=>rfl) HBbj.out rfl (by simp [maxLen]))
        have htl:=HT.out.lt
        have e0:=HT.out.cell (k:=0) (by simp)
        have e1:=HT.out.cell (k:=1) (by simp)
        have e2:=HT.out.cell (k:=2) (by simp)
        have e3:=HT.out.cell (k:=3) (by simp)
        have e4:=HT.out.cell (k:=4) (by simp)
        have e5:=HT.out.cell (k:=5) (by simp)
        simp at e0 e1 e2 e3 e4 e5
        have hs2:=HE2.out.size
        have hil:=HBbi.out.lt
        have hjl:=HBbj.out.lt
        have hs3:=HEbj.out.size
        clear HBbt HBbi HBbj HEbt HEbi HEbj HT
        repeat' (first|refine X_q ?_|refine X_nil ?_|refine W_seqk (fun K hK=>?_)|refine W_seqr ?_|refine W_block ?_|(refine X_s (fun x K hK=>?_);go_simp;refine hK _ _ (Ext.alloc _ _) ?_;clear hK K;refine X_al x ?_;generalize (World.later _ x).heap.size = bn;intro yn hn1 hn2 hn3 hn4 hn5;clear x)|go_step)
        have hx0:ActsAt w (W2.later yn) (.slice (some ⟨bn,0,none⟩) 5 5) (propsV bt bi bj) :=
          ActsAt.made (xs:=propsV bt bi bj) rfl hn5.out (by simp [maxLen]) (by omega) (fun a ha=>by
            simp only [propsV,List.mem_cons,List.not_mem_nil,or_false] at ha
            rcases ha with rfl|rfl|rfl|rfl|rfl
            · exact ⟨⟨HRI.out.later yn.ext,fun k hk=>.inr (by cases hk;intro h;simp only at h;omega)⟩,RdM.nil _,RdM.nil _⟩
            · exact ⟨RdM.nil _,⟨HRT.out.later yn.ext,fun k hk=>.inr (by cases hk;intro h;simp only at h;omega)⟩,RdM.nil _⟩
            · exact ⟨⟨HRJ.out.later yn.ext,fun k hk=>.inr (by cases hk;intro h;simp only at h;omega)⟩,RdM.nil _,RdM.nil _⟩
            · exact ActW.fit_plain _ _ rfl rfl rfl
            · exact ActW.fit_plain _ _ rfl rfl rfl)
        have HX:=Lib.hid hx0
        have HE:=Lib.hid (Ext.trans HE2.out yn.ext)
        generalize World.later _ yn = W0 at *
        clear hx0 hn1 hn2 hn3 hn4 hn5 yn e0 e1 e2 e3 e4 e5 htl HRT HRI HRJ hs2 hil hjl hs3 HE2
        refine W_loops [0,1,4,6,7] (fun n vs w'=>∃ (i:Nat) (u:Value) (l':List ActW),Ext w w'∧i + n = lb.length∧l'.length≤2 * i + 5∧vs = [.slice A0 lb.length c0,.slice A1 lf.length c1,.bool false,u,.int .i64 i]∧ActsAt w w' u l') lb.length hd hA (by decide) ⟨0,_,_,HE.out,by omega,by simp,by simp,HX.out⟩ ?_
        clear hd hA A;intro n vs B w' hd hA _ ⟨i,u,l',hE,hi,hl',hvs,hX⟩;subst hvs
        replace HX:=Lib.hid hX
        obtain ⟨y,rfl⟩:=hE.get
        clear hX hE HE
        obtain ⟨A2,m2,c2,rfl⟩:=own_slice HX.out.own
        simp only [List.zip_cons_cons,List.zip_nil_right,List.zip_nil_left]
        by_cases hlt:i < lb.length
        · obtain ⟨q,bq,oq,HQ,rfl,hbq,q0,q1⟩:=HR2.out i (by omega)
          obtain ⟨x,bx,ox,HXB,rfl,hbx,x0⟩:=HR1.out i hlt
          have hii:(i:Int) < lb.length:=by omega
          have hif:(i:Int) < lf.length:=by omega
          obtain ⟨⟨qa1,qa2⟩,⟨qb1,qb2⟩⟩:=HQI.out q (mem_of_get HQ.out)
          obtain ⟨xa1,xa2⟩:=HBI.out x (mem_of_get HXB.out)
          repeat' (first|refine X_q ?_|refine X_nil ?_|refine W_seqk (fun K hK=>?_)|refine W_seqr ?_|refine W_skip ?_|refine W_block ?_|refine W_tt ?_|go_step)
          refine W_cut [0,1,4,6,7,9] (fun vs w2=>∃ (b9:Nat) (f:Fetch),vs = [.slice (some ⟨bx,ox,none⟩) lb.length c0,.slice (some ⟨bq,oq,none⟩) lf.length c1,.bool false,.slice A2 m2 c2,.int .i64 i,.pointer (some ⟨b9,0,none⟩)]∧(w.later y).heap.size≤b9∧Ext (w.later y) w2∧Blk w2 b9 47 5 (fun k=>f.cs.getD k undef)) hd hA (by decide) ?_ ?_
          · have hq5:q.b % 5 = 0∨q.b % 5 = 1∨q.b % 5 = 2∨q.b % 5 = 3∨q.b % 5 = 4:=by omega
            rcases hq5 with h5|h5|h5|h5|h5
            · rw [h5]
              refine W_fork [16] (by kernel_rfl) ?_
              refine F_q (i:=0) ?_
              refine F_q (i:=1) ?_
              refine F_q (i:=2) ?_
              refine F_q (i:=3) ?_
              refine F_q (i:=4) ?_
              refine F_q (i:=5) ?_
              refine F_q (i:=6) ?_
              refine F_q (i:=7) ?_
              refine F_q (i:=8) ?_
              refine F_q (i:=10) ?_
              refine F_q (i:=13) ?_
              refine F_alts (i:=9) (rs:=[15]) (S_cons ?_ (S_cons ?_ S_end))
              · refine S_s (fun z K hK=>?_)
                go_simp;refine hK _ _ _ (Ext.alloc _ _) (Ext.refl _) ?_;clear hK K;refine F_al z ?_;generalize (World.later _ z).heap.size = b69;intro y69 p1 p2 p3 p4 p5;clear z
                refine F_q (i:=11) ?_
                refine F_q (i:=12) ?_
                refine F_q (i:=14) ?_
                refine F_alts (i:=15) (rs:=[]) (S_cons ?_ S_end)
                refine S_s (fun z K hK=>?_)
                go_simp;refine hK _ _ _ (Ext.alloc _ _) (Ext.refl _) ?_;clear hK K;refine F_al z ?_;generalize (World.later _ z).heap.size = b9;intro y9 r1 r2 r3 r4 r5;clear z
                have hs9:(w.later y).heap.size≤((w.later y).later y69).heap.size:=y69.2.size
                refine F_alts (i:=16) (rs:=[]) (S_cons ?_ S_end)
                refine S_store (off:=0) (Blk.new r5.out) (fun W5 hM5 hB5=>?_)
                exact F_nil (by kernel_rfl) ⟨rfl,_,_,rfl,hd,hA,b9,⟨1 + q.a % 3,2,0,0,0⟩,by simp,by omega,Ext.fresh (by simp) hM5 (fun k hk=>by subst hk;omega),hB5.congr (g':=fun k=>(Fetch.cs ⟨1 + q.a % 3,2,0,0,0⟩).getD k undef) (all5 ⟨rfl,rfl,rfl,rfl,rfl⟩)⟩
              · refine S_s (fun z K hK=>?_)
                go_simp;refine hK _ _ _ (Ext.alloc _ _) (Ext.refl _) ?_;clear hK K;refine F_al z ?_;generalize (World.later _ z).heap.size = b9;intro y9 r1 r2 r3 r4 r5;clear z
                refine F_alts (i:=9) (rs:=[]) (S_cons ?_ S_end)
                refine S_s (fun z K hK=>?_)
                go_simp;refine hK _ _ _ (Ext.alloc _ _) (Ext.refl _) ?_;clear hK K;refine F_al z ?_;generalize (World.later _ z).heap.size = b69;intro y69 p1 p2 p3 p4 p5;clear z
                refine F_q (i:=11) ?_
                refine F_q (i:=12) ?_
                refine F_q (i:=14) ?_
                refine F_alts (i:=16) (rs:=[]) (S_cons ?_ S_end)
                refine S_store (off:=0) ((Blk.new r5.out).later y69.2) (fun W5 hM5 hB5=>?_)
                exact F_nil (by kernel_rfl) ⟨rfl,_,_,rfl,hd,hA,b9,⟨1 + q.a % 3,2,0,0,0⟩,by simp,by omega,Ext.fresh (by simp) hM5 (fun k hk=>by subst hk;omega),hB5.congr (g':=fun k=>(Fetch.cs ⟨1 + q.a % 3,2,0,0,0⟩).getD k undef) (all5 ⟨rfl,rfl,rfl,rfl,rfl⟩)⟩
            · rw [h5]
              refine W_fork [16] (by kernel_rfl) ?_
              refine F_q (i:=0) ?_
              refine F_q (i:=1) ?_
              refine F_q (i:=2) ?_
              refine F_q (i:=3) ?_
              refine F_q (i:=4) ?_
              refine F_q (i:=5) ?_
              refine F_q (i:=6) ?_
              refine F_q (i:=7) ?_
              refine F_q (i:=8) ?_
              refine F_q (i:=10) ?_
              refine F_q (i:=13) ?_
              refine F_alts (i:=9) (rs:=[15]) (S_cons ?_ (S_cons ?_ S_end))
              · refine S_s (fun z K hK=>?_)
                go_simp;refine hK _ _ _ (Ext.alloc _ _) (Ext.refl _) ?_;clear hK K;refine F_al z ?_;generalize (World.later _ z).heap.size = b69;intro y69 p1 p2 p3 p4 p5;clear z
                refine F_q (i:=11) ?_
                refine F_q (i:=12) ?_
                refine F_q (i:=14) ?_
                refine F_alts (i:=15) (rs:=[]) (S_cons ?_ S_end)
                refine S_s (fun z K hK=>?_)
                go_simp;refine hK _ _ _ (Ext.alloc _ _) (Ext.refl _) ?_;clear hK K;refine F_al z ?_;generalize (World.later _ z).heap.size = b9;intro y9 r1 r2 r3 r4 r5;clear z
                have hs9:(w.later y).heap.size≤((w.later y).later y69).heap.size:=y69.2.size
                refine F_alts (i:=16) (rs:=[]) (S_cons ?_ S_end)
                refine S_store (off:=0) (Blk.new r5.out) (fun W5 hM5 hB5=>?_)
                exact F_nil (by kernel_rfl) ⟨rfl,_,_,rfl,hd,hA,b9,⟨1 + q.a % 3,2,1,1,1⟩,by simp,by omega,Ext.fresh (by simp) hM5 (fun k hk=>by subst hk;omega),hB5.congr (g':=fun k=>(Fetch.cs ⟨1 + q.a % 3,2,1,1,1⟩).getD k undef) (all5 ⟨rfl,rfl,rfl,rfl,rfl⟩)⟩
              · refine S_s (fun z K hK=>?_)
                go_simp;refine hK _ _ _ (Ext.alloc _ _) (Ext.refl _) ?_;clear hK K;refine F_al z ?_;generalize (World.later _ z).heap.size = b9;intro y9 r1 r2 r3 r4 r5;clear z
                refine F_alts (i:=9) (rs:=[]) (S_cons ?_ S_end)
                refine S_s (fun z K hK=>?_)
                go_simp;refine hK _ _ _ (Ext.alloc _ _) (Ext.refl _) ?_;clear hK K;refine F_al z ?_;generalize (World.later _ z).heap.size = b69;intro y69 p1 p2 p3 p4 p5;clear z
                refine F_q (i:=11) ?_
                refine F_q (i:=12) ?_
                refine F_q (i:=14) ?_
                refine F_alts (i:=16) (rs:=[]) (S_cons ?_ S_end)
                refine S_store (off:=0) ((Blk.new r5.out).later y69.2) (fun W5 hM5 hB5=>?_)
                exact F_nil (by kernel_rfl) ⟨rfl,_,_,rfl,hd,hA,b9,⟨1 + q.a % 3,2,1,1,1⟩,by simp,by omega,Ext.fresh (by simp) hM5 (fun k hk=>by subst hk;omega),hB5.congr (g':=fun k=>(Fetch.cs ⟨1 + q.a % 3,2,1,1,1⟩).getD k undef) (all5 ⟨rfl,rfl,rfl,rfl,rfl⟩)⟩
            · rw [h5]
              refine W_fork [16] (by kernel_rfl) ?_
              refine F_q (i:=0) ?_
              refine F_q (i:=1) ?_
              refine F_q (i:=2) ?_
              refine F_q (i:=3) ?_
              refine F_q (i:=4) ?_
              refine F_q (i:=5) ?_
              refine F_q (i:=6) ?_
              refine F_q (i:=7) ?_
              refine F_q (i:=8) ?_
              refine F_q (i:=10) ?_
              refine F_q (i:=13) ?_
              refine F_alts (i:=9) (rs:=[15]) (S_cons ?_ (S_cons ?_ S_end))
              · refine S_s (fun z K hK=>?_)
                go_simp;refine hK _ _ _ (Ext.alloc _ _) (Ext.refl _) ?_;clear hK K;refine F_al z ?_;generalize (World.later _ z).heap.size = b69;intro y69 p1 p2 p3 p4 p5;clear z
                refine F_q (i:=11) ?_
                refine F_q (i:=12) ?_
                refine F_q (i:=14) ?_
                refine F_alts (i:=15) (rs:=[]) (S_cons ?_ S_end)
                refine S_s (fun z K hK=>?_)
                go_simp;refine hK _ _ _ (Ext.alloc _ _) (Ext.refl _) ?_;clear hK K;refine F_al z ?_;generalize (World.later _ z).heap.size = b9;intro y9 r1 r2 r3 r4 r5;clear z
                have hs9:(w.later y).heap.size≤((w.later y).later y69).heap.size:=y69.2.size
                refine F_alts (i:=16) (rs:=[]) (S_cons ?_ S_end)
                refine S_store (off:=0) (Blk.new r5.out) (fun W5 hM5 hB5=>?_)
                exact F_nil (by kernel_rfl) ⟨rfl,_,_,rfl,hd,hA,b9,⟨1 + q.a % 3,2,2,1,2⟩,by simp,by omega,Ext.fresh (by simp) hM5 (fun k hk=>by subst hk;omega),hB5.congr (g':=fun k=>(Fetch.cs ⟨1 + q.a % 3,2,2,1,2⟩).getD k undef) (all5 ⟨rfl,rfl,rfl,rfl,rfl⟩)⟩
              · refine S_s (fun z K hK=>?_)
                go_simp;refine hK _ _ _ (Ext.alloc _ _) (Ext.refl _) ?_;clear hK K;refine F_al z ?_;generalize (World.later _ z).heap.size = b9;intro y9 r1 r2 r3 r4 r5;clear z
                refine F_alts (i:=9) (rs:=[]) (S_cons ?_ S_end)
                refine S_s (fun z K hK=>?_)
                go_simp;refine hK _ _ _ (Ext.alloc _ _) (Ext.refl _) ?_;clear hK K;refine F_al z ?_;generalize (World.later _ z).heap.size = b69;intro y69 p1 p2 p3 p4 p5;clear z
                refine F_q (i:=11) ?_
                refine F_q (i:=12) ?_
                refine F_q (i:=14) ?_
                refine F_alts (i:=16) (rs:=[]) (S_cons ?_ S_end)
                refine S_store (off:=0) ((Blk.new r5.out).later y69.2) (fun W5 hM5 hB5=>?_)
                exact F_nil (by kernel_rfl) ⟨rfl,_,_,rfl,hd,hA,b9,⟨1 + q.a % 3,2,2,1,2⟩,by simp,by omega,Ext.fresh (by simp) hM5 (fun k hk=>by subst hk;omega),hB5.congr (g':=fun k=>(Fetch.cs ⟨1 + q.a % 3,2,2,1,2⟩).getD k undef) (all5 ⟨rfl,rfl,rfl,rfl,rfl⟩)⟩
            · rw [h5]
              refine W_fork [16] (by kernel_rfl) ?_
              refine F_q (i:=0) ?_
              refine F_q (i:=1) ?_
              refine F_q (i:=2) ?_
              refine F_q (i:=3) ?_
              refine F_q (i:=4) ?_
              refine F_q (i:=5) ?_
              refine F_q (i:=6) ?_
              refine F_q (i:=7) ?_
              refine F_q (i:=8) ?_
              refine F_q (i:=10) ?_
              refine F_q (i:=13) ?_
              refine F_alts (i:=9) (rs:=[15]) (S_cons ?_ (S_cons ?_ S_end))
              · refine S_s (fun z K hK=>?_)
                go_simp;refine hK _ _ _ (Ext.alloc _ _) (Ext.refl _) ?_;clear hK K;refine F_al z ?_;generalize (World.later _ z).heap.size = b69;intro y69 p1 p2 p3 p4 p5;clear z
                refine F_q (i:=11) ?_
                refine F_q (i:=12) ?_
                refine F_q (i:=14) ?_
                refine F_alts (i:=15) (rs:=[]) (S_cons ?_ S_end)
                refine S_s (fun z K hK=>?_)
                go_simp;refine hK _ _ _ (Ext.alloc _ _) (Ext.refl _) ?_;clear hK K;refine F_al z ?_;generalize (World.later _ z).heap.size = b9;intro y9 r1 r2 r3 r4 r5;clear z
                have hs9:(w.later y).heap.size≤((w.later y).later y69).heap.size:=y69.2.size
                refine F_alts (i:=16) (rs:=[]) (S_cons ?_ S_end)
                refine S_store (off:=0) (Blk.new r5.out) (fun W5 hM5 hB5=>?_)
                exact F_nil (by kernel_rfl) ⟨rfl,_,_,rfl,hd,hA,b9,⟨1 + q.a % 3,2,3,1,3⟩,by simp,by omega,Ext.fresh (by simp) hM5 (fun k hk=>by subst hk;omega),hB5.congr (g':=fun k=>(Fetch.cs ⟨1 + q.a % 3,2,3,1,3⟩).getD k undef) (all5 ⟨rfl,rfl,rfl,rfl,rfl⟩)⟩
              · refine S_s (fun z K hK=>?_)
                go_simp;refine hK _ _ _ (Ext.alloc _ _) (Ext.refl _) ?_;clear hK K;refine F_al z ?_;generalize (World.later _ z).heap.size = b9;intro y9 r1 r2 r3 r4 r5;clear z
                refine F_alts (i:=9) (rs:=[]) (S_cons ?_ S_end)
                refine S_s (fun z K hK=>?_)
                go_simp;refine hK _ _ _ (Ext.alloc _ _) (Ext.refl _) ?_;clear hK K;refine F_al z ?_;generalize (World.later _ z).heap.size = b69;intro y69 p1 p2 p3 p4 p5;clear z
                refine F_q (i:=11) ?_
                refine F_q (i:=12) ?_
                refine F_q (i:=14) ?_
                refine F_alts (i:=16) (rs:=[]) (S_cons ?_ S_end)
                refine S_store (off:=0) ((Blk.new r5.out).later y69.2) (fun W5 hM5 hB5=>?_)
                exact F_nil (by kernel_rfl) ⟨rfl,_,_,rfl,hd,hA,b9,⟨1 + q.a % 3,2,3,1,3⟩,by simp,by omega,Ext.fresh (by simp) hM5 (fun k hk=>by subst hk;omega),hB5.congr (g':=fun k=>(Fetch.cs ⟨1 + q.a % 3,2,3,1,3⟩).getD k undef) (all5 ⟨rfl,rfl,rfl,rfl,rfl⟩)⟩
            · rw [h5]
              refine W_fork [16] (by kernel_rfl) ?_
              refine F_q (i:=0) ?_
              refine F_q (i:=1) ?_
              refine F_q (i:=2) ?_
              refine F_q (i:=3) ?_
              refine F_q (i:=4) ?_
              refine F_q (i:=5) ?_
              refine F_q (i:=6) ?_
              refine F_q (i:=7) ?_
              refine F_q (i:=8) ?_
              refine F_q (i:=10) ?_
              refine F_q (i:=13) ?_
              refine F_alts (i:=9) (rs:=[15]) (S_cons ?_ (S_cons ?_ S_end))
              · refine S_s (fun z K hK=>?_)
                go_simp;refine hK _ _ _ (Ext.alloc _ _) (Ext.refl _) ?_;clear hK K;refine F_al z ?_;generalize (World.later _ z).heap.size = b69;intro y69 p1 p2 p3 p4 p5;clear z
                refine F_q (i:=11) ?_
                refine F_q (i:=12) ?_
                refine F_q (i:=14) ?_
                refine F_alts (i:=15) (rs:=[]) (S_cons ?_ S_end)
                refine S_s (fun z K hK=>?_)
                go_simp;refine hK _ _ _ (Ext.alloc _ _) (Ext.refl _) ?_;clear hK K;refine F_al z ?_;generalize (World.later _ z).heap.size = b9;intro y9 r1 r2 r3 r4 r5;clear z
                have hs9:(w.later y).heap.size≤((w.later y).later y69).heap.size:=y69.2.size
                refine F_alts (i:=16) (rs:=[]) (S_cons ?_ S_end)
                refine S_store (off:=0) (Blk.new r5.out) (fun W5 hM5 hB5=>?_)
                exact F_nil (by kernel_rfl) ⟨rfl,_,_,rfl,hd,hA,b9,⟨1 + q.a % 3,2,4,2,4⟩,by simp,by omega,Ext.fresh (by simp) hM5 (fun k hk=>by subst hk;omega),hB5.congr (g':=fun k=>(Fetch.cs ⟨1 + q.a % 3,2,4,2,4⟩).getD k undef) (all5 ⟨rfl,rfl,rfl,rfl,rfl⟩)⟩
              · refine S_s (fun z K hK=>?_)
                go_simp;refine hK _ _ _ (Ext.alloc _ _) (Ext.refl _) ?_;clear hK K;refine F_al z ?_;generalize (World.later _ z).heap.size = b9;intro y9 r1 r2 r3 r4 r5;clear z
                refine F_alts (i:=9) (rs:=[]) (S_cons ?_ S_end)
                refine S_s (fun z K hK=>?_)
                go_simp;refine hK _ _ _ (Ext.alloc _ _) (Ext.refl _) ?_;clear hK K;refine F_al z ?_;generalize (World.later _ z).heap.size = b69;intro y69 p1 p2 p3 p4 p5;clear z
                refine F_q (i:=11) ?_
                refine F_q (i:=12) ?_
                refine F_q (i:=14) ?_
                refine F_alts (i:=16) (rs:=[]) (S_cons ?_ S_end)
                refine S_store (off:=0) ((Blk.new r5.out).later y69.2) (fun W5 hM5 hB5=>?_)
                exact F_nil (by kernel_rfl) ⟨rfl,_,_,rfl,hd,hA,b9,⟨1 + q.a % 3,2,4,2,4⟩,by simp,by omega,Ext.fresh (by simp) hM5 (fun k hk=>by subst hk;omega),hB5.congr (g':=fun k=>(Fetch.cs ⟨1 + q.a % 3,2,4,2,4⟩).getD k undef) (all5 ⟨rfl,rfl,rfl,rfl,rfl⟩)⟩
          · clear hd hA B;intro vs B w2 hd hA ⟨b9,f,hvs,hb9,hE2,hBF⟩;subst hvs
            have HBF:=Lib.hid hBF
            obtain ⟨y2,rfl⟩:=hE2.get
            clear hBF hE2
            have HX2:=Lib.hid (HX.out.later y2.ext)
            have HEb:Hid (Ext w ((w.later y).later y2)):=Lib.hid (by simp)
            have hxb:bx < ((w.later y).later y2).heap.size:=Nat.lt_of_lt_of_le hbx HEb.out.size
            have x0b:((w.later y).later y2).cell? ⟨bx,ox + i,none⟩ = some (.int .u8 x):=(World.cell?_of_block (HEb.out.block bx hbx (fun h=>h))).trans x0
            clear HX x0 q0 q1 hbx hbq
            generalize World.later _ y2 = Wb at *
            repeat' (first|refine X_q ?_|refine X_nil ?_|refine W_seqk (fun K hK=>?_)|refine W_seqr ?_|refine W_block ?_|go_step)
            refine W_loops [0,1,4,6,7,9,10,11] (fun j vs w3=>∃ (k:Nat) (bs:List Int) (v':Value),k + j = 4∧vs = [.slice (some ⟨bx,ox,none⟩) lb.length c0,.slice (some ⟨bq,oq,none⟩) lf.length c1,.bool false,.slice A2 m2 c2,.int .i64 i,.pointer (some ⟨b9,0,none⟩),v',.int .i64 k]∧Ext Wb w3∧OwnI w3 v' bs∧(∀ g,v'.ownBlock = some g→Wb.heap.size≤g)∧bs.length≤k) 4 hd hA (by decide) ⟨0,[],_,by omega,by simp,Ext.refl _,Own.nil _,(fun g h=>by cases h),by simp⟩ ?_
            clear hd hA B;intro j vs B w3 hd hA _ ⟨k,bs,v',hk,hvs,hE3,hO,hF,hbs⟩;subst hvs
            have Ho:=Lib.hid hO
            have Hf:=Lib.hid hF
            obtain ⟨A3,m3,c3,rfl⟩:=own_slice hO
            obtain ⟨y3,rfl⟩:=hE3.get
            clear hE3 hO hF
            simp only [List.zip_cons_cons,List.zip_nil_right,List.zip_nil_left]
            by_cases hk4:k < 4
            · have hki:(k:Int) < 4:=by omega
              repeat' (first|refine X_q ?_|refine X_nil ?_|refine W_seqk (fun K hK=>?_)|refine W_seqr ?_|refine W_skip ?_|refine W_block ?_|(refine X_s (fun x K hK=>?_);go_simp;refine hK _ _ (Ext.alloc _ _) ?_;clear hK K;refine X_al x ?_;generalize (World.later _ x).heap.size = bn;intro yn hn1 hn2 hn3 hn4 hn5;clear x)|refine W_tt ?_|refine W_test (fun hc=>?_) (fun hc=>?_)|go_step)
              · refine X_push (w0:=Wb) (xs:=bs) (by simp) elemInt (Ho.out.later yn.ext) Hf.out (Rd.one (x:=(k:Int)) hn2 hn3 rfl) (by simp;omega) (by unfold maxLen;simp;omega) (fun y5 v5 hO5 hF5 hN5 hM5=>?_)
                have HO5:=Lib.hid hO5
                have HF5:=Lib.hid hF5
                clear hO5 hF5 hN5 hM5
                repeat' (first|refine X_q ?_|refine X_nil ?_|refine W_seqr ?_|go_step)
                exact ⟨_,_,rfl,hd,hA,j - 1,by omega,k + 1,bs ++ [(k:Int)],_,by omega,by simp,y5.ext,HO5.out,HF5.out,by simp;omega⟩
              · exact ⟨_,_,rfl,hd,hA,j - 1,by omega,k + 1,bs,_,by omega,by simp,y3.ext,Ho.out,Hf.out,by omega⟩
            · have hki:¬ (k:Int) < 4:=by omega
              obtain rfl:bs.length = m3:=Rd.length (Ho.out.rd (enc:=ics) (k:=1) (fun _=>rfl))
              have HBF3:=Lib.hid (HBF.out.later y3.ext)
              have HX3:=Lib.hid (HX2.out.later y3.ext)
              have f0:=HBF3.out.cell (k:=0) (by simp)
              have f1:=HBF3.out.cell (k:=1) (by simp)
              have f2:=HBF3.out.cell (k:=2) (by simp)
              have f3:=HBF3.out.cell (k:=3) (by simp)
              have f4:=HBF3.out.cell (k:=4) (by simp)
              simp [Fetch.cs] at f0 f1 f2 f3 f4
              have hfl:=HBF3.out.lt
              have hwb:=HEb.out.size
              repeat' (first|refine X_q ?_|refine X_nil ?_|refine W_seqk (fun K hK=>?_)|refine W_seqr ?_|refine W_exit ?_|(refine X_s (fun x K hK=>?_);go_simp;refine hK _ _ (Ext.alloc _ _) ?_;clear hK K;refine X_al x ?_;generalize (World.later _ x).heap.size = bn;intro yn hn1 hn2 hn3 hn4 hn5;clear x)|refine W_ff ?_|go_step)
              refine X_acts (w0:=w) (Ext.trans HEb.out (by simp)) elemAct (HX3.out.later yn.ext) (Rd.built (xs:=[⟨{ ActD.zero with kind:=5,fetch:=f },Sl.nil,Sl.nil,Sl.nil⟩,⟨{ ActD.zero with kind:=7,list:=bs },Sl.nil,Sl.nil,⟨A3,bs.length,c3⟩⟩]) hn2 hn3 rfl (by simp [maxLen])) (fun a ha=>by
                simp only [List.mem_cons,List.not_mem_nil,or_false] at ha
                rcases ha with rfl|rfl
                · exact ActW.fit_plain _ _ rfl rfl rfl
                · exact ⟨RdM.nil _,RdM.nil _,⟨(Ho.out.rd (enc:=ics) (k:=1) (fun _=>rfl)).later yn.ext,fun g hg=>.inr (fun h=>by have h5:=Hf.out g hg;have h6:=HX2.out.own.lt g h;omega)⟩⟩) (by simp;omega) (by unfold maxLen;simp;omega) (fun y4 v4 hO hM=>?_)
              have HO:=Lib.hid hO
              clear hO hM
              repeat' (first|refine X_q ?_|refine X_nil ?_|refine W_seqr ?_|go_step)
              exact ⟨_,_,rfl,hd,hA,n - 1,by omega,i + 1,_,_,y4.ext,by omega,by simp;omega,by simp,HO.out⟩
        · have hii:¬ (i:Int) < lb.length:=by omega
          have hml:l'.length = m2:=Rd.length HX.out.rd
          have HPL:=Lib.hid (HX.out.play 0 1)
          repeat' (first|refine X_pure Tryz.func18 (HPL.out) ?_|refine X_q ?_|refine X_nil ?_|refine W_seqk (fun K hK=>?_)|refine W_seqr ?_|refine W_ret ?_|refine W_exit ?_|refine W_ff ?_|go_step)
          exact Body_ret hd ⟨rfl,by simp⟩
      · have g3i:(20:Int) < lf.length:=by omega
        clear HR1 HR2
        refine Fn_of Tryz.func7 rfl (Nat.le_of_ble_eq_true rfl) ?_;intro A hd hA;simp only [ix,Nat.reduceAdd];replace hA:A.tmps.size = 101:=hA
        repeat' (first|refine X_pure Tryz.func12 (known11_calls) ?_|refine X_gt ?_|refine X_q ?_|refine X_nil ?_|refine W_seqk (fun K hK=>?_)|refine W_seqr ?_|refine W_ret ?_|refine W_tt ?_|go_step)
        exact Body_ret hd ⟨rfl,by simp⟩
    · have g2i:(lf.length:Int) < lb.length:=by omega
      clear HR1 HR2
      refine Fn_of Tryz.func7 rfl (Nat.le_of_ble_eq_true rfl) ?_;intro A hd hA;simp only [ix,Nat.reduceAdd];replace hA:A.tmps.size = 101:=hA
      repeat' (first|refine X_pure Tryz.func12 (known11_calls) ?_|refine X_gt ?_|refine X_q ?_|refine X_g ?_|refine X_nil ?_|refine W_seqk (fun K hK=>?_)|refine W_seqr ?_|refine W_ret ?_|refine W_tt ?_|go_step)
      exact Body_ret hd ⟨rfl,by simp⟩
  · have g1i:(10:Int) < lb.length:=by omega
    clear HR1 HR2
    refine Fn_of Tryz.func7 rfl (Nat.le_of_ble_eq_true rfl) ?_;intro A hd hA;simp only [ix,Nat.reduceAdd];replace hA:A.tmps.size = 101:=hA
    repeat' (first|refine X_pure Tryz.func12 (known11_calls) ?_|refine X_q ?_|refine X_g ?_|refine X_nil ?_|refine W_seqk (fun K hK=>?_)|refine W_seqr ?_|refine W_ret ?_|refine W_tt ?_|go_step)
    exact Body_ret hd ⟨rfl,by simp⟩
end Go.Ws
