/- Lemmas for the statements of this layer (joined texts); no condition. -/
import Derived.Test.YtlpjgegbdmkmdaaGreatBb03
import Derived.Test.YtlpjgegbdmkmdaaGreatBb04
import Derived.Test.YtlpjgegbdmkmdaaGreatBb07
import Derived.Test.YtlpjgegbdmkmdaaGreatBb09
namespace Go.Ws
open Go Go.RowKit Go.Proofs
set_option linter.unusedVariables false
set_option linter.unusedSimpArgs false
def highB (l:List Ent) (i:Int):Int:=l.foldl (fun n e=>if e.id = i then max n e.num else n) 0
def markB (l:List Ent) (i:Int):Int:=l.foldl (fun n e=>if e.id = i∧1 < e.kind then max n e.num else n) 0
def nextB (l:List Ent) (i num:Int):Int:=l.foldl (fun n e=>if e.id = i∧e.num = num∧e.kind = 1 then max n (e.seq + 1) else n) 0
theorem gmax_eq (a b:Int):gmax a b = max a b:=by unfold gmax;rw [Int.max_def];split <;> split <;> omega
theorem highB_snoc (l:List Ent) (e:Ent) (i:Int):highB (l ++ [e]) i = if e.id = i then max (highB l i) e.num else highB l i:=by simp [highB,List.foldl_append]
theorem markB_snoc (l:List Ent) (e:Ent) (i:Int):markB (l ++ [e]) i = if e.id = i∧1 < e.kind then max (markB l i) e.num else markB l i:=by simp [markB,List.foldl_append]
theorem nextB_snoc (l:List Ent) (e:Ent) (i num:Int):nextB (l ++ [e]) i num = if e.id = i∧e.num = num∧e.kind = 1 then max (nextB l i num) (e.seq + 1) else nextB l i num:=by simp [nextB,List.foldl_append]
theorem wr_high (l:List Ent) (i:Int):(wrOf l i).high = highB l i:=by
  induction l using snocInd with
  | h0=>rfl
  | hs l e ih =>
    rw [wrOf_snoc,highB_snoc]
    by_cases hi:e.id = i
    · rw [if_pos hi,if_pos hi,← ih,← gmax_eq]
      unfold Wr.step
      split <;> rfl
    · rw [if_neg hi,if_neg hi,ih]
theorem wr_marked (l:List Ent) (i:Int):(∀ e ∈ l,1≤e.kind)→(wrOf l i).marked = markB l i:=by
  induction l using snocInd with
  | h0=>intro _;rfl
  | hs l e ih =>
    intro hk
    have ih:=ih (fun x hx=>hk x (by simp [hx]))
    have he:=hk e (by simp)
    rw [wrOf_snoc,markB_snoc]
    by_cases hi:e.id = i
    · rw [if_pos hi]
      unfold Wr.step
      by_cases h1:e.kind ≠ 1
      · rw [if_pos h1,if_pos ⟨hi,by omega⟩,← ih,← gmax_eq]
      · have h2:¬ (e.id = i∧1 < e.kind):=fun h=>by have:=h.2;omega
        rw [if_neg h1,if_neg h2,← ih]
    · rw [if_neg hi,if_neg (fun h=>hi h.1),ih]
theorem wr_next (l:List Ent) (i num:Int):((wrOf l i).next num).getD 0 = nextB l i num:=by
  induction l using snocInd with
  | h0=>rfl
  | hs l e ih =>
    rw [wrOf_snoc,nextB_snoc]
    by_cases hi:e.id = i
    · rw [if_pos hi]
      unfold Wr.step
      by_cases h1:e.kind ≠ 1
      · rw [if_pos h1,if_neg (fun h=>h1 h.2.2),← ih]
      · rw [if_neg h1]
        simp only [upd]
        by_cases hn:num = e.num
        · subst hn
          rw [if_pos rfl,if_pos ⟨hi,rfl,by omega⟩,← ih,← gmax_eq];rfl
        · rw [if_neg hn,if_neg (fun h=>hn h.2.1.symm),ih]
    · rw [if_neg hi,if_neg (fun h=>hi h.1),ih]
end Go.Ws
namespace Go.Ws
open Go Go.RowKit Go.Proofs
set_option maxHeartbeats 2000000
set_option maxRecDepth 100000
set_option linter.unusedVariables false
set_option linter.unusedSimpArgs false
abbrev RdO:=Rd Opn.cs 2
abbrev wrV (h n m:Int) (u:Value):Value:=.agg #[.int .i64 h,.int .i64 n,.int .i64 m,u]
def otherB (os:List Opn) (num:Int):Bool:=os.any fun o=>o.num != num
theorem rother_calls (os : List Opn) (u : Value) (h n m num : Int) (w : World) (hu : RdO w u os) :
    Pure Tryz.prog 108 #[wrV h n m u,.int .i64 num] w (.bool (otherB os num)):=by
  obtain ⟨A1,c1,rfl,hc1,hcm1,HR1⟩:=hu.opn
  clear hu
  refine Fn_of Tryz.func108 rfl (Nat.le_of_ble_eq_true rfl) ?_;intro A hd hA;simp only [ix,Nat.reduceAdd];replace hA:A.tmps.size = 21:=hA
  repeat' (first|refine X_q ?_|refine X_nil ?_|refine W_seqk (fun K hK=>?_)|refine W_seqr ?_|refine W_block ?_|(refine X_s (fun x K hK=>?_);go_simp;refine hK _ _ (Ext.alloc _ _) ?_;clear hK K;refine X_al x ?_;generalize (World.later _ x).heap.size = bn;intro yn hn1 hn2 hn3 hn4 hn5;clear x)|go_step)
  refine W_loops [1,2,5] (fun n vs w'=>∃ k:Nat,w' = w.later yn∧k + n = os.length∧vs = [.int .i64 num,.pointer (some ⟨bn,0,none⟩),.int .i64 k]∧otherB (os.take k) num = false) os.length hd hA (by decide) ⟨0,rfl,by omega,by simp,by simp [otherB]⟩ ?_
  clear hd hA A;intro n2 vs B w' hd hA _ ⟨k,hw,hk,hvs,hm⟩;subst hw hvs
  simp only [List.zip_cons_cons,List.zip_nil_right,List.zip_nil_left]
  have Hm:=Lib.hid hm;clear hm
  by_cases hlt:k < os.length
  · obtain ⟨x,b1,o1,HX,rfl,hb1,d0,d1⟩:=HR1.out k hlt
    repeat' (first|refine X_q ?_|refine X_nil ?_|refine W_seqk (fun K hK=>?_)|refine W_seqr ?_|refine W_ret ?_|refine W_skip ?_|refine W_block ?_|refine W_tt ?_|refine W_test (fun hc=>?_) (fun hc=>?_)|go_step)
    · refine Body_ret hd ⟨congrArg Value.bool ?_,by simp⟩
      simp at hc
      simp [otherB]
      exact ⟨x,mem_of_get HX.out,hc⟩
    · refine ⟨_,_,rfl,hd,hA,n2 - 1,by omega,k + 1,trivial,by omega,by simp,?_⟩
      have:=Hm.out
      unfold otherB at *
      rw [take_snoc HX.out,List.any_append,this]
      simpa using hc
  · repeat' (first|refine X_q ?_|refine X_nil ?_|refine W_seqk (fun K hK=>?_)|refine W_seqr ?_|refine W_ret ?_|refine W_exit ?_|refine W_ff ?_|go_step)
    obtain rfl:k = os.length:=by omega
    refine Body_ret hd ⟨congrArg Value.bool ?_,by simp⟩
    have:=Hm.out
    rw [List.take_length] at this
    simp [this]
abbrev wrG (h n m:Int) (u:Value):Nat→Value:=fun k=>(#[.int .i64 h,.int .i64 n,.int .i64 m,u]:Array Value).getD k undef
theorem wrG_put0 {W:World} {b:Nat} {E:TypeId} {h n m h':Int} {u:Value} (B:Blk W b E 4 (put (wrG h n m u) 0 [.int .i64 h'])):Blk W b E 4 (wrG h' n m u):=B.congr fun k hk=>by
  rw [put_one];obtain rfl|rfl|rfl|rfl:k = 0∨k = 1∨k = 2∨k = 3:=by omega
  all_goals rfl
theorem wrG_put1 {W:World} {b:Nat} {E:TypeId} {h n m h':Int} {u:Value} (B:Blk W b E 4 (put (wrG h n m u) 1 [.int .i64 h'])):Blk W b E 4 (wrG h h' m u):=B.congr fun k hk=>by
  rw [put_one];obtain rfl|rfl|rfl|rfl:k = 0∨k = 1∨k = 2∨k = 3:=by omega
  all_goals rfl
theorem wrG_put2 {W:World} {b:Nat} {E:TypeId} {h n m h':Int} {u:Value} (B:Blk W b E 4 (put (wrG h n m u) 2 [.int .i64 h'])):Blk W b E 4 (wrG h n h' u):=B.congr fun k hk=>by
  rw [put_one];obtain rfl|rfl|rfl|rfl:k = 0∨k = 1∨k = 2∨k = 3:=by omega
  all_goals rfl
theorem Blk.wr {W:World} {b:Nat} {E:TypeId} {h n m:Int} {u:Value} (B:Blk W b E 4 (wrG h n m u)):b < W.heap.size∧W.cell? ⟨b,0,none⟩ = some (.int .i64 h)∧W.cell? ⟨b,1,none⟩ = some (.int .i64 n)∧W.cell? ⟨b,2,none⟩ = some (.int .i64 m)∧W.cell? ⟨b,3,none⟩ = some u :=
  ⟨B.lt,B.cell (k:=0) (by omega),B.cell (k:=1) (by omega),B.cell (k:=2) (by omega),B.cell (k:=3) (by omega)⟩
theorem slice_of1 {W:World} {α:Type} {en:α→List Value} {k:Nat} {v:Value} {xs:List α} (h:Rd en k W v xs):∃ A n c,v = .slice A n c:=by obtain ⟨A,c,h,_⟩:=h;exact ⟨_,_,_,h⟩
theorem highB_take {l:List Ent} {k:Nat} {e:Ent} (id:Int) (h:l[k]? = some e):highB (l.take (k + 1)) id = if e.id = id then max (highB (l.take k) id) e.num else highB (l.take k) id:=by rw [take_snoc h,highB_snoc]
theorem markB_take {l:List Ent} {k:Nat} {e:Ent} (id:Int) (h:l[k]? = some e):markB (l.take (k + 1)) id = if e.id = id∧1 < e.kind then max (markB (l.take k) id) e.num else markB (l.take k) id:=by rw [take_snoc h,markB_snoc]
theorem nextB_take {l:List Ent} {k:Nat} {e:Ent} (id num:Int) (h:l[k]? = some e):nextB (l.take (k + 1)) id num = if e.id = id∧e.num = num∧e.kind = 1 then max (nextB (l.take k) id num) (e.seq + 1) else nextB (l.take k) id num:=by rw [take_snoc h,nextB_snoc]
theorem rwriter_calls (l : List Ent) (v : Value) (id : Int) (w : World) (hl : RdE w v l) (hn : l.length ≤ 1000000) (hr : ∀ e ∈ l, rightB e = true) :
    Ret Tryz.prog 107 #[v,.int .i64 id] w fun r w'=>∃ u,r = wrV (highB l id) (nextB l id (highB l id)) (markB l id) u∧Ext w w'∧RdO w' u (opensB l id):=by
  have hl0:=Lib.hid hl
  have HRT:=Lib.hid hr
  obtain ⟨A0,c,rfl,hc,hcm,HR⟩:=hl.ent
  clear hl hr
  refine Fn_of Tryz.func107 rfl (Nat.le_of_ble_eq_true rfl) ?_;intro A hd hA;simp only [ix,Nat.reduceAdd];replace hA:A.tmps.size = 91:=hA
  repeat' (first|refine X_q ?_|refine X_nil ?_|refine W_seqk (fun K hK=>?_)|refine W_seqr ?_|(refine X_s (fun x K hK=>?_);go_simp;refine hK _ _ (Ext.alloc _ _) ?_;clear hK K;refine X_al x ?_;generalize (World.later _ x).heap.size = bn;intro yn hn1 hn2 hn3 hn4 hn5;clear x)|go_step)
  rename Nat=>b4
  rename Later w=>y4
  have g4:Blk (w.later y4) b4 177 4 _:=Blk.new hn5.out
  have hb4:=hn1
  have hl4:=hn2
  clear hn1 hn2 hn3 hn4 hn5
  refine X_ret Tryz.func135 (opens_calls l _ id _ (hl0.out.later (by simp)) hn) (fun u w1 hR=>?_)
  obtain ⟨hE1,hO,hF⟩:=hR
  obtain ⟨A9,n9,c9,rfl⟩:=slice_of1 (hO.rd Opn.len)
  obtain ⟨y1,rfl⟩:=hE1.get
  have HO:=Lib.hid (hO.rd Opn.len)
  have HOl:=Lib.hid hO.lt
  have HF:=Lib.hid hF
  clear hO hF hE1
  repeat' (first|refine X_q ?_|refine X_nil ?_|(refine X_var (fun yn bn hn1 hn2 hn3 hn4 hn5=>?_))|refine W_seqk (fun K hK=>?_)|refine W_seqr ?_|refine W_block ?_|go_step)
  rename Nat=>b5
  rename Later _=>y5
  have hW0:Ext w (((w.later y4).later y1).later y5):=by simp
  have hlt4:b4 < b5:=by have:(w.later y4).heap.size≤((w.later y4).later y1).heap.size:=y1.2.size;omega
  have hFU:∀ b,(Value.slice A9 n9 c9).ownBlock = some b→b ≠ b5:=fun b hb=>by have:=HOl.out b hb;omega
  have HF4:Hid (∀ b,(Value.slice A9 n9 c9).ownBlock = some b→b ≠ b4):=Lib.hid (fun b hb=>by have:=HF.out b hb;omega)
  have g5:Blk (((w.later y4).later y1).later y5) b5 177 4 (wrG 0 0 0 (.slice A9 n9 c9)):=Blk.new hn5.out
  have G4:Hid (Blk (((w.later y4).later y1).later y5) b4 177 4 _):=Lib.hid (((g4.later y1.2).later y5.2))
  have HO1:Hid (RdO (((w.later y4).later y1).later y5) (.slice A9 n9 c9) (opensB l id)):=Lib.hid (HO.out.later y5.2)
  generalize ((w.later y4).later y1).later y5 = W0 at *
  have G5:=Lib.hid g5
  clear g5 g4 HO HOl HF hn1 hn2 hn3 hn4 hn5 y5
  refine W_loops [0,1,4,5,6] (fun n vs W=>∃ k:Nat,Mod (fun j=>j = b5) W0 W∧k + n = l.length∧vs = [.slice A0 l.length c,.int .i64 id,.pointer (some ⟨b4,0,none⟩),.pointer (some ⟨b5,0,none⟩),.int .i64 k] ∧
    Blk W b5 177 4 (wrG (highB (l.take k) id) 0 (markB (l.take k) id) (.slice A9 n9 c9))) l.length hd hA (by decide) ⟨0,Mod.refl _ _,by omega,by simp,by simpa [highB,markB] using G5.out⟩ ?_
  clear hd hA A;intro n2 vs B W hd hA _ ⟨k,hM,hk,hvs,hB⟩;subst hvs
  simp only [List.zip_cons_cons,List.zip_nil_right,List.zip_nil_left]
  have HM:=Lib.hid hM
  have hE:Ext w W:=Ext.fresh hW0 hM (fun i hi=>by omega)
  have GB:=Lib.hid hB
  obtain ⟨r5,r0,r1,r2,r3⟩:=hB.wr
  clear hM hB
  by_cases hlt:k < l.length
  · obtain ⟨e,b,o,HE,rfl,hb,c0,c1,c2,c3,c4,c5⟩:=HR.out k hlt
    have hbb:b ≠ b5:=by omega
    rw [← cell?_mod hE hb (fun h=>h)] at c0 c1 c2 c3 c4 c5
    have hbW:b < W.heap.size:=Nat.lt_of_lt_of_le hb hE.size
    have HEW:=Lib.hid hE
    clear hE
    repeat' (first|refine X_q ?_|refine X_nil ?_|refine W_seqk (fun K hK=>?_)|refine W_seqr ?_|refine W_skip ?_|refine W_block ?_|refine W_exit ?_|refine W_tt ?_|refine W_test (fun hc=>?_) (fun hc=>?_)|go_step)
    · have hid:e.id ≠ id:=by simpa using hc
      refine ⟨_,_,rfl,hd,hA,n2 - 1,by omega,k + 1,HM.out,by omega,by simp,?_⟩
      rw [highB_take id HE.out,markB_take id HE.out,if_neg hid,if_neg (fun h=>hid h.1)]
      exact GB.out
    have hid:e.id = id:=by simpa using hc
    clear hc
    refine W_draw (by kernel_rfl) (by kernel_rfl) ?_
    repeat' (first|refine X_q ?_|fail)
    refine X_store (off:=0) GB.out (fun W1 hM1 hB1=>?_)
    have GB1:=Lib.hid (wrG_put0 hB1)
    have HM1:=Lib.hid (Mod.trans HM.out hM1 (fun _ _ h=>h) (fun _ _ h=>h))
    clear r5 r0 r1 r2 r3
    obtain ⟨r5,r0,r1,r2,r3⟩:=GB1.out.wr
    rw [← cell?_mod hM1 hbW hbb] at c0 c1 c2 c3 c4 c5
    have hbW1:b < W1.heap.size:=Nat.lt_of_lt_of_le hbW hM1.size
    clear hM1 hB1 hbW
    repeat' (first|refine X_q ?_|refine X_niln ?_|refine X_nil ?_|refine W_seqk (fun K hK=>?_)|refine W_seqr ?_|refine W_skip ?_|refine W_test (fun hc=>?_) (fun hc=>?_)|go_step)
    · have hk1:1 < e.kind:=by simpa using hc
      refine W_draw (by kernel_rfl) (by kernel_rfl) ?_
      repeat' (first|refine X_q ?_|fail)
      refine X_store (off:=2) GB1.out (fun W2 hM2 hB2=>?_)
      have GB2:=Lib.hid (wrG_put2 hB2)
      have HM2:=Lib.hid (Mod.trans HM1.out hM2 (fun _ _ h=>h) (fun _ _ h=>h))
      repeat' (first|refine X_q ?_|refine X_niln ?_|refine X_nil ?_|refine W_seqr ?_|go_step)
      refine ⟨_,_,rfl,hd,hA,n2 - 1,by omega,k + 1,HM2.out,by omega,by simp,?_⟩
      rw [highB_take id HE.out,markB_take id HE.out,if_pos hid,if_pos ⟨hid,hk1⟩,← gmax_eq,← gmax_eq]
      exact GB2.out
    · have hk1:¬ 1 < e.kind:=by simpa using hc
      refine ⟨_,_,rfl,hd,hA,n2 - 1,by omega,k + 1,HM1.out,by omega,by simp,?_⟩
      rw [highB_take id HE.out,markB_take id HE.out,if_pos hid,if_neg (fun h=>hk1 h.2),← gmax_eq]
      exact GB1.out
  · obtain rfl:k = l.length:=by omega
    rw [List.take_length] at GB r0 r2
    have HEW:=Lib.hid hE
    clear hE
    repeat' (first|refine X_q ?_|refine X_nil ?_|refine W_seqk (fun K hK=>?_)|refine W_seqr ?_|refine W_block ?_|refine W_exit ?_|refine W_ff ?_|go_step)
    have HM0:=HM
    have GB0:=GB
    clear r5 r0 r1 r2 r3 HM GB
    generalize hH:highB l id = H at *
    generalize hMk:markB l id = M at *
    refine W_loops [0,1,4,5,7] (fun n vs W=>∃ k:Nat,Mod (fun j=>j = b5) W0 W∧k + n = l.length∧vs = [.slice A0 l.length c,.int .i64 id,.pointer (some ⟨b4,0,none⟩),.pointer (some ⟨b5,0,none⟩),.int .i64 k] ∧
      Blk W b5 177 4 (wrG H (nextB (l.take k) id H) M (.slice A9 n9 c9))) l.length hd hA (by decide) ⟨0,HM0.out,by omega,by simp,by simpa [nextB] using GB0.out⟩ ?_
    clear hd hA B HM0 GB0 HEW;intro n2 vs B W hd hA _ ⟨k,hM,hk,hvs,hB⟩;subst hvs
    simp only [List.zip_cons_cons,List.zip_nil_right,List.zip_nil_left]
    have HM:=Lib.hid hM
    have hE:Ext w W:=Ext.fresh hW0 hM (fun i hi=>by omega)
    have GB:=Lib.hid hB
    obtain ⟨r5,r0,r1,r2,r3⟩:=hB.wr
    clear hM hB
    by_cases hlt:k < l.length
    · obtain ⟨e,b,o,HE,rfl,hb,c0,c1,c2,c3,c4,c5⟩:=HR.out k hlt
      have hbb:b ≠ b5:=by omega
      rw [← cell?_mod hE hb (fun h=>h)] at c0 c1 c2 c3 c4 c5
      have hbW:b < W.heap.size:=Nat.lt_of_lt_of_le hb hE.size
      have HEW:=Lib.hid hE
      have hsq:=right_bounds (HRT.out e (mem_of_get HE.out))
      have hs1:0≤e.seq:=hsq.2.2.1
      have hs2:e.seq≤2147483647:=hsq.2.2.2.1
      clear hE hsq
      refine W_seqk (fun K hK=>?_)
      repeat' (first|refine X_q ?_|refine X_nil ?_|refine W_seqk (fun K hK=>?_)|refine W_seqr ?_|refine W_skip ?_|refine W_block ?_|refine W_tt ?_|go_step)
      refine W_draw (by kernel_rfl) (by kernel_rfl) ?_
      repeat' (first|refine X_d (fun vb hvb=>?_)|refine X_q ?_|refine X_g ?_|refine X_niln ?_|refine X_nil ?_|refine W_seqr ?_|refine W_skip ?_|refine W_test (fun hc=>?_) (fun hc=>?_)|go_step)
      · have hq : e.id = id ∧ e.num = H ∧ e.kind = 1 := by
          have h3:=hc
          repeat cases ‹Eqn _ _›
          simp at h3
          exact ⟨h3.1.1,h3.1.2,h3.2⟩
        clear hc hvb
        refine W_draw (by kernel_rfl) (by kernel_rfl) ?_
        repeat' (first|refine X_q ?_|fail)
        refine X_store (off:=1) GB.out (fun W1 hM1 hB1=>?_)
        have GB1:=Lib.hid (wrG_put1 hB1)
        have HM1:=Lib.hid (Mod.trans HM.out hM1 (fun _ _ h=>h) (fun _ _ h=>h))
        repeat' (first|refine X_q ?_|refine X_niln ?_|refine X_nil ?_|refine W_seqr ?_|go_step)
        refine ⟨_,_,rfl,hd,hA,n2 - 1,by omega,k + 1,HM1.out,by omega,by simp,?_⟩
        rw [nextB_take id H HE.out,if_pos hq,← gmax_eq]
        exact GB1.out
      · have hq : ¬ (e.id = id ∧ e.num = H ∧ e.kind = 1) := by
          rintro ⟨q1,q2,q3⟩
          have h3:=hc
          repeat cases ‹Eqn _ _›
          simp [q1,q2,q3] at h3
        refine ⟨_,_,rfl,hd,hA,n2 - 1,by omega,k + 1,HM.out,by omega,by simp,?_⟩
        rw [nextB_take id H HE.out,if_neg hq]
        exact GB.out
    · obtain rfl:k = l.length:=by omega
      rw [List.take_length] at GB r1
      have hE4:∀ j,j = b5→j ≠ b4:=fun j hj=>by omega
      have HEW:=Lib.hid hE
      have HO2:=Lib.hid (HO1.out.mod HM.out (fun b hb h=>hFU b hb h))
      have GG4:=Lib.hid (G4.out.mod HM.out (by omega))
      have HFU:=Lib.hid hFU
      clear hE hFU
      repeat' (first|refine X_q ?_|refine X_nil ?_|refine W_seqk (fun K hK=>?_)|refine W_seqr ?_|refine W_exit ?_|refine W_ff ?_|go_step)
      refine X_store (off:=0) GG4.out (fun W1 hM1 hB1=>?_)
      repeat' (first|refine X_nil ?_|refine W_ret ?_|go_step)
      refine Body_retcell1 (cs:=[.int .i64 H,.int .i64 (nextB l id H),.int .i64 M,.slice A9 n9 c9]) hd ⟨_,rfl,Ext.fresh HEW.out hM1 (fun i hi=>by omega),HO2.out.mod hM1 (fun b hb h=>HF4.out b hb h)⟩ hB1 (fun k hk=>?_) Tryz.underlying177
      have hk:k < 4:=hk
      rw [put_in k (by simpa [Value.cells] using hk) (by omega)]
      obtain rfl|rfl|rfl|rfl:k = 0∨k = 1∨k = 2∨k = 3:=by omega
      all_goals rfl
def wrNo (H N M:Int) (O:Bool) (e:Ent):Int :=
  if 1 < e.kind then (if e.num≤M then 183 else if e.num < H then 181 else if O = true then 181 else 0)
  else if e.num≤M then 181 else if e.num < H then 181 else if O = true then 182
  else if e.num = H then (if e.seq < N then 183 else if N < e.seq then 184 else 0)
  else (if e.seq < 0 then 183 else if 0 < e.seq then 184 else 0)
theorem wrNo_cases {H N M : Int} {O : Bool} {e : Ent} {r : Int} (h : wrNo H N M O e = r) :
    (1 < e.kind∧e.num≤M∧r = 183)∨(1 < e.kind∧¬ e.num≤M∧e.num < H∧r = 181)∨(1 < e.kind∧¬ e.num≤M∧¬ e.num < H∧O = true∧r = 181)∨(1 < e.kind∧¬ e.num≤M∧¬ e.num < H∧O = false∧r = 0) ∨
    (¬ 1 < e.kind∧e.num≤M∧r = 181)∨(¬ 1 < e.kind∧¬ e.num≤M∧e.num < H∧r = 181)∨(¬ 1 < e.kind∧¬ e.num≤M∧¬ e.num < H∧O = true∧r = 182) ∨
    (¬ 1 < e.kind∧¬ e.num≤M∧¬ e.num < H∧O = false∧e.num = H∧e.seq < N∧r = 183)∨(¬ 1 < e.kind∧¬ e.num≤M∧¬ e.num < H∧O = false∧e.num = H∧¬ e.seq < N∧N < e.seq∧r = 184)∨(¬ 1 < e.kind∧¬ e.num≤M∧¬ e.num < H∧O = false∧e.num = H∧¬ e.seq < N∧¬ N < e.seq∧r = 0) ∨
    (¬ 1 < e.kind∧¬ e.num≤M∧¬ e.num < H∧O = false∧e.num ≠ H∧e.seq < 0∧r = 183)∨(¬ 1 < e.kind∧¬ e.num≤M∧¬ e.num < H∧O = false∧e.num ≠ H∧¬ e.seq < 0∧0 < e.seq∧r = 184)∨(¬ 1 < e.kind∧¬ e.num≤M∧¬ e.num < H∧O = false∧e.num ≠ H∧¬ e.seq < 0∧¬ 0 < e.seq∧r = 0):=by
  subst h
  unfold wrNo
  by_cases h1:1 < e.kind
  · by_cases h2:e.num≤M
    · exact .inl ⟨h1,h2,by rw [if_pos h1,if_pos h2]⟩
    · by_cases h3:e.num < H
      · exact .inr (.inl ⟨h1,h2,h3,by rw [if_pos h1,if_neg h2,if_pos h3]⟩)
      · rcases Bool.eq_false_or_eq_true O with hO|hO
        · exact .inr (.inr (.inl ⟨h1,h2,h3,hO,by rw [if_pos h1,if_neg h2,if_neg h3,if_pos hO]⟩))
        · exact .inr (.inr (.inr (.inl ⟨h1,h2,h3,hO,by rw [if_pos h1,if_neg h2,if_neg h3,if_neg (by simp [hO])]⟩)))
  · by_cases h2:e.num≤M
    · exact .inr (.inr (.inr (.inr (.inl ⟨h1,h2,by rw [if_neg h1,if_pos h2]⟩))))
    · by_cases h3:e.num < H
      · exact .inr (.inr (.inr (.inr (.inr (.inl ⟨h1,h2,h3,by rw [if_neg h1,if_neg h2,if_pos h3]⟩)))))
      · rcases Bool.eq_false_or_eq_true O with hO|hO
        · exact .inr (.inr (.inr (.inr (.inr (.inr (.inl ⟨h1,h2,h3,hO,by rw [if_neg h1,if_neg h2,if_neg h3,if_pos hO]⟩))))))
        · by_cases h4:e.num = H
          · by_cases h5:e.seq < N
            · exact .inr (.inr (.inr (.inr (.inr (.inr (.inr (.inl ⟨h1,h2,h3,hO,h4,h5,by rw [if_neg h1,if_neg h2,if_neg h3,if_neg (by simp [hO]),if_pos h4,if_pos h5]⟩)))))))
            · by_cases h6:N < e.seq
              · exact .inr (.inr (.inr (.inr (.inr (.inr (.inr (.inr (.inl ⟨h1,h2,h3,hO,h4,h5,h6,by rw [if_neg h1,if_neg h2,if_neg h3,if_neg (by simp [hO]),if_pos h4,if_neg h5,if_pos h6]⟩))))))))
              · exact .inr (.inr (.inr (.inr (.inr (.inr (.inr (.inr (.inr (.inl ⟨h1,h2,h3,hO,h4,h5,h6,by rw [if_neg h1,if_neg h2,if_neg h3,if_neg (by simp [hO]),if_pos h4,if_neg h5,if_neg h6]⟩)))))))))
          · by_cases h7:e.seq < 0
            · exact .inr (.inr (.inr (.inr (.inr (.inr (.inr (.inr (.inr (.inr (.inl ⟨h1,h2,h3,hO,h4,h7,by rw [if_neg h1,if_neg h2,if_neg h3,if_neg (by simp [hO]),if_neg h4,if_pos h7]⟩))))))))))
            · by_cases h8:0 < e.seq
              · exact .inr (.inr (.inr (.inr (.inr (.inr (.inr (.inr (.inr (.inr (.inr (.inl ⟨h1,h2,h3,hO,h4,h7,h8,by rw [if_neg h1,if_neg h2,if_neg h3,if_neg (by simp [hO]),if_neg h4,if_neg h7,if_pos h8]⟩)))))))))))
              · exact .inr (.inr (.inr (.inr (.inr (.inr (.inr (.inr (.inr (.inr (.inr (.inr (⟨h1,h2,h3,hO,h4,h7,h8,by rw [if_neg h1,if_neg h2,if_neg h3,if_neg (by simp [hO]),if_neg h4,if_neg h7,if_neg h8]⟩))))))))))))
def checkNo (l:List Ent) (e:Ent):Int :=
  if appendNo l e ≠ 0 then appendNo l e else if e.id < 0 then 0
  else wrNo (highB l e.id) (nextB l e.id (highB l e.id)) (markB l e.id) (otherB (opensB l e.id) e.num) e
theorem rcheck_calls (l : List Ent) (v : Value) (e : Ent) (w : World) (hl : RdE w v l) (hn : l.length ≤ 1000000) (hr : ∀ e ∈ l, rightB e = true) :
    Pure Tryz.prog 79 #[v,e.v] w (.int .i64 (checkNo l e)):=by
  have hl0:=Lib.hid hl
  have HRT:=Lib.hid hr
  obtain ⟨A0,c,rfl,hc,hcm,HR⟩:=hl.ent
  clear hl hr HR
  by_cases hno:appendNo l e = 0
  · by_cases hid:e.id < 0
    · have hck:checkNo l e = 0:=by unfold checkNo;rw [if_neg (by simpa using hno),if_pos hid]
      rw [hck]
      refine Fn_of Tryz.func79 rfl (Nat.le_of_ble_eq_true rfl) ?_;intro A hd hA;simp only [ix,Nat.reduceAdd];replace hA:A.tmps.size = 77:=hA
      repeat' (first|refine X_q ?_|refine X_nil ?_|refine W_seqk (fun K hK=>?_)|refine W_seqr ?_|(refine X_s (fun x K hK=>?_);go_simp;refine hK _ _ (Ext.alloc _ _) ?_;clear hK K;refine X_al x ?_;generalize (World.later _ x).heap.size = bn;intro yn hn1 hn2 hn3 hn4 hn5;clear x)|go_step)
      refine X_ret Tryz.func106 (append_calls l _ e _ (hl0.out.later (by simp))) (fun r w1 hR=>?_)
      obtain ⟨u,rfl,hE1,hU⟩:=hR
      rw [hno] at hU ⊢
      obtain ⟨y1,rfl⟩:=hE1.get
      obtain ⟨A9,n9,c9,rfl⟩:=slice_of1 hU
      clear hU hE1
      repeat' (first|refine X_gt ?_|refine X_q ?_|refine X_nil ?_|refine W_seqk (fun K hK=>?_)|refine W_seqr ?_|refine W_ret ?_|refine W_tt ?_|go_step)
      exact Body_ret hd ⟨rfl,by simp⟩
    · have hck:checkNo l e = wrNo (highB l e.id) (nextB l e.id (highB l e.id)) (markB l e.id) (otherB (opensB l e.id) e.num) e:=by unfold checkNo;rw [if_neg (by simpa using hno),if_neg hid]
      rw [hck]
      generalize hH:highB l e.id = H at *
      generalize hMk:markB l e.id = M at *
      generalize hNx:nextB l e.id H = N at *
      generalize hO:otherB (opensB l e.id) e.num = O at *
      have hOO:=Lib.hid hO
      have hW:=Lib.hid (show highB l e.id = H∧markB l e.id = M∧nextB l e.id H = N from ⟨hH,hMk,hNx⟩)
      have hno0:=Lib.hid hno
      generalize hr:wrNo H N M O e = r
      have hcs:=wrNo_cases hr
      clear hck hH hMk hNx hO hno hr
      rcases hcs with ⟨h1,h2,rfl⟩|⟨h1,h2,h3,rfl⟩|⟨h1,h2,h3,rfl,rfl⟩|⟨h1,h2,h3,rfl,rfl⟩|⟨h1,h2,rfl⟩|⟨h1,h2,h3,rfl⟩|⟨h1,h2,h3,rfl,rfl⟩|⟨h1,h2,h3,rfl,rfl,h5,rfl⟩|⟨h1,h2,h3,rfl,rfl,h5,h6,rfl⟩|⟨h1,h2,h3,rfl,rfl,h5,h6,rfl⟩|⟨h1,h2,h3,rfl,h4,h5,rfl⟩|⟨h1,h2,h3,rfl,h4,h5,h6,rfl⟩|⟨h1,h2,h3,rfl,h4,h5,h6,rfl⟩
      all_goals (
        (try replace h4:=beq_false_of_ne h4)
        refine Fn_of Tryz.func79 rfl (Nat.le_of_ble_eq_true rfl) ?_;intro A hd hA;simp only [ix,Nat.reduceAdd];replace hA:A.tmps.size = 77:=hA
        repeat' (first|refine X_q ?_|refine X_nil ?_|refine W_seqk (fun K hK=>?_)|refine W_seqr ?_|(refine X_s (fun x K hK=>?_);go_simp;refine hK _ _ (Ext.alloc _ _) ?_;clear hK K;refine X_al x ?_;generalize (World.later _ x).heap.size = bn;intro yn hn1 hn2 hn3 hn4 hn5;clear x)|go_step)
        refine X_ret Tryz.func106 (append_calls l _ e _ (hl0.out.later (by simp))) (fun r w1 hR=>?_)
        obtain ⟨u,rfl,hE1,hU⟩:=hR
        rw [hno0.out] at hU ⊢
        obtain ⟨y1,rfl⟩:=hE1.get
        obtain ⟨A9,n9,c9,rfl⟩:=slice_of1 hU
        clear hU hE1
        rename Nat=>be
        repeat' (first|refine X_gt ?_|refine X_q ?_|refine X_nil ?_|refine W_seqk (fun K hK=>?_)|refine W_seqr ?_|refine W_skip ?_|refine W_ff ?_|go_step)
        refine X_ret Tryz.func107 (rwriter_calls l _ e.id _ (hl0.out.later (by simp)) hn HRT.out) (fun r w2 hR=>?_)
        obtain ⟨u,rfl,hE2,hU⟩:=hR
        obtain ⟨y2,rfl⟩:=hE2.get
        have hU0:=Lib.hid hU
        obtain ⟨A8,n8,c8,rfl⟩:=slice_of1 hU
        clear hU hE2
        rw [hW.out.1,hW.out.2.1,hW.out.2.2]
        repeat' (first|refine X_pure Tryz.func108 (hOO.out▸rother_calls (opensB l e.id) _ _ _ _ _ _ (hU0.out.later (by simp))) ?_|refine X_gpure Tryz.func108 (fun _=>hOO.out▸rother_calls (opensB l e.id) _ _ _ _ _ _ (hU0.out.later (by simp))) ?_|(refine X_gf2 ?_)|refine X_gt ?_|refine X_q ?_|refine X_g ?_|refine X_gf ?_|refine X_nil ?_|(refine X_var (fun yn bn hn1 hn2 hn3 hn4 hn5=>?_))|refine W_seqk (fun K hK=>?_)|refine W_seqr ?_|refine W_ret ?_|refine W_skip ?_|refine W_tt ?_|refine W_ff ?_|go_step)
        exact Body_ret hd ⟨rfl,by simp⟩)
  · have hck:checkNo l e = appendNo l e:=by unfold checkNo;rw [if_pos hno]
    rw [hck]
    generalize hx:appendNo l e = no at *
    refine Fn_of Tryz.func79 rfl (Nat.le_of_ble_eq_true rfl) ?_;intro A hd hA;simp only [ix,Nat.reduceAdd];replace hA:A.tmps.size = 77:=hA
    repeat' (first|refine X_q ?_|refine X_nil ?_|refine W_seqk (fun K hK=>?_)|refine W_seqr ?_|(refine X_s (fun x K hK=>?_);go_simp;refine hK _ _ (Ext.alloc _ _) ?_;clear hK K;refine X_al x ?_;generalize (World.later _ x).heap.size = bn;intro yn hn1 hn2 hn3 hn4 hn5;clear x)|go_step)
    refine X_ret Tryz.func106 (append_calls l _ e _ (hl0.out.later (by simp))) (fun r w1 hR=>?_)
    obtain ⟨u,rfl,hE1,hU⟩:=hR
    rw [hx] at hU ⊢
    obtain ⟨y1,rfl⟩:=hE1.get
    obtain ⟨A9,n9,c9,rfl⟩:=slice_of1 hU
    clear hU hE1
    repeat' (first|refine X_q ?_|refine X_g ?_|refine X_nil ?_|refine W_seqk (fun K hK=>?_)|refine W_seqr ?_|refine W_ret ?_|refine W_tt ?_|go_step)
    exact Body_ret hd ⟨rfl,by simp⟩
theorem check_core {b : Nat} {w : World} {u : Value} {l : List Ent} {m0 m1 : Nat} (hS : Seen w b u l) (e : Ent) (hno : appendNo l e = 0) {i : Nat} (hid : e.id = i) (hi : i < 4) (hat : WrAt w b (1 + i * 5) (wrOf l i) m0 m1) (cond : Nat → Bool) (r : Int)
    (hw:∀ k p,(rules (e.kind == 1))[k]? = some p→(p.2 = 0↔False)∧(∃ fn,Tryz.prog.funcs[p.1]? = some fn∧callable fn = true)∧∀ w',Ext w w'→WhyP p.1 b (1 + i * 5) e w' (cond k))
    (h1:∀ k p,(rules (e.kind == 1))[k]? = some p→(∀ j,j < k→cond j = false)→cond k = true→r = p.2) (h0:(∀ j,j < (rules (e.kind == 1)).length→cond j = false)→r = 0) :
    Pure Tryz.prog 58 #[.pointer (some ⟨b,0,none⟩),e.v] w (.int .i64 r):=by
  obtain ⟨ep,eid,enum,eseq,ekind,eval⟩:=e
  simp only at hid
  subst hid
  have HW:=Lib.hid hw
  have H1:=Lib.hid h1
  have H0:=Lib.hid h0
  have hbl:=hS.1
  have hi4:(i:Int) < 4:=by omega
  have hii:¬ (i:Int) < 0:=by omega
  have hmay:=Lib.hid (fun w' (hE:Ext w w')=>(hno▸may_calls (hS.later hE) (⟨ep,(i:Int),enum,eseq,ekind,eval⟩:Ent):Pure Tryz.prog 89 #[.pointer (some ⟨b,0,none⟩),(⟨ep,(i:Int),enum,eseq,ekind,eval⟩:Ent).v] w' (.int .i64 0)))
  clear hw h1 h0 hS hno hat
  simp only at HW H1 H0
  generalize hdt:(ekind == 1) = data at *
  refine Fn_of Tryz.func58 rfl (Nat.le_of_ble_eq_true rfl) ?_;intro A hd hA;simp only [ix,Nat.reduceAdd];replace hA:A.tmps.size = 41:=hA
  repeat' (first|refine X_pure Tryz.func89 (hmay.out _ (by simp)) ?_|(refine W_label ?_)|(refine W_scope ?_)|refine X_gt ?_|refine X_q ?_|refine X_nil ?_|refine W_seqk (fun K hK=>?_)|refine W_seqr ?_|refine W_skip ?_|(refine X_s (fun x K hK=>?_);go_simp;refine hK _ _ (Ext.alloc _ _) ?_;clear hK K;refine X_al x ?_;generalize (World.later _ x).heap.size = bn;intro yn hn1 hn2 hn3 hn4 hn5;clear x)|refine W_ff ?_|go_step)
  rename Nat=>be
  rename Later w=>ye
  have ge:Blk (w.later ye) be 45 6 _:=Blk.new hn5.out
  clear hn3 hn4 hn5
  refine X_ret Tryz.func90 (refuses_calls data) (fun v' w1 hR=>?_)
  obtain ⟨hE1,g,rfl,hg,hrules⟩:=hR
  have GE:=Lib.hid (ge.later hE1)
  have HE1:=Lib.hid (Ext.trans ye.2 hE1)
  have HR:=Lib.hid hrules
  have hbe:be < w1.heap.size:=by have:=hE1.size;have:(w.later ye).heap.size≤w1.heap.size:=this;omega
  clear hE1 hrules ge
  repeat' (first|refine X_q ?_|refine X_nil ?_|refine W_block ?_|go_step)
  have hlen:(rules data).length≤4:=by cases data <;> simp [rules]
  refine W_loops [0,3,5,22,23,24] (fun n vs W=>∃ k:Nat,Ext w1 W∧k + n = (rules data).length∧vs = [.pointer (some ⟨b,0,none⟩),.pointer (some ⟨be,0,none⟩),.int .i64 0,.slice (some ⟨g,0,none⟩) (rules data).length (rules data).length,.int .i64 (rules data).length,.int .i64 k] ∧
    ∀ j,j < k→cond j = false) (rules data).length hd hA (by decide) ⟨0,Ext.refl _,by omega,by simp,by intro j hj;omega⟩ ?_
  clear hd hA A;intro n2 vs B W hd hA _ ⟨k,hE,hk,hvs,hc0⟩;subst hvs
  simp only [List.zip_cons_cons,List.zip_nil_right,List.zip_nil_left]
  have HC:=Lib.hid hc0
  have hEw:=Ext.trans HE1.out hE
  obtain ⟨t0,t1,t2,t3,t4,t5⟩:W.cell? ⟨be,0,none⟩ = some (.int .i64 ep)∧W.cell? ⟨be,1,none⟩ = some (.int .i64 i)∧W.cell? ⟨be,2,none⟩ = some (.int .i64 enum)∧W.cell? ⟨be,3,none⟩ = some (.int .i64 eseq)∧W.cell? ⟨be,4,none⟩ = some (.int .i64 ekind)∧W.cell? ⟨be,5,none⟩ = some (.int .i64 eval):=by
    have G:=GE.out.later hE
    exact ⟨G.cell (k:=0) (by omega),G.cell (k:=1) (by omega),G.cell (k:=2) (by omega),G.cell (k:=3) (by omega),G.cell (k:=4) (by omega),G.cell (k:=5) (by omega)⟩
  have hbeW:be < W.heap.size:=Nat.lt_of_lt_of_le hbe hE.size
  have hbW:b < W.heap.size:=Nat.lt_of_lt_of_le hbl hEw.size
  have hgW:g < W.heap.size:=Nat.lt_of_lt_of_le hg hE.size
  by_cases hlt:k < (rules data).length
  · obtain ⟨p,hp⟩:∃ p,(rules data)[k]? = some p:=⟨_,List.getElem?_eq_getElem hlt⟩
    obtain ⟨v,hv,hrule⟩:=HR.out k p hp
    obtain ⟨a,c,rfl,ha,hc,ha2,hc2⟩:=hrule.later hE
    have hvW:W.cell? ⟨g,k,none⟩ = some (.func (.func 113) #[] #[.pointer (some ⟨a,0,none⟩),.pointer (some ⟨c,0,none⟩)]):=by rw [cell?_mod hE hg (fun h=>h)];exact hv
    obtain ⟨hp0,⟨fn,hfn,hcall⟩,hwhy⟩:=HW.out k p hp
    have hki:(k:Int) < (rules data).length:=by omega
    have HEW:=Lib.hid hE
    have HEw:=Lib.hid hEw
    have hpure:=Lib.hid (fun W' (hEE:Ext W W')=>rule_calls (w:=W') (E:=p.2) (b:=b) (o:=1 + i * 5) (e:=⟨ep,(i:Int),enum,eseq,ekind,eval⟩) (v:=cond k) hfn hcall (Nat.lt_of_lt_of_le ha hEE.size) (Nat.lt_of_lt_of_le hc hEE.size)
      (by rw [cell?_mod hEE ha (fun h=>h)];exact ha2) (by rw [cell?_mod hEE hc (fun h=>h)];exact hc2) (fun w' hw'=>hwhy w' (Ext.trans hEw (Ext.trans hEE hw'))))
    clear hE hEw hv hrule hwhy hfn hcall ha2 hc2 hc0
    refine W_seqk (fun K hK=>?_)
    repeat' (first|refine X_q ?_|refine X_nil ?_|refine W_seqk (fun K hK=>?_)|refine W_seqr ?_|refine W_skip ?_|refine W_block ?_|refine W_tt ?_|go_step)
    refine W_draw (by kernel_rfl) (by kernel_rfl) ?_
    repeat' (first|refine X_q ?_|fail)
    refine X_valret (lv:=[.pointer (some ⟨b,1 + i * 5,none⟩),(⟨ep,(i:Int),enum,eseq,ekind,eval⟩:Ent).v]) (first:=#[]) (captured:=#[.pointer (some ⟨a,0,none⟩),.pointer (some ⟨c,0,none⟩)]) Tryz.func113 (hpure.out _ (by simp)) (fun v' w2 hR=>?_)
    obtain ⟨rfl,hE2⟩:=hR
    have HE2:=Lib.hid (Ext.trans HEW.out (Ext.trans (by simp) hE2))
    have HE2w:=Lib.hid (Ext.trans HEw.out (Ext.trans (by simp) hE2))
    clear hE2
    cases hck:cond k
    · simp only [hck,Bool.false_eq_true,if_false]
      repeat' (first|refine X_q ?_|refine X_niln ?_|refine X_nil ?_|refine W_seqk (fun K hK=>?_)|refine W_seqr ?_|refine W_skip ?_|refine W_ff ?_|go_step)
      refine ⟨_,_,rfl,hd,hA,n2 - 1,by omega,k + 1,HE2.out,by omega,by simp,fun j hj=>?_⟩
      by_cases hjk:j = k
      · rw [hjk];exact hck
      · exact HC.out j (by omega)
    · simp only [hck,if_true]
      have hp2:p.2 ≠ 0:=fun h=>(hp0.1 h)
      have hres:=H1.out k p hp HC.out hck
      rw [hres]
      have hb2:(p.2 == 0) = false:=by simpa using hp2
      generalize p.2 = E at *
      repeat' (first|refine X_q ?_|refine X_niln ?_|refine X_nil ?_|refine W_seqk (fun K hK=>?_)|refine W_seqr ?_|refine W_ret ?_|refine W_skip ?_|refine W_exit ?_|refine W_test (fun hc=>?_) (fun hc=>?_)|go_step)
      · exact Body_ret hd ⟨rfl,HE2w.out⟩
      · exact absurd (by simpa using hc) hp2
  · obtain rfl:k = (rules data).length:=by omega
    have hr0:=H0.out HC.out
    subst hr0
    have HEw:=Lib.hid hEw
    clear hE hEw
    repeat' (first|refine X_q ?_|refine X_nil ?_|refine W_seqk (fun K hK=>?_)|refine W_seqr ?_|refine W_ret ?_|refine W_exit ?_|refine W_ff ?_|go_step)
    exact Body_ret hd ⟨rfl,HEw.out⟩
theorem nums_high (l:List Ent) (i:Int):∀ e ∈ l,e.id = i→e.num≤highB l i:=by
  induction l using snocInd with
  | h0=>intro e he;cases he
  | hs l x ih =>
    intro e he hi
    rw [highB_snoc]
    rcases List.mem_append.1 he with he|he
    · have:=ih e he hi
      split <;> omega
    · rw [List.mem_singleton] at he;subst he;rw [if_pos hi];omega
theorem nextB_above (l:List Ent) (i num:Int) (h:∀ e ∈ l,e.id = i→e.num < num):nextB l i num = 0:=by
  induction l using snocInd with
  | h0=>rfl
  | hs l x ih =>
    rw [nextB_snoc,if_neg,ih (fun e he=>h e (by simp [he]))]
    rintro ⟨h1,h2,-⟩
    have:=h x (by simp) h1
    omega
theorem otherB_iff {l:List Ent} (hk:∀ e ∈ l,1≤e.kind) (i num:Int):otherB (opensB l i) num = true↔∃ n,((wrOf l i).opens n).isSome = true∧n ≠ num:=by
  unfold otherB
  rw [List.any_eq_true]
  constructor
  · rintro ⟨o,ho,hne⟩
    exact ⟨o.num,Option.isSome_iff_exists.2 ⟨o.first,(opens_iff hk i o.num o.first).2 ho⟩,by simpa using hne⟩
  · rintro ⟨n,hn,hne⟩
    obtain ⟨f,hf⟩:=Option.isSome_iff_exists.1 hn
    exact ⟨⟨n,f⟩,(opens_iff hk i n f).1 hf,by simpa using hne⟩
theorem wrNo_data {H N M nx : Int} {O : Bool} {e : Ent} (hk : ¬ 1 < e.kind) (hnx : ¬ e.num < H → nx = if e.num = H then N else 0) :
    wrNo H N M O e = if (decide (e.num≤M) || decide (e.num < H)) = true then 181 else if O = true then 182 else if decide (e.seq < nx) = true then 183 else if decide (nx < e.seq) = true then 184 else 0:=by
  unfold wrNo
  rw [if_neg hk]
  by_cases h1:e.num≤M
  · rw [if_pos h1,if_pos (by simp [h1])]
  · rw [if_neg h1]
    by_cases h2:e.num < H
    · rw [if_pos h2,if_pos (by simp [h2])]
    · have hd:¬ ((decide (e.num≤M) || decide (e.num < H)) = true):=by simp [h1,h2]
      rw [if_neg h2,if_neg hd,hnx h2]
      cases O
      · simp only [Bool.false_eq_true,if_false,decide_eq_true_eq]
        by_cases h3:e.num = H
        · simp only [if_pos h3]
        · simp only [if_neg h3]
      · rw [if_pos rfl,if_pos rfl]
theorem wrNo_mark {H N M : Int} {O : Bool} {e : Ent} (hk : 1 < e.kind) :
    wrNo H N M O e = if decide (e.num≤M) = true then 183 else if (decide (e.num < H) || O) = true then 181 else 0:=by
  unfold wrNo
  rw [if_pos hk]
  by_cases h1:e.num≤M
  · simp [h1]
  · by_cases h2:e.num < H
    · simp [h1,h2]
    · cases O <;> simp [h1,h2]
theorem tabCheck_calls {b:Nat} {w:World} {F:Nat→Prop} {l:List Ent} (h:Tab w b F l) (hok:ofNo l = 0) (e:Ent):Pure Tryz.prog 58 #[.pointer (some ⟨b,0,none⟩),e.v] w (.int .i64 (checkNo l e)):=by
  obtain ⟨u,mb,g,h,hF⟩:=h
  have hS:=h.seen
  by_cases hno:appendNo l e = 0
  · by_cases hid:e.id < 0
    · have hck:checkNo l e = 0:=by unfold checkNo;rw [if_neg (by simpa using hno),if_pos hid]
      rw [hck]
      have HS:=Lib.hid hS
      have HNO:=Lib.hid hno
      clear h hF hS hno hck
      refine Fn_of Tryz.func58 rfl (Nat.le_of_ble_eq_true rfl) ?_;intro A hd hA;simp only [ix,Nat.reduceAdd];replace hA:A.tmps.size = 41:=hA
      repeat' (first|refine X_pure Tryz.func89 (HNO.out▸may_calls (HS.out.later (by simp)) e) ?_|(refine W_scope ?_)|refine X_gt ?_|refine X_q ?_|refine X_nil ?_|refine W_seqk (fun K hK=>?_)|refine W_seqr ?_|refine W_ret ?_|(refine X_s (fun x K hK=>?_);go_simp;refine hK _ _ (Ext.alloc _ _) ?_;clear hK K;refine X_al x ?_;generalize (World.later _ x).heap.size = bn;intro yn hn1 hn2 hn3 hn4 hn5;clear x)|refine W_tt ?_|go_step)
      exact Body_ret hd ⟨rfl,by simp⟩
    · have hrb:=right_bounds (of_no hno).1
      obtain ⟨i,hi⟩:∃ i:Nat,e.id = i:=⟨e.id.toNat,by omega⟩
      have hi4:i < 4:=by omega
      have hat:WrAt w b (1 + i * 5) (wrOf l i) (mb i 0) (mb i 1) :=
        ⟨h.blk.lt,(h.blk.cell (by omega)).trans (by rw [h.high i hi4]),(h.blk.cell (by omega)).trans (by rw [h.marked i hi4]),(h.blk.cell (by omega)).trans (by rw [h.next i hi4]),(h.blk.cell (by omega)).trans (by rw [h.opens i hi4]),h.mnext i hi4,h.mopens i hi4⟩
      have hkd:=kinds_of hok
      have hob:=otherB_iff hkd i e.num
      have hck:checkNo l e = wrNo (wrOf l i).high (nextB l i (wrOf l i).high) (wrOf l i).marked (otherB (opensB l i) e.num) e:=by
        unfold checkNo;rw [if_neg (by simpa using hno),if_neg hid,hi,wr_high,wr_marked l i hkd]
      have hnx:¬ e.num < (wrOf l i).high→((wrOf l i).next e.num).getD 0 = if e.num = (wrOf l i).high then nextB l i (wrOf l i).high else 0:=by
        intro hlt
        rw [wr_next]
        split
        · rename_i hh;rw [hh]
        · rename_i hh
          refine nextB_above l i e.num fun x hx hxi=>?_
          have:=nums_high l i x hx hxi
          rw [wr_high] at hlt hh
          omega
      generalize hO:otherB (opensB l i) e.num = ob at *
      by_cases hk:e.kind = 1
      · have hkb:(e.kind == 1) = true:=by simp [hk]
        rw [wrNo_data (by omega) hnx] at hck
        refine check_core hS e hno hi hi4 hat (fun k=>match k with|0=>(decide (e.num≤(wrOf l i).marked) || decide (e.num < (wrOf l i).high))|1=>ob|2=>decide (e.seq < ((wrOf l i).next e.num).getD 0)|_=>decide (((wrOf l i).next e.num).getD 0 < e.seq)) _ ?_ ?_ ?_
        · rw [hkb]
          intro k p hp
          match k,hp with
          | 0,hp=>cases hp;exact ⟨by decide,⟨_,Tryz.func117,by kernel_rfl⟩,fun w' hE=>why100 (hat.later hE) e⟩
          | 1,hp=>cases hp;exact ⟨by decide,⟨_,Tryz.func118,by kernel_rfl⟩,fun w' hE=>why101 (hat.later hE) e ob hob⟩
          | 2,hp=>cases hp;exact ⟨by decide,⟨_,Tryz.func119,by kernel_rfl⟩,fun w' hE=>why102 (hat.later hE) e⟩
          | 3,hp=>cases hp;exact ⟨by decide,⟨_,Tryz.func120,by kernel_rfl⟩,fun w' hE=>why103 (hat.later hE) e⟩
        · rw [hkb,hck]
          intro k p hp hj hc
          match k,hp with
          | 0,hp=>cases hp;exact if_pos hc
          | 1,hp=>cases hp;have c0:=hj 0 (by omega);simp only at c0 hc;rw [if_neg (by simp [c0]),if_pos hc]
          | 2,hp=>cases hp;have c0:=hj 0 (by omega);have c1:=hj 1 (by omega);simp only at c0 c1 hc;rw [if_neg (by simp [c0]),if_neg (by simp [c1]),if_pos hc]
          | 3,hp=>cases hp;have c0:=hj 0 (by omega);have c1:=hj 1 (by omega);have c2:=hj 2 (by omega);simp only at c0 c1 c2 hc;rw [if_neg (by simp [c0]),if_neg (by simp [c1]),if_neg (by rw [c2];simp),if_pos hc]
        · rw [hkb,hck]
          intro hj
          have c0:=hj 0 (by simp [rules]);have c1:=hj 1 (by simp [rules]);have c2:=hj 2 (by simp [rules]);have c3:=hj 3 (by simp [rules]);simp only at c0 c1 c2 c3
          rw [if_neg (by simp [c0]),if_neg (by simp [c1]),if_neg (by rw [c2];simp),if_neg (by rw [c3];simp)]
      · have hkb:(e.kind == 1) = false:=by simp [hk]
        rw [wrNo_mark (by omega)] at hck
        refine check_core hS e hno hi hi4 hat (fun k=>match k with|0=>decide (e.num≤(wrOf l i).marked)|_=>(decide (e.num < (wrOf l i).high) || ob)) _ ?_ ?_ ?_
        · rw [hkb]
          intro k p hp
          match k,hp with
          | 0,hp=>cases hp;exact ⟨by decide,⟨_,Tryz.func114,by kernel_rfl⟩,fun w' hE=>why97 (hat.later hE) e⟩
          | 1,hp=>cases hp;exact ⟨by decide,⟨_,Tryz.func115,by kernel_rfl⟩,fun w' hE=>why98 (hat.later hE) e ob hob⟩
        · rw [hkb,hck]
          intro k p hp hj hc
          match k,hp with
          | 0,hp=>cases hp;exact if_pos hc
          | 1,hp=>cases hp;have c0:=hj 0 (by omega);simp only at c0 hc;rw [if_neg (by rw [c0];simp),if_pos hc]
        · rw [hkb,hck]
          intro hj
          have c0:=hj 0 (by simp [rules]);have c1:=hj 1 (by simp [rules]);simp only at c0 c1
          rw [if_neg (by rw [c0];simp),if_neg (by simp [c1])]
  · have hck:checkNo l e = appendNo l e:=by unfold checkNo;rw [if_pos hno]
    rw [hck]
    have HS:=Lib.hid hS
    have HM:=Lib.hid (fun w' (hE:Ext w w')=>may_calls (hS.later hE) e)
    clear h hF hS hck
    generalize appendNo l e = no at *
    refine Fn_of Tryz.func58 rfl (Nat.le_of_ble_eq_true rfl) ?_;intro A hd hA;simp only [ix,Nat.reduceAdd];replace hA:A.tmps.size = 41:=hA
    repeat' (first|refine X_pure Tryz.func89 (HM.out _ (by simp)) ?_|(refine W_scope ?_)|refine X_q ?_|refine X_g ?_|refine X_nil ?_|refine W_seqk (fun K hK=>?_)|refine W_seqr ?_|refine W_ret ?_|(refine X_s (fun x K hK=>?_);go_simp;refine hK _ _ (Ext.alloc _ _) ?_;clear hK K;refine X_al x ?_;generalize (World.later _ x).heap.size = bn;intro yn hn1 hn2 hn3 hn4 hn5;clear x)|refine W_tt ?_|go_step)
    exact Body_ret hd ⟨rfl,by simp⟩
end Go.Ws
