/- Lemmas for the statements of this layer (joined texts); no condition. -/
import Derived.Test.YtlpjgegbdmkmdaaGreatBb06
namespace Go.Ws
open Go Go.RowKit Go.Proofs
set_option linter.unusedVariables false
set_option linter.unusedSimpArgs false
theorem snocInd {α:Type} {C:List α→Prop} (h0:C []) (hs:∀ l a,C l→C (l ++ [a])):∀ l,C l:=fun l=>by
  have:∀ r:List α,C r.reverse:=by
    intro r
    induction r with
    | nil=>exact h0
    | cons a r ih=>rw [List.reverse_cons];exact hs _ _ ih
  simpa using this l.reverse
def dataB (i num:Int) (e:Ent):Bool:=(e.id == i) && (e.kind == 1) && (e.num == num)
def firstOf (l:List Ent) (i num:Int):Option Int:=(l.findIdx? (dataB i num)).map (fun n:Nat=>(n:Int))
theorem firstOf_snoc (l:List Ent) (e:Ent) (i num:Int):firstOf (l ++ [e]) i num = (firstOf l i num).or (if dataB i num e = true then some (l.length:Int) else none):=by
  unfold firstOf
  rw [List.findIdx?_append]
  cases h:l.findIdx? (dataB i num) with
  | some n=>simp
  | none =>
    by_cases hp:dataB i num e = true
    · simp [hp,List.findIdx?_cons]
    · simp [hp,List.findIdx?_cons]
theorem markedB_snoc (l:List Ent) (e:Ent) (i num:Int):markedB (l ++ [e]) i num = (markedB l i num || ((e.id == i) && (e.num == num) && decide (1 < e.kind))):=by
  simp [markedB]
theorem wr_done (l:List Ent) (i:Int):(∀ e ∈ l,1≤e.kind)→∀ num,(wrOf l i).done num = if markedB l i num then some true else none:=by
  induction l using snocInd with
  | h0=>intro _ num;rfl
  | hs l e ih =>
    intro hk num
    have ih:=ih (fun x hx=>hk x (by simp [hx])) num
    have he:=hk e (by simp)
    rw [wrOf_snoc,markedB_snoc]
    by_cases hi:e.id = i
    · rw [if_pos hi]
      unfold Wr.step
      by_cases h1:e.kind ≠ 1
      · rw [if_pos h1]
        simp only [upd]
        by_cases hn:num = e.num
        · subst hn
          have:1 < e.kind:=by omega
          simp [hi,this]
        · have:(e.num == num) = false:=by simp;exact fun h=>hn h.symm
          simp [hn,ih,this]
      · rw [if_neg h1]
        have:¬ 1 < e.kind:=by omega
        simp only [ih,this,decide_false,Bool.and_false,Bool.or_false]
    · rw [if_neg hi]
      have:(e.id == i) = false:=by simpa using hi
      simp [this,ih]
theorem wr_opens (l:List Ent) (i:Int):(∀ e ∈ l,1≤e.kind)→∀ num,(wrOf l i).opens num = if markedB l i num then none else firstOf l i num:=by
  induction l using snocInd with
  | h0=>intro _ num;rfl
  | hs l e ih =>
    intro hk num
    have hk':∀ x ∈ l,1≤x.kind:=fun x hx=>hk x (by simp [hx])
    have ih:=ih hk'
    have hdn:=wr_done l i hk'
    have he:=hk e (by simp)
    rw [wrOf_snoc,markedB_snoc,firstOf_snoc]
    by_cases hi:e.id = i
    · rw [if_pos hi]
      unfold Wr.step
      by_cases h1:e.kind ≠ 1
      · rw [if_pos h1]
        have hgt:1 < e.kind:=by omega
        have hf:dataB i num e = false:=by simp [dataB,h1]
        simp only [upd]
        by_cases hn:num = e.num
        · subst hn;simp [hi,hgt]
        · have:(e.num == num) = false:=by simp;exact fun h=>hn h.symm
          simp [hn,ih,this,hf]
      · rw [if_neg h1]
        have hng:¬ 1 < e.kind:=by omega
        have hk1:e.kind = 1:=by omega
        simp only [hng,decide_false,Bool.and_false,Bool.or_false]
        by_cases hc:(!((wrOf l i).opens e.num).isSome && !((wrOf l i).done e.num).getD false) = true
        · rw [if_pos hc]
          simp only [Bool.and_eq_true,Bool.not_eq_true'] at hc
          obtain ⟨hc1,hc2⟩:=hc
          have hnm:markedB l i e.num = false:=by
            rw [hdn] at hc2
            cases hm:markedB l i e.num <;> simp [hm] at hc2 ⊢
          have hno:firstOf l i e.num = none:=by
            rw [ih,hnm] at hc1
            simpa using hc1
          simp only [upd]
          by_cases hn:num = e.num
          · subst hn;simp [hnm,hno,dataB,hi,hk1]
          · have:(e.num == num) = false:=by simp;exact fun h=>hn h.symm
            simp [hn,ih,dataB,this]
        · rw [if_neg hc,ih]
          by_cases hn:num = e.num
          · subst hn
            cases hm:markedB l i e.num with
            | true=>simp
            | false =>
              have:(firstOf l i e.num).isSome = true:=by
                rw [ih,hdn,hm] at hc
                cases hq:firstOf l i e.num <;> simp [hq] at hc ⊢
              obtain ⟨n,hfn⟩:=Option.isSome_iff_exists.1 this
              simp [hfn]
          · have:(e.num == num) = false:=by simp;exact fun h=>hn h.symm
            simp [dataB,this]
    · rw [if_neg hi]
      have:(e.id == i) = false:=by simpa using hi
      simp [this,ih,dataB]
theorem mem_opensTo (l:List Ent) (i:Int) (p:List Ent):∀ o,o ∈ opensTo l i 0 p []↔markedB l i o.num = false∧firstOf p i o.num = some o.first:=by
  induction p using snocInd with
  | h0=>intro o;simp [opensTo,firstOf]
  | hs p e ih =>
    intro o
    rw [opensTo_snoc,firstOf_snoc]
    unfold openStep
    have hany:((opensTo l i 0 p []).any fun o=>o.num == e.num) = true↔markedB l i e.num = false∧(firstOf p i e.num).isSome = true:=by
      rw [List.any_eq_true]
      constructor
      · rintro ⟨x,hx,hn⟩
        have hn:x.num = e.num:=by simpa using hn
        have:=(ih x).1 hx
        rw [hn] at this
        exact ⟨this.1,by rw [this.2];rfl⟩
      · rintro ⟨h1,h2⟩
        obtain ⟨f,hf⟩:=Option.isSome_iff_exists.1 h2
        exact ⟨⟨e.num,f⟩,(ih _).2 ⟨h1,hf⟩,by simp⟩
    by_cases hc:(e.id != i || e.kind != 1 || markedB l i e.num) = true
    · rw [if_pos hc,ih]
      by_cases hf:dataB i o.num e = true
      · have hm : markedB l i o.num = true := by
          simp only [dataB,Bool.and_eq_true,beq_iff_eq] at hf
          obtain ⟨⟨h1,h2⟩,h3⟩:=hf
          simpa [h1,h2,h3] using hc
        simp [hm]
      · simp [hf]
    · rw [if_neg hc]
      simp only [Bool.or_eq_true,bne_iff_ne,ne_eq,not_or,Decidable.not_not,Bool.not_eq_true] at hc
      obtain ⟨⟨h1,h2⟩,h3⟩:=hc
      by_cases ha:((opensTo l i 0 p []).any fun o=>o.num == e.num) = true
      · rw [if_pos ha,ih]
        obtain ⟨_,hs⟩:=hany.1 ha
        by_cases hn:o.num = e.num
        · rw [hn]
          obtain ⟨f,hf⟩:=Option.isSome_iff_exists.1 hs
          simp [hf]
        · have:dataB i o.num e = false:=by simp [dataB];intro _ _ h;exact absurd h.symm hn
          simp [this]
      · rw [if_neg ha,List.mem_append,ih,List.mem_singleton]
        have hnone:firstOf p i e.num = none:=by
          cases hq:firstOf p i e.num with
          | none=>rfl
          | some f=>exact absurd (hany.2 ⟨h3,by rw [hq];rfl⟩) ha
        by_cases hn:o.num = e.num
        · have hfb:dataB i o.num e = true:=by simp [dataB,h1,h2,hn]
          rw [hfb]
          obtain ⟨on,of⟩:=o
          simp only at hn
          subst hn
          simp only [hnone,h3,if_true,Option.none_or,true_and,Option.some.injEq,Opn.mk.injEq]
          simp only [reduceCtorEq,false_or]
          constructor
          · intro h;omega
          · intro h;omega
        · have hfb:dataB i o.num e = false:=by simp [dataB];intro _ _ h;exact absurd h.symm hn
          have:o ≠ ⟨e.num,((0 + p.length:Nat):Int)⟩:=fun h=>hn (by rw [h])
          rw [hfb]
          constructor
          · rintro (h|h)
            · simpa using h
            · exact absurd h this
          · intro h;left;simpa using h
theorem mem_opensB (l:List Ent) (i:Int) (o:Opn):o ∈ opensB l i↔markedB l i o.num = false∧firstOf l i o.num = some o.first:=mem_opensTo l i l o
theorem opens_iff {l:List Ent} (hk:∀ e ∈ l,1≤e.kind) (i:Int) (num f:Int):(wrOf l i).opens num = some f↔(⟨num,f⟩:Opn) ∈ opensB l i:=by
  rw [wr_opens l i hk,mem_opensB]
  cases hm:markedB l i num <;> simp
theorem foldl_min_le (xs:List Int):∀ n:Int,xs.foldl min n≤n∧∀ x ∈ xs,xs.foldl min n≤x:=by
  induction xs with
  | nil=>intro n;simp
  | cons x xs ih =>
    intro n
    simp only [List.foldl_cons,List.mem_cons]
    obtain ⟨h1,h2⟩:=ih (min n x)
    refine ⟨Int.le_trans h1 (Int.min_le_left _ _),?_⟩
    rintro y (rfl|hy)
    · exact Int.le_trans h1 (Int.min_le_right _ _)
    · exact h2 y hy
theorem foldl_min_mem (xs:List Int):∀ n:Int,xs.foldl min n = n∨xs.foldl min n ∈ xs:=by
  induction xs with
  | nil=>intro n;simp
  | cons x xs ih =>
    intro n
    simp only [List.foldl_cons,List.mem_cons]
    rcases ih (min n x) with h|h
    · rw [h]
      by_cases h:n≤x
      · exact .inl (by rw [Int.min_def,if_pos h])
      · exact .inr (.inl (by rw [Int.min_def,if_neg h]))
    · exact .inr (.inr h)
theorem foldl_min_congr {xs ys:List Int} (n:Int) (h:∀ x,x ∈ xs↔x ∈ ys):xs.foldl min n = ys.foldl min n:=by
  have key:∀ (a b:List Int),(∀ x,x ∈ a↔x ∈ b)→a.foldl min n≤b.foldl min n:=by
    intro a b h
    rcases foldl_min_mem b n with e|e
    · rw [e];exact (foldl_min_le a n).1
    · exact (foldl_min_le a n).2 _ ((h _).2 e)
  exact Int.le_antisymm (key xs ys h) (key ys xs fun x=>(h x).symm)
theorem minF_eq (n:Int) (os:List Opn):minF n os = (os.map (·.first)).foldl min n:=by
  unfold minF;rw [List.foldl_map]
end Go.Ws
namespace Go.Ws
open Go Go.RowKit Go.Proofs
set_option maxHeartbeats 2000000
set_option maxRecDepth 100000
set_option linter.unusedVariables false
set_option linter.unusedSimpArgs false
theorem look_iff {κ β:Type} [DecidableEq κ] {L:List (κ × β × Nat)} (hn:(L.map (·.1)).Nodup) (k:κ) (v:β):look L k = some v↔∃ b,(k,v,b) ∈ L:=by
  unfold look
  constructor
  · intro h
    cases hf:L.find? (fun x=>decide (x.1 = k)) with
    | none=>rw [hf] at h;cases h
    | some x =>
      rw [hf] at h
      obtain ⟨x1,x2,x3⟩:=x
      simp only [Option.map_some,Option.some.injEq] at h
      have h1:=List.find?_some hf
      have h2:=List.mem_of_find?_eq_some hf
      simp only [decide_eq_true_eq] at h1
      subst h h1
      exact ⟨x3,h2⟩
  · rintro ⟨b,hb⟩
    cases hf:L.find? (fun x=>decide (x.1 = k)) with
    | none =>
      have:=List.find?_eq_none.1 hf _ hb
      simp at this
    | some x =>
      have h1:=List.find?_some hf
      have h2:=List.mem_of_find?_eq_some hf
      have:=inj_of_nodup hn h2 hb (by simpa using h1)
      rw [this];rfl
theorem mem_values {L:List (Int × Int × Nat)} (hn:(L.map (·.1)).Nodup) {xs:List Int} (h:AllOf L (·.2.1) xs) (x:Int):x ∈ xs↔∃ k,look L k = some x:=by
  obtain ⟨P,hP,rfl⟩:=h
  rw [List.mem_map]
  constructor
  · rintro ⟨y,hy,rfl⟩
    exact ⟨y.1,(look_iff hn _ _).2 ⟨y.2.2,hP.mem_iff.1 hy⟩⟩
  · rintro ⟨k,hk⟩
    obtain ⟨b,hb⟩:=(look_iff hn _ _).1 hk
    exact ⟨_,hP.mem_iff.2 hb,rfl⟩
theorem of_right:∀ (l log:List Ent),ofFrom log l = 0→∀ e ∈ l,rightB e = true
  | [],_,_,e,he=>by cases he
  | x :: l,log,h,e,he=>by
    rw [ofFrom] at h
    by_cases hx:appendNo log x = 0
    · rw [if_pos hx] at h
      rcases List.mem_cons.1 he with rfl|he
      · exact (of_no hx).1
      · exact of_right l _ h e he
    · rw [if_neg hx] at h;exact absurd h hx
theorem kinds_of {l:List Ent} (h:ofNo l = 0):∀ e ∈ l,1≤e.kind:=fun e he=>(right_bounds (of_right l [] h e he)).2.2.2.2.1
theorem tabStable_calls {b:Nat} {w:World} {F:Nat→Prop} {l:List Ent} (h:Tab w b F l) (hok:ofNo l = 0):Pure Tryz.prog 104 #[.pointer (some ⟨b,0,none⟩)] w (.int .i64 (stableB l)):=by
  obtain ⟨u,mb,g,h,hF⟩:=h
  have HT:=Lib.hid h
  have hs:=h.seen
  have hcell:=Lib.hid (fun i (hi:i < 4)=>(h.blk.cell (k:=1 + i * 5 + 3) (by omega)).trans (by rw [h.opens i hi]))
  clear h
  obtain ⟨hlt,hmade,hlog,hrd⟩:=hs
  obtain ⟨A0,c,rfl,hc,hcm,-⟩:=hrd.ent
  clear hrd hF
  refine Fn_of Tryz.func104 rfl (Nat.le_of_ble_eq_true rfl) ?_;intro A hd hA;simp only [ix,Nat.reduceAdd];replace hA:A.tmps.size = 28:=hA
  repeat' (first|refine X_pure Tryz.func110 (none_calls (b:=b) (by simp [hlt]) (by simp [hlt,hmade])) ?_|refine X_q ?_|refine X_nil ?_|refine W_seqk (fun K hK=>?_)|refine W_seqr ?_|refine W_skip ?_|refine W_block ?_|refine W_ff ?_|go_step)
  refine W_loops [0,3,13] (fun n vs w'=>∃ (k:Nat) (y:Later w),w' = w.later y∧k + n = 4∧vs = [.pointer (some ⟨b,0,none⟩),.int .i64 (stTo l k),.int .i64 k]) 4 hd hA (by decide) ⟨0,⟨w,Ext.refl w⟩,rfl,by omega,by simp [stTo]⟩ ?_
  clear hd hA A;intro n vs B w' hd hA _ ⟨k,y,hw,hk,hvs⟩;subst hw hvs
  simp only [List.zip_cons_cons,List.zip_nil_right,List.zip_nil_left]
  by_cases hk4:k < 4
  · have hki:(k:Int) < 4:=by omega
    have r4:=hcell.out k hk4
    obtain ⟨L,clock,hL,hf⟩:=HT.out.mopens k hk4
    have HL:=Lib.hid hL
    have Hf:=Lib.hid hf
    clear hL hf
    repeat' (first|refine X_q ?_|refine X_nil ?_|refine W_seqk (fun K hK=>?_)|refine W_seqr ?_|refine W_skip ?_|refine W_block ?_|refine W_tt ?_|go_step)
    refine X_ret Tryz.func133 valuesOf_calls (fun v' w' hR=>?_)
    obtain ⟨bx,rfl,hE',hbx1,hbx2,hbx3⟩:=hR
    obtain ⟨y',rfl⟩:=hE'.get
    clear hE'
    repeat' (first|refine X_q ?_|fail)
    refine X_ret Tryz.func132 (least_calls (stTo l k) (values_iter hbx2 hbx3 (HL.out.later (by simp))) (fun j hj=>by rcases hj with rfl|rfl;exact hbx2;exact (HL.out.later (by simp)).lt)) (fun v' w' hR=>?_)
    obtain ⟨xs,hS,rfl,hE'⟩:=hR
    obtain ⟨y2,rfl⟩:=hE'.get
    clear hE'
    repeat' (first|refine X_q ?_|refine X_nil ?_|refine W_seqr ?_|go_step)
    refine ⟨_,_,rfl,hd,hA,n - 1,by omega,k + 1,(y.trans y').trans y2,rfl,by omega,?_⟩
    have:stTo l (k + 1) = xs.foldl min (stTo l k):=by
      rw [stTo,minF_eq]
      refine foldl_min_congr _ fun x=>?_
      rw [mem_values HL.out.keys hS,List.mem_map]
      constructor
      · rintro ⟨o,ho,rfl⟩
        exact ⟨o.num,by rw [← Hf.out];exact (opens_iff (kinds_of hok) k o.num o.first).2 ho⟩
      · rintro ⟨num,hnum⟩
        rw [← Hf.out] at hnum
        exact ⟨⟨num,x⟩,(opens_iff (kinds_of hok) k num x).1 hnum,rfl⟩
    rw [this]
    simp
  · obtain rfl:k = 4:=by omega
    repeat' (first|refine X_q ?_|refine X_nil ?_|refine W_seqk (fun K hK=>?_)|refine W_seqr ?_|refine W_ret ?_|refine W_exit ?_|refine W_ff ?_|go_step)
    exact Body_ret hd ⟨rfl,by simp⟩
theorem first_calls (l : List Ent) (v : Value) (n : Int) (w : World) (hl : RdE w v l) : Ret Tryz.prog 101 #[v, .int .i64 n] w fun v' w' => Ext w w' ∧ (ofNo l ≠ 0 → v' = .tuple #[.pointer none, .int .i64 2]) ∧
    (ofNo l = 0→(n < 0∨(l.length:Int) < n)→v' = .tuple #[.pointer none,.int .i64 4]) ∧
    (ofNo l = 0→¬ (n < 0∨(l.length:Int) < n)→∃ b,v' = .tuple #[.pointer (some ⟨b,0,none⟩),.int .i64 0]∧Tab w' b (fun k=>w.heap.size≤k) (l.take n.toNat)):=by
  have hl0:=Lib.hid hl
  obtain ⟨A0,c,rfl,hc,hcm,HR⟩:=hl.ent
  clear hl HR
  refine Fn_of Tryz.func101 rfl (Nat.le_of_ble_eq_true rfl) ?_;intro A hd hA;simp only [ix,Nat.reduceAdd];replace hA:A.tmps.size = 22:=hA
  repeat' (first|refine X_q ?_|refine X_nil ?_|refine W_seqk (fun K hK=>?_)|refine W_seqr ?_|go_step)
  refine X_ret Tryz.func57 (tabOf_calls l _ _ hl0.out) (fun v' w' hR=>?_)
  obtain ⟨hE',hR0,hR1⟩:=hR
  obtain ⟨y',rfl⟩:=hE'.get
  clear hE'
  by_cases h0:ofNo l = 0
  · obtain ⟨b,rfl,hT⟩:=hR0 h0
    have HT:=Lib.hid hT
    clear hR0 hR1 hT
    repeat' (first|refine X_q ?_|refine X_nil ?_|refine W_seqk (fun K hK=>?_)|refine W_seqr ?_|refine W_block ?_|refine W_ff ?_|go_step)
    refine X_ret Tryz.func126 (tabTrunc_calls HT.out h0 n) (fun v' w' hR=>?_)
    by_cases hn:n < 0∨(l.length:Int) < n
    · rw [if_pos hn] at hR
      obtain ⟨rfl,hE'⟩:=hR
      obtain ⟨y2,rfl⟩:=hE'.get
      have HN:=Lib.hid hn
      clear hn
      repeat' (first|refine X_q ?_|refine X_nil ?_|refine W_seqk (fun K hK=>?_)|refine W_seqr ?_|refine W_ret ?_|refine W_tt ?_|go_step)
      exact Body_ret2 hd ⟨by simp,fun h=>absurd h0 h,fun _ _=>rfl,fun _ h=>absurd HN.out h⟩
    · rw [if_neg hn] at hR
      obtain ⟨rfl,hM,hT'⟩:=hR
      have hE':Ext w w':=Ext.fresh y'.2 hM (fun i h=>h)
      obtain ⟨y2,rfl⟩:=hE'.get
      have HN:=Lib.hid hn
      have HT':=Lib.hid hT'
      clear hn hT' hE'
      repeat' (first|refine X_q ?_|refine X_nil ?_|refine W_seqk (fun K hK=>?_)|refine W_seqr ?_|refine W_ret ?_|refine W_skip ?_|refine W_ff ?_|go_step)
      exact Body_ret2 hd ⟨y2.2,fun h=>absurd h0 h,fun _ h=>absurd h HN.out,fun _ _=>⟨b,rfl,HT'.out.mono (fun k hk=>hk.elim id (fun h=>Nat.le_trans y'.2.size h))⟩⟩
  · have hv:=hR1 h0
    subst hv
    clear hR0 hR1
    have H0:=Lib.hid h0
    have h0':(ofNo l != 0) = true:=by simpa using h0
    clear h0
    repeat' (first|refine X_q ?_|refine X_nil ?_|refine W_seqk (fun K hK=>?_)|refine W_seqr ?_|refine W_ret ?_|refine W_block ?_|refine W_tt ?_|go_step)
    exact Body_ret2 hd ⟨y'.2,fun _=>rfl,fun h=>absurd h H0.out,fun h=>absurd h H0.out⟩
theorem Body_retcell {P : Program} {fn : Func} {R : Res} {e : Exit} {t b : Nat} {ty : TypeId} {td : TypeDesc} {cs : List Value} {w : World} {l : List (Nat × Value)} {A : Act} {g : Nat → Value} {E : TypeId} (hd : A.defers = []) (hR : R (.returned (.agg cs.toArray)) w) (hb : Blk w b E cs.length g) (hg : ∀ k, k < cs.length → cs[k]? = some (g k))
    (hu:P.underlying ty = some td) (hr:fn.results = #[.cell t ty]:=by rfl) (htd:(match td with|.struct _|.array _ _=>true|_=>false) = true:=by rfl) (hi:(P.info? ty).map (·.size) = some cs.length:=by kernel_rfl)
    (he:e = .ret∨e = .normal:=by first|exact .inl rfl|exact .inr rfl) (hv:Is ((fr l A).tmps.getD t undef) (.pointer (some ⟨b,0,none⟩)):=by go_simp;exact Is.mk _):Body P fn R e (fr l A) w:=by
  have key:∀ x:Later w,(results fn (fr l A).tmps).run P (w.later x) = .ok (.agg cs.toArray) (w.later x):=by
    intro x
    obtain ⟨arr,h,hs,hk⟩:=hb.later (w':=w.later x) x.2
    have:arr = cs.toArray:=by
      apply Array.ext
      · simpa using hs
      · intro k h1 h2
        have h3:=hk k (by omega)
        have h4:=hg k (by omega)
        rw [← h4] at h3
        simpa [h1,List.getElem?_eq_getElem (show k < cs.length by omega)] using h3
    subst this
    exact results_cell_row hr _ _ b E cs.toArray (0,0) td hv.eq h hu htd (by simpa using hi)
  unfold Body
  rcases he with rfl|rfl <;> exact ⟨w,by rw [fr_defers,hd];rfl,_,key,hR⟩
theorem txnOf_calls (e:Ent) (w:World):Pure Tryz.prog 129 #[e.v] w (kp (e.id,e.num)):=by
  refine Fn_of Tryz.func129 rfl (Nat.le_of_ble_eq_true rfl) ?_;intro A hd hA;simp only [ix,Nat.reduceAdd];replace hA:A.tmps.size = 8:=hA
  repeat' (first|refine X_q ?_|refine X_nil ?_|refine W_seqk (fun K hK=>?_)|refine W_seqr ?_|(refine X_s (fun x K hK=>?_);go_simp;refine hK _ _ (Ext.alloc _ _) ?_;clear hK K;refine X_al x ?_;generalize (World.later _ x).heap.size = bn;intro yn hn1 hn2 hn3 hn4 hn5;clear x)|go_step)
  refine X_store (off:=0) (n:=2) (Blk.new hn5.out) (fun W' hM hB=>?_)
  have hE:Ext w W':=Ext.fresh (F:=(· = bn)) (by simp:Ext w ((w.later _).later yn)) hM (fun i h=>by subst h;have:=size_later w ‹Later w›;omega)
  repeat' (first|refine X_nil ?_|refine W_ret ?_|go_step)
  exact Body_retcell (cs:=[.int .i64 e.id,.int .i64 e.num]) hd ⟨rfl,hE⟩ hB (fun k hk=>by
    obtain rfl|rfl:k = 0∨k = 1:=by simp at hk;omega
    · rfl
    · rfl) Tryz.underlying192
theorem keysTxn:Keys Tryz.prog 192 kp:=pairs_keys (e2:=2) Tryz.underlying192 Tryz.underlying2 (i2:=_) rfl rfl
theorem with_calls {w : World} {m b : Nat} {f : Int × Int → Option Bool} {p : Int × Int} (hm : MapIs kp vB w m f) (hb : b < w.heap.size) (c0 : w.cell? ⟨b, 0, none⟩ = some (.int .i64 p.1)) (c1 : w.cell? ⟨b, 1, none⟩ = some (.int .i64 p.2)) (hbm : b ≠ m) :
    Ret Tryz.prog 128 #[.map (some m),.slice (some ⟨b,0,none⟩) 1 1] w fun v w'=>v = .map (some m)∧Mod (· = m) w w'∧MapIs kp vB w' m (upd f p (some true)):=by
  refine Fn_of Tryz.func128 rfl (Nat.le_of_ble_eq_true rfl) ?_;intro A hd hA;simp only [ix,Nat.reduceAdd];replace hA:A.tmps.size = 17:=hA
  repeat' (first|refine X_q ?_|refine X_nil ?_|refine W_seqk (fun K hK=>?_)|refine W_seqr ?_|refine W_block ?_|go_step)
  refine W_loops [0,7,8,9] (fun n vs w'=>(n = 1∧w' = w∧vs = [.map (some m),.slice (some ⟨b,0,none⟩) 1 1,.int .i64 1,.int .i64 0])∨(n = 0∧Mod (· = m) w w'∧MapIs kp vB w' m (upd f p (some true))∧vs = [.map (some m),.slice (some ⟨b,0,none⟩) 1 1,.int .i64 1,.int .i64 1])) 1 hd hA (by decide) (.inl ⟨rfl,rfl,by simp⟩) ?_
  clear hd hA A;intro n vs B w' hd hA _ hI
  rcases hI with ⟨rfl,rfl,rfl⟩|⟨rfl,hM,hMI,rfl⟩
  · simp only [List.zip_cons_cons,List.zip_nil_right,List.zip_nil_left]
    repeat' (first|refine X_q ?_|refine X_nil ?_|(refine X_var (fun yn bn hn1 hn2 hn3 hn4 hn5=>?_))|refine W_seqk (fun K hK=>?_)|refine W_seqr ?_|refine W_skip ?_|refine W_block ?_|refine W_tt ?_|go_step)
    refine X_mapset (kenc:=kp) (venc:=vB) (hm.later (by simp)) keysTxn Tryz.underlying189 p true (fun W' hM hB=>?_)
    repeat' (first|refine X_q ?_|refine X_nil ?_|refine W_seqr ?_|go_step)
    refine ⟨_,_,rfl,hd,hA,0,by omega,.inr ⟨rfl,Mod.trans yn.2 hM (fun _ _ h=>h.elim) (fun _ _ h=>h),hB,by simp⟩⟩
  · simp only [List.zip_cons_cons,List.zip_nil_right,List.zip_nil_left]
    repeat' (first|refine X_q ?_|refine X_nil ?_|refine W_seqk (fun K hK=>?_)|refine W_seqr ?_|refine W_ret ?_|refine W_exit ?_|refine W_ff ?_|go_step)
    exact Body_ret hd ⟨rfl,hM,hMI⟩
def comm (l:List Ent):Int × Int→Option Bool:=fun p=>if ∃ e ∈ l,e.kind = 2∧(e.id,e.num) = p then some true else none
theorem comm_nil:comm [] = fun _=>none:=by funext p;simp [comm]
theorem comm_snoc (l:List Ent) (e:Ent):comm (l ++ [e]) = if e.kind = 2 then upd (comm l) (e.id,e.num) (some true) else comm l:=by
  funext p
  by_cases hk:e.kind = 2
  · simp only [hk,if_true,upd]
    by_cases hp:(e.id,e.num) = p
    · subst hp
      simp only [if_true,comm]
      rw [if_pos ⟨e,by simp,hk,rfl⟩]
    · have hp':¬ p = (e.id,e.num):=fun h=>hp h.symm
      simp only [hp',if_false,comm]
      congr 1
      apply propext
      constructor
      · rintro ⟨x,hx,h1,h2⟩
        rcases List.mem_append.1 hx with hx|hx
        · exact ⟨x,hx,h1,h2⟩
        · rw [List.mem_singleton.1 hx] at h2;exact absurd h2 hp
      · rintro ⟨x,hx,h⟩;exact ⟨x,by simp [hx],h⟩
  · simp only [hk,if_false,comm]
    congr 1
    apply propext
    constructor
    · rintro ⟨x,hx,h1,h2⟩
      rcases List.mem_append.1 hx with hx|hx
      · exact ⟨x,hx,h1,h2⟩
      · rw [List.mem_singleton.1 hx] at h1;exact absurd h1 hk
    · rintro ⟨x,hx,h⟩;exact ⟨x,by simp [hx],h⟩
structure VIt (w:World) (lb:Array Value) (v:Value) (s:Int) (l:List Ent) (F:Nat→Prop):Prop where
  ex:∃ b1 b2 b5 b8 m,lb = #[.pointer (some ⟨b1,0,none⟩),.pointer (some ⟨b2,0,none⟩),.pointer (some ⟨b8,0,none⟩)]∧b1 < w.heap.size∧b2 < w.heap.size∧b5 < w.heap.size∧b8 < w.heap.size∧F b1∧F b2∧F b5∧F b8∧F m ∧
    w.cell? ⟨b1,0,none⟩ = some v∧w.cell? ⟨b2,0,none⟩ = some (.int .i64 s)∧w.cell? ⟨b8,0,none⟩ = some (.func (.func 130) #[] #[.pointer (some ⟨b5,0,none⟩)])∧w.cell? ⟨b5,0,none⟩ = some (.map (some m))∧MapIs kp vB w m (comm l)
structure VMid (w W:World) (b1 b2 b5 m:Nat) (v:Value) (s:Int) (l:List Ent):Prop where
  n1:w.heap.size≤b1
  n2:w.heap.size≤b2
  n5:w.heap.size≤b5
  nm:w.heap.size≤m
  k1:Blk W b1 29 1 (fun _=>v)
  k2:Blk W b2 3 1 (fun _=>.int .i64 s)
  k5:Blk W b5 189 1 (fun _=>.map (some m))
  hm:MapIs kp vB W m (comm l)
theorem MapIs.nblk {κ β:Type} [DecidableEq κ] {kenc:κ→Value} {venc:β→Value} {w:World} {m b n:Nat} {E:TypeId} {f:κ→Option β} {g:Nat→Value} (h:MapIs kenc venc w m f) (hb:Blk w b E n g):b ≠ m:=by
  rintro rfl
  obtain ⟨cs,hc,_⟩:=hb
  exact not_map_cells hc h
theorem VMid.up {w W W':World} {b1 b2 b5 m:Nat} {v:Value} {s:Int} {l:List Ent} (h:VMid w W b1 b2 b5 m v s l) (hE:Ext W W'):VMid w W' b1 b2 b5 m v s l :=
  ⟨h.n1,h.n2,h.n5,h.nm,h.k1.later hE,h.k2.later hE,h.k5.later hE,h.hm.later hE⟩
theorem VMid.set {w W W':World} {b1 b2 b5 m:Nat} {v:Value} {s:Int} {l l':List Ent} (h:VMid w W b1 b2 b5 m v s l) (hM:Mod (· = m) W W') (hm:MapIs kp vB W' m (comm l')):VMid w W' b1 b2 b5 m v s l' :=
  ⟨h.n1,h.n2,h.n5,h.nm,h.k1.mod hM (h.hm.nblk h.k1),h.k2.mod hM (h.hm.nblk h.k2),h.k5.mod hM (h.hm.nblk h.k5),hm⟩
theorem view_calls (l:List Ent) (v:Value) (s:Int) (w:World) (hl:RdE w v l):Ret Tryz.prog 103 #[v,.int .i64 s] w fun v' w'=>∃ lb,v' = .func (.func 131) #[] lb∧Ext w w'∧VIt w' lb v s l (fun k=>w.heap.size≤k):=by
  have hl0:=Lib.hid hl
  obtain ⟨A0,c,rfl,hc,hcm,HR⟩:=hl.ent
  clear hl
  refine Fn_of Tryz.func103 rfl (Nat.le_of_ble_eq_true rfl) ?_;intro A hd hA;simp only [ix,Nat.reduceAdd];replace hA:A.tmps.size = 27:=hA
  repeat' (first|refine X_q ?_|refine X_nil ?_|refine W_seqk (fun K hK=>?_)|refine W_seqr ?_|(refine X_s (fun x K hK=>?_);go_simp;refine hK _ _ (Ext.alloc _ _) ?_;clear hK K;refine X_al x ?_;generalize (World.later _ x).heap.size = bn;intro yn hn1 hn2 hn3 hn4 hn5;clear x)|go_step)
  refine X_s (fun x K hK=>?_);go_simp;refine hK _ _ (Ext.alloc _ _) ?_;clear hK K;refine X_alm x ?_;generalize (World.later _ x).heap.size = m;intro ym hm1 hm2 hm3;clear x
  repeat' (first|(refine X_s (fun x K hK=>?_);go_simp;refine hK _ _ (Ext.alloc _ _) ?_;clear hK K;refine X_al x ?_;generalize (World.later _ x).heap.size = bn;intro yn hn1 hn2 hn3 hn4 hn5;clear x)|fail)
  rename_i b1 y1 p11 p12 p13 p14 p15 b2 y2 p21 p22 p23 p24 p25
  rename Nat=>b5
  refine X_store (off:=0) (Blk.one hn5.out) (fun W' hM hB=>?_)
  have hE0:Ext w ((((w.later y1).later y2).later ym).later yn):=by simp
  have s1:=y1.2.size
  have s2:=y2.2.size
  have s3:=ym.2.size
  have s4:=yn.2.size
  have HV:Hid (VMid w W' b1 b2 b5 m (.slice A0 l.length c) s (l.take 0)):=Lib.hid (by
    refine ⟨p11,?_,?_,?_,?_,?_,?_,?_⟩
    · exact Nat.le_trans s1 p21
    · exact Nat.le_trans s1 (Nat.le_trans s2 (Nat.le_trans s3 hn1))
    · exact Nat.le_trans s1 (Nat.le_trans s2 hm1)
    · exact ((Blk.one p15.out).later (by simp:Ext (w.later y1) ((((w.later y1).later y2).later ym).later yn))).mod hM (by omega)
    · exact ((Blk.one p25.out).later (by simp:Ext ((w.later y1).later y2) ((((w.later y1).later y2).later ym).later yn))).mod hM (by omega)
    · exact hB.congr (fun k hk => by obtain rfl : k = 0 := by omega
                                     simp [put_one,Value.cells])
    · rw [List.take_zero,comm_nil]
      exact (MapIs.empty (heap_later _ yn _ hm2▸hm3.out)).mod hM (by omega))
  have hE:Ext w W':=Ext.fresh hE0 hM (by rintro _ rfl;exact Nat.le_trans s1 (Nat.le_trans s2 (Nat.le_trans s3 hn1)))
  clear hB hM hE0 s1 s2 s3 s4 p11 p12 p13 p14 p15 p21 p22 p23 p24 p25 hm1 hm2 hm3 hn1 hn2 hn3 hn4 hn5
  obtain ⟨y',rfl⟩:=hE.get
  have c5:=HV.out.k5.cell (k:=0) (by omega)
  have c1:=HV.out.k1.cell (k:=0) (by omega)
  have l5:=HV.out.k5.lt
  have l1:=HV.out.k1.lt
  repeat' (first|refine X_q ?_|refine X_nil ?_|refine W_seqk (fun K hK=>?_)|refine W_seqr ?_|refine W_block ?_|go_step)
  refine W_loops [2,3,5,10,11,12] (fun n vs w'=>∃ (k:Nat) (y:Later w),w' = w.later y∧n + k = l.length∧vs = [.pointer (some ⟨b1,0,none⟩),.pointer (some ⟨b2,0,none⟩),.pointer (some ⟨b5,0,none⟩),.slice A0 l.length c,.int .i64 l.length,.int .i64 k]∧VMid w (w.later y) b1 b2 b5 m (.slice A0 l.length c) s (l.take k)) l.length hd hA (by decide) ?_ ?_
  · exact ⟨0,y',rfl,by omega,by simp,HV.out⟩
  clear HV c5 c1 l5 l1 hE yn ym y2 y1 y'
  clear hd hA A;intro n vs B w' hd hA _ ⟨k,y,hw,hk,hvs,hM⟩;subst hw hvs
  simp only [List.zip_cons_cons,List.zip_nil_right,List.zip_nil_left]
  have HV:=Lib.hid hM
  have c5:=HV.out.k5.cell (k:=0) (by omega)
  have l5:=HV.out.k5.lt
  clear hM
  by_cases hlt:k < l.length
  · obtain ⟨e,be,oe,he,hA0,hbe,r0,r1,r2,r3,r4,r5⟩:=HR.out k hlt
    subst hA0
    have hki:(k:Int) < l.length:=by omega
    repeat' (first|refine X_q ?_|refine X_nil ?_|(refine X_var (fun yn bn hn1 hn2 hn3 hn4 hn5=>?_))|refine W_seqk (fun K hK=>?_)|refine W_seqr ?_|refine W_skip ?_|refine W_block ?_|refine W_tt ?_|refine W_test (fun hc=>?_) (fun hc=>?_)|go_step)
    · refine W_drawσ [(0,0),(1,0),(2,1),(3,1),(4,2)] (by kernel_rfl) (by kernel_rfl) ?_
      simp only [List.map_cons,List.map_nil,List.getD_cons_zero,List.getD_cons_succ]
      repeat' (first|(refine X_pure1 Tryz.func129 (fun x=>txnOf_calls e _) ?_)|refine X_q ?_|(refine X_s (fun x K hK=>?_);go_simp;refine hK _ _ (Ext.alloc _ _) ?_;clear hK K;refine X_al x ?_;generalize (World.later _ x).heap.size = bn;intro yn hn1 hn2 hn3 hn4 hn5;clear x)|fail)
      have q0:=hn3 0
      have q1:=hn3 1
      refine X_ret Tryz.func128 (with_calls (p:=(e.id,e.num)) (HV.out.hm.later (by simp)) hn2 q0 q1 ?_) (fun v' w' hR=>?_)
      · have:m < (w.later y).heap.size:=HV.out.hm.lt
        have h2:(w.later y).heap.size≤((w.later y).later ‹Later (w.later y)›).heap.size:=(‹Later (w.later y)›).2.size
        omega
      obtain ⟨rfl,hM,hMI⟩:=hR
      have hV2:=(HV.out.up (ext_l1 _ _ yn)).set (l':=l.take (k + 1)) hM (by
        rw [take_snoc he.out,comm_snoc,if_pos (by simpa using hc)];exact hMI)
      have hE:Ext w w':=Ext.fresh (by simp:Ext w (((w.later y).later ‹Later (w.later y)›).later yn)) hM (by rintro _ rfl;exact HV.out.nm)
      obtain ⟨y',rfl⟩:=hE.get
      repeat' (first|refine X_q ?_|refine X_niln ?_|refine X_nil ?_|refine W_seqr ?_|go_step)
      exact ⟨_,_,rfl,hd,hA,n - 1,by omega,k + 1,y',rfl,by omega,by simp,hV2⟩
    · refine ⟨_,_,rfl,hd,hA,n - 1,by omega,k + 1,⟨_,ext_l1 w y yn⟩,rfl,by omega,by simp,?_⟩
      have:=HV.out.up yn.2
      rw [take_snoc he.out]
      refine ⟨this.n1,this.n2,this.n5,this.nm,this.k1,this.k2,this.k5,?_⟩
      rw [comm_snoc,if_neg (by simpa using hc)]
      exact this.hm
  · obtain rfl:k = l.length:=by omega
    have HL:=Lib.hid hlt
    clear hlt
    repeat' (first|refine X_q ?_|refine X_nil ?_|refine W_seqk (fun K hK=>?_)|refine W_seqr ?_|refine W_exit ?_|(refine X_s (fun x K hK=>?_);go_simp;refine hK _ _ (Ext.alloc _ _) ?_;clear hK K;refine X_al x ?_;generalize (World.later _ x).heap.size = bn;intro yn hn1 hn2 hn3 hn4 hn5;clear x)|refine W_ff ?_|go_step)
    refine X_store (off:=0) (Blk.one hn5.out) (fun W' hM hB=>?_)
    have hE:Ext w W':=Ext.fresh (by simp:Ext w ((w.later y).later yn)) hM (by rintro _ rfl;exact Nat.le_trans y.2.size hn1)
    obtain ⟨y',rfl⟩:=hE.get
    have hV2:VMid w (w.later y') b1 b2 b5 m (.slice A0 l.length c) s (l.take l.length):=by
      have hv:=HV.out
      have h0:∀ b,b < (w.later y).heap.size→¬ (b = bn):=by intro b hb;omega
      exact ⟨hv.n1,hv.n2,hv.n5,hv.nm,(hv.k1.later yn.2).mod hM (h0 _ hv.k1.lt),(hv.k2.later yn.2).mod hM (h0 _ hv.k2.lt),(hv.k5.later yn.2).mod hM (h0 _ hv.k5.lt),(hv.hm.later yn.2).mod hM (h0 _ hv.hm.lt)⟩
    rw [List.take_length] at hV2
    have hv2:=Lib.hid hV2
    clear hV2 HV
    repeat' (first|refine X_q ?_|refine X_nil ?_|refine W_seqk (fun K hK=>?_)|refine W_seqr ?_|refine W_ret ?_|go_step)
    refine Body_ret hd ⟨_,rfl,hE,b1,b2,b5,bn,m,rfl,hv2.out.k1.lt,hv2.out.k2.lt,hv2.out.k5.lt,hB.lt,hv2.out.n1,hv2.out.n2,hv2.out.n5,Nat.le_trans y.2.size hn1,hv2.out.nm,hv2.out.k1.cell (by omega),hv2.out.k2.cell (by omega),?_,hv2.out.k5.cell (by omega),hv2.out.hm⟩
    exact (hB.cell (k:=0) (by omega)).trans rfl
theorem X_gyield {P : Program} {Q : Post} {w : World} {A : Act} {fl : List (Nat × Value)} {ops : Array Oper} {o : Oper} {rest : List (Oper × Nat)} {l : Nat} {s : Operand} {la : List Operand} {ats : Array TypeId} {lv lv' : List Value} {R : Bool → World → Prop} {d j t : Nat} {want g : Bool}
    (hY:g = true→∀ x:Later w,YieldW P l lv.toArray (w.later x) fun e W'=>∃ b,e = .returned (.bool b)∧R b W') (h:∀ b W',g = true→R b W'→wpX P ops Q rest (fr ((d,.bool b) :: fl) A) W') (hf:g = false→wpX P ops Q rest (fr ((d,undef) :: fl) A) w)
    (hop:o.op = .call { callee:=.value s,args:=la.toArray,argTypes:=ats }:=by rfl) (hd:o.dst = some d:=by rfl)
    (hg:o.guard = some (j,want):=by rfl) (ht:(ops[j]?).bind (·.dst) = some t:=by rfl) (hgg:Is (gw ((fr fl A).tmps.getD t undef) want) g:=by go_simp;exact Is.mk _)
    (hs:g = true→Is ((fr fl A).eval s) (.func (.yield l) #[] #[]):=by intro hb;(try subst hb);go_simp;exact Is.mk _) (hargs:g = true→Is (la.map (fr fl A).eval) lv':=by intro hb;(try subst hb);go_simp;exact Is.mk _) (hlv:lv' = lv:=by rfl):wpX P ops Q ((o,2) :: rest) (fr fl A) w:=by
  refine X_gop (g:=g) (fun hgt x=>?_) (fun hgf=>by rw [hd,fr_put];exact hf hgf) hg ht hgg
  unfold OpW
  obtain ⟨fn,tmps,assign,body,hy,hR⟩:=hY hgt x
  rw [run_yieldcall hop (hs hgt).eq,(hargs hgt).eq,hlv,hy]
  simp only [uponW]
  refine RoundIn.mono hR fun e w' hR'=>?_
  obtain ⟨b,rfl,hb⟩:=hR'
  exact ⟨w',Ext.refl _,by rw [hd,fr_put];exact h b w' hgt hb⟩
theorem seenB_comm (l:List Ent) (e:Ent):(decide (e.id < 0) || (comm l (e.id,e.num)).getD false) = seenB l e:=by
  unfold seenB comm
  congr 1
  rw [Bool.eq_iff_iff]
  simp only [List.any_eq_true,Bool.and_eq_true,beq_iff_eq,Prod.mk.injEq]
  constructor
  · intro h
    split at h
    · rename_i hx
      obtain ⟨x,hx,h1,h2,h3⟩:=hx
      exact ⟨x,hx,⟨h2,h3⟩,h1⟩
    · cases h
  · rintro ⟨x,hx,⟨h2,h3⟩,h1⟩
    rw [if_pos ⟨x,hx,h1,h2,h3⟩];rfl
theorem seen_calls {w : World} {b5 m : Nat} (l : List Ent) (e : Ent) (hb : b5 < w.heap.size) (c5 : w.cell? ⟨b5, 0, none⟩ = some (.map (some m))) (hm : MapIs kp vB w m (comm l)) :
    Pure Tryz.prog 130 #[e.v,.pointer (some ⟨b5,0,none⟩)] w (.bool ((e.kind == 1) && seenB l e)):=by
  refine Fn_of Tryz.func130 rfl (Nat.le_of_ble_eq_true rfl) ?_;intro A hd hA;simp only [ix,Nat.reduceAdd];replace hA:A.tmps.size = 18:=hA
  repeat' (first|refine X_q ?_|refine X_nil ?_|refine W_seqk (fun K hK=>?_)|refine W_seqr ?_|(refine X_s (fun x K hK=>?_);go_simp;refine hK _ _ (Ext.alloc _ _) ?_;clear hK K;refine X_al x ?_;generalize (World.later _ x).heap.size = bn;intro yn hn1 hn2 hn3 hn4 hn5;clear x)|go_step)
  refine W_drawσ [(0,0),(1,0),(2,0),(3,0),(4,0),(5,0),(6,0),(7,0),(8,0),(9,0),(10,1),(11,0),(12,0),(13,0),(14,0)] (by kernel_rfl) (by kernel_rfl) ?_
  simp only [List.map_cons,List.map_nil,List.getD_cons_zero,List.getD_cons_succ]
  repeat' (first|(refine X_gpure1 Tryz.func129 (fun _ x=>txnOf_calls e _) ?_)|refine X_d (fun vb hvb=>?_)|refine X_dg (fun vb hvb=>?_)|refine X_q ?_|refine X_g ?_|fail)
  refine X_glook (hm.later (by simp)) keysTxn Tryz.underlying189 (z:=default) (e.id,e.num) ?_
  repeat' (first|refine X_q ?_|refine X_g ?_|refine X_niln ?_|refine W_ret ?_|go_step)
  refine Body_ret hd ⟨?_,by simp⟩
  rw [← seenB_comm]
  repeat cases ‹Eqn _ _›
  cases (e.kind == 1) <;> cases (decide (e.id < 0)) <;> rfl
theorem viewTo_succ {p:List Ent} {k:Nat} {e:Ent} (h:p[k]? = some e):viewTo p (k + 1) = viewTo p k ++ (if ((e.kind == 1) && seenB p e) = true then [(k:Int)] else []):=by
  conv=>lhs;unfold viewTo
  simp only [h,viewStep]
  cases hk:(e.kind == 1)
  · simp at hk;simp [hk]
  · simp at hk;cases seenB p e <;> simp [hk]
theorem view_iter {w : World} {lb : Array Value} {v : Value} {s : Nat} {l : List Ent} {F : Nat → Prop} (hl : RdE w v l) (hs : s ≤ l.length) (hv : VIt w lb v s l F) :
    Iter Tryz.prog 131 lb (fun x:Int=>#[.int .i64 x]) (fun xs=>xs = viewTo l s) (fun xs=>xs.length≤l.length) (fun k=>k < w.heap.size) w:=by
  intro ll J Jx B0 W hE hJ hJx hJlt hY h0 hB0
  have hup:∀ {pre B V V'},J pre B V→Ext V V'→J pre B V':=fun h hE=>hJ _ _ _ _ h (Mod.mono hE (fun _ _ h=>h.elim))
  obtain ⟨b1,b2,b5,b8,m,rfl,l1,l2,l5,l8,-,-,-,-,-,c1,c2,c8,c5,hm⟩:=hv.ex
  have main:Ret Tryz.prog 131 #[.func (.yield ll) #[] #[],.pointer (some ⟨b1,0,none⟩),.pointer (some ⟨b2,0,none⟩),.pointer (some ⟨b8,0,none⟩)] W fun v W'=>(∃ xs B,xs = viewTo l s∧J xs B W')∨∃ pre,Jx pre W':=by
    obtain ⟨yW,rfl⟩:=hE.get
    obtain ⟨A0,c,rfl,hc,hcm,HR⟩:=hl.ent
    have HY:=Lib.hid hY
    have HJ:=Lib.hid hJ
    have H0:=Lib.hid h0
    have HB0:=Lib.hid hB0
    have HLT:=Lib.hid hJlt
    clear hY hJ h0 hB0 hJlt hJx hl hv
    refine Fn_of Tryz.func131 rfl (Nat.le_of_ble_eq_true rfl) ?_;intro A hd hA;simp only [ix,Nat.reduceAdd];replace hA:A.tmps.size = 26:=hA
    have hsi:(s:Int)≤l.length:=by omega
    have hsc:(s:Int)≤c:=by omega
    repeat' (first|refine X_q ?_|refine X_nil ?_|refine W_seqk (fun K hK=>?_)|refine W_seqr ?_|refine W_block ?_|go_step)
    refine W_loops [0,3,9,10,11] (fun n vs w'=>∃ (k:Nat) (y:Later w) (B:Nat→Prop),w' = w.later y∧n + k = s∧vs = [.func (.yield ll) #[] #[],.pointer (some ⟨b8,0,none⟩),.slice A0 s c,.int .i64 s,.int .i64 k]∧J (viewTo l k) B (w.later y)∧∀ k,B k→w.heap.size≤k) s hd hA (by decide) ?_ ?_
    · exact ⟨0,yW,B0,rfl,by omega,by simp,H0.out,fun k hk=>by have:=HB0.out k hk;omega⟩
    clear hd hA A;intro n vs B w' hd hA _ ⟨k,y,Bs,hw,hn,hvs,hj,hb⟩;subst hw hvs
    simp only [List.zip_cons_cons,List.zip_nil_right,List.zip_nil_left]
    have HJ1:=Lib.hid hj
    have HBs:=Lib.hid hb
    clear hj hb
    by_cases hlt:k < s
    · obtain ⟨e,be,oe,he,hA0,hbe,r0,r1,r2,r3,r4,r5⟩:=HR.out k (by omega)
      subst hA0
      have hki:(k:Int) < s:=by omega
      repeat' (first|refine X_q ?_|refine X_nil ?_|refine W_seqk (fun K hK=>?_)|refine W_seqr ?_|refine W_skip ?_|refine W_block ?_|(refine X_s (fun x K hK=>?_);go_simp;refine hK _ _ (Ext.alloc _ _) ?_;clear hK K;refine X_al x ?_;generalize (World.later _ x).heap.size = bn;intro yn hn1 hn2 hn3 hn4 hn5;clear x)|refine W_tt ?_|go_step)
      refine X_store (off:=0) (n:=6) (v:=e.v) (Blk.new hn5.out) (fun W' hM hB=>?_)
      have hE:Ext w W':=Ext.fresh (F:=(· = bn)) (by simp:Ext w ((w.later y).later yn)) hM (fun i h=>by subst h;exact Nat.le_trans y.2.size hn1)
      have hE1:Ext (w.later y) W':=Ext.fresh (F:=(· = bn)) (by simp:Ext (w.later y) ((w.later y).later yn)) hM (fun i h=>by subst h;exact hn1)
      have hj:=Lib.hid (hup HJ1.out hE1)
      have hbt:=hB.lt
      have q0:=hB.cell (k:=0) (by omega)
      have q1:=hB.cell (k:=1) (by omega)
      have q2:=hB.cell (k:=2) (by omega)
      have q3:=hB.cell (k:=3) (by omega)
      have q4:=hB.cell (k:=4) (by omega)
      have q5:=hB.cell (k:=5) (by omega)
      have hf:=fun k=>hB.frozen k
      clear hn1 hn2 hn3 hn4 hn5 hM hB hE1 HJ1 yn
      obtain ⟨y',rfl⟩:=hE.get
      repeat' (first|refine X_q ?_|refine X_nil ?_|refine W_seqk (fun K hK=>?_)|refine W_seqr ?_|go_step)
      refine X_valret (lv:=[e.v]) (first:=#[]) (captured:=#[.pointer (some ⟨b5,0,none⟩)]) Tryz.func130 (by simpa using seen_calls (w:=w.later y') l e (by have:w.heap.size≤(w.later y').heap.size:=y'.2.size;omega) (by rw [← c5];exact World.cell?_of_block (y'.2.block b5 l5 (fun h=>h))) (hm.later y'.2)) (fun v' w' hR=>?_)
      obtain ⟨rfl,hE'⟩:=hR
      have HJ2:=Lib.hid (hup hj.out hE')
      clear hj q0 q1 q2 q3 q4 q5 hf hbt
      have hE2:=Ext.trans hE hE'
      clear hE hE'
      obtain ⟨y2,rfl⟩:=hE2.get
      clear y'
      repeat' (first|refine X_d (fun vb hvb=>?_)|refine X_g ?_|fail)
      refine X_gyield (g:=vb) (lv:=[.int .i64 k]) (l:=ll) (R:=fun b W'=>(b = true∧∃ B',J (viewTo l (k + 1)) B' W'∧Ext w W'∧∀ k,B' k→w.heap.size≤k)∨(b = false∧∃ pre,Jx pre W')) (fun hvt X=>?_) (fun b W3 hvt hR=>?_) (fun hvt=>?_)
      · have hvt':((e.kind == 1) && seenB l e) = true:=by cases hvb;exact hvt
        have hv1:=viewTo_succ he.out
        rw [if_pos hvt'] at hv1
        refine (HY.out (viewTo l k) Bs k ((w.later y2).later X) (hup HJ2.out X.2) (by have:=viewTo_len l k;simp;omega)).mono ?_
        rintro e' W' (⟨rfl,B',hj',hM',hB'⟩|⟨rfl,hx'⟩)
        · have hwz:w.heap.size≤((w.later y2).later X).heap.size:=(ext_l1 w y2 X).size
          refine ⟨true,rfl,.inl ⟨rfl,B',by rw [hv1];exact hj',Ext.fresh (ext_l1 w y2 X) hM' HBs.out,fun k hk=>?_⟩⟩
          rcases hB' k hk with h|h
          · exact HBs.out k h
          · omega
        · exact ⟨false,rfl,.inr ⟨rfl,_,hx'⟩⟩
      · subst hvt
        rcases hR with ⟨rfl,B',hj',hE3,hb'⟩|⟨rfl,hx'⟩
        · have HJ3:=Lib.hid hj'
          have HB3:=Lib.hid hb'
          clear hj' hb' HJ2
          obtain ⟨y3,rfl⟩:=hE3.get
          repeat' (first|refine X_q ?_|refine X_g ?_|refine X_nil ?_|refine W_seqr ?_|refine W_skip ?_|refine W_ff ?_|go_step)
          exact ⟨_,_,rfl,hd,hA,n - 1,by omega,k + 1,y3,B',rfl,by omega,by simp,HJ3.out,HB3.out⟩
        · have HX:=Lib.hid hx'
          clear hx'
          repeat' (first|refine X_q ?_|refine X_g ?_|refine X_nil ?_|refine W_ret ?_|refine W_tt ?_|go_step)
          exact Body_ret0 hd (.inr HX.out)
      · have hvt':((e.kind == 1) && seenB l e) = false:=by cases hvb;exact hvt
        clear hvb
        subst hvt
        have hv1:=viewTo_succ he.out
        rw [hvt',if_neg (by simp),List.append_nil] at hv1
        have HV1:=Lib.hid hv1
        clear hv1 hvt'
        repeat' (first|refine X_q ?_|refine X_gf ?_|refine X_nil ?_|refine W_seqr ?_|refine W_skip ?_|refine W_ff ?_|go_step)
        exact ⟨_,_,rfl,hd,hA,n - 1,by omega,k + 1,y2,Bs,rfl,by omega,by simp,by rw [HV1.out];exact HJ2.out,HBs.out⟩
    · obtain rfl:k = s:=by omega
      have HL:=Lib.hid hlt
      clear hlt
      repeat' (first|refine X_q ?_|refine X_nil ?_|refine W_seqk (fun K hK=>?_)|refine W_seqr ?_|refine W_exit ?_|refine W_ff ?_|go_step)
      exact Body_ret0 hd (.inl ⟨_,Bs,rfl,HJ1.out⟩)
  refine Calls.mono (Fn.calls main) ?_
  rintro e W' ⟨W0,hE0,hR⟩
  cases e with
  | returned v =>
    refine ⟨v,rfl,?_⟩
    rcases hR with ⟨xs,B,hS,hj⟩|⟨pre,hx⟩
    · exact .inl ⟨xs,B,hS,hup hj hE0⟩
    · exact .inr ⟨pre,hJx _ _ _ hx hE0⟩
  | panicked c=>exact hR.elim
  | outgrown=>exact hR.elim
theorem appendSeq_calls {w : World} {gf : FuncId} {fn : Func} {lb : Array Value} {S : List Int → Prop} {Rb : Nat → Prop} {N : Nat} (hgf : Tryz.prog.funcs[gf]? = some fn) (hcall : callable fn = true) (hseq : Iter Tryz.prog gf lb (fun x : Int => #[.int .i64 x]) S (fun xs => xs.length ≤ N) Rb w) (hRd : ∀ k, Rb k → k < w.heap.size) (hN : N ≤ 1000000) :
    Ret Tryz.prog 127 #[.slice none 0 0,.func (.func gf) #[] lb] w fun v w'=>∃ xs,S xs∧Ext w w'∧OwnI w' v xs∧∀ b,v.ownBlock = some b→w.heap.size≤b:=by
  refine Fn_of Tryz.func127 rfl (Nat.le_of_ble_eq_true rfl) ?_;intro A hd hA;simp only [ix,Nat.reduceAdd];replace hA:A.tmps.size = 13:=hA
  repeat' (first|refine X_q ?_|refine X_nil ?_|refine W_seqk (fun K hK=>?_)|refine W_seqr ?_|refine W_block ?_|(refine X_s (fun x K hK=>?_);go_simp;refine hK _ _ (Ext.alloc _ _) ?_;clear hK K;refine X_al x ?_;generalize (World.later _ x).heap.size = bn;intro yn hn1 hn2 hn3 hn4 hn5;clear x)|go_step)
  rename Nat=>bx
  have hbk:Blk (w.later yn) bx 30 1 (fun _=>.slice none 0 0):=Blk.one hn5.out
  have hwn:w.heap.size≤(w.later yn).heap.size:=yn.2.size
  refine W_range (ps:=[7]) (encs:=fun x:Int=>[.int .i64 x]) hgf hcall (hseq.later yn.2) (fun _=>rfl) (by go_simp;exact Is.mk _)
    (fun pre B W=>∃ u,B = (fun k=>k = bx∨u.ownBlock = some k)∧Ext w W∧Blk W bx 30 1 (fun _=>u)∧OwnI W u pre∧∀ b,u.ownBlock = some b→w.heap.size≤b∧b ≠ bx) (fun _ _ _ _=>False) ?_ ?_ (fun k=>k = bx∨Value.ownBlock (.slice none 0 0) = some k) ⟨_,rfl,yn.2,hbk,Own.nil _,by intro b hb;cases hb⟩ ?_ ?_ ?_ ?_
  · rintro pre B W W' ⟨u,rfl,hE,hB,hO,hf⟩ hM
    exact ⟨u,rfl,Mod.trans hE hM (fun _ _ h=>h) (fun k hk h=>by have:=h.2;omega),hB.mod hM (fun h=>h.1 (.inl rfl)),hO.mod hM (fun b hb h=>h.1 (.inr hb)),hf⟩
  · intro c pre B W W' h;exact h.elim
  · rintro k (rfl|h)
    · exact ⟨hn2,fun h=>by have:=hRd _ h;omega⟩
    · cases h
  · rintro l pre B x W hl1 hl2 ⟨u,rfl,hE,hB,hO,hf⟩ hBl hpre
    simp only [List.zip_cons_cons,List.zip_nil_right,List.reverse_cons,List.reverse_nil,List.nil_append,List.singleton_append]
    repeat' (first|refine X_q ?_|refine X_nil ?_|refine W_seqr ?_|go_step)
    refine ⟨by simp,fun W2 hM2=>?_⟩
    have hbl:=(hBl bx (.inl rfl)).1
    have hB2:=hB.mod hM2 hbl
    have hO2:OwnI W2 u pre:=hO.mod hM2 (fun b hb=>(hBl b (.inr hb)).1)
    have c0:=hB2.cell (k:=0) (by omega)
    have hlt:=hB2.lt
    have HO:=Lib.hid hO2
    have HB:=Lib.hid hB2
    have HF:=Lib.hid hf
    have HP:=Lib.hid hpre
    clear hB hO hO2 hf hpre hBl hbk
    repeat' (first|refine X_q ?_|refine W_seqr ?_|refine W_block ?_|(refine X_s (fun x K hK=>?_);go_simp;refine hK _ _ (Ext.alloc _ _) ?_;clear hK K;refine X_al x ?_;generalize (World.later _ x).heap.size = bn;intro yn hn1 hn2 hn3 hn4 hn5;clear x)|fail)
    refine X_append (ys:=[x]) elemInt (HO.out.later yn.2) (Rd.one (x:=x) hn2 hn3 rfl) (by have:=HP.out;simp at this ⊢;omega) (by have:=HP.out;unfold maxLen;simp at this ⊢;omega) (fun v' W3 hM3 hO3 hF3 _=>?_)
    obtain ⟨A9,n9,c9,rfl⟩:∃ A9 n9 c9,v' = .slice A9 n9 c9:=by obtain ⟨A9,c9,h,_⟩:=Own.rd (enc:=ics) (k:=1) (fun _=>rfl) hO3;exact ⟨_,_,_,h⟩
    have hB3:Blk W3 bx 30 1 (fun _=>u):=(HB.out.later yn.2).mod hM3 (fun h=>(HF.out bx h).2 rfl)
    refine X_store (off:=0) hB3 (fun W4 hM4 hB4=>?_)
    have hnb:∀ b,Value.ownBlock (.slice A9 n9 c9) = some b→w.heap.size≤b∧b ≠ bx∧b < W3.heap.size∧(u.ownBlock = some b∨W.heap.size≤b):=by
      intro b hb
      have hbl:=hO3.lt b hb
      have hW2:=hM2.size
      have hY:W2.heap.size≤(W2.later yn).heap.size:=yn.2.size
      have hWs:=hE.size
      rcases hF3 with h|⟨g,h,hg⟩
      · have:=HF.out b (h▸hb)
        exact ⟨this.1,this.2,hbl,.inl (h▸hb)⟩
      · obtain rfl:g = b:=by rw [h] at hb;cases hb;rfl
        exact ⟨by omega,by omega,hbl,.inr (by omega)⟩
    have hO4:OwnI W4 (.slice A9 n9 c9) (pre ++ [x]):=hO3.mod hM4 (fun b hb h=>(hnb b hb).2.1 h)
    have hB5:Blk W4 bx 30 1 (fun _=>.slice A9 n9 c9):=hB4.congr (fun k hk=>by
      obtain rfl:k = 0:=by omega
      simp [put_one,Value.cells])
    have hMM:Mod (fun k=>(k = bx∨u.ownBlock = some k)∨W.heap.size≤k) W2 W4:=Mod.trans (Mod.trans yn.2 hM3 (fun _ _ h=>h.elim) (fun k _ h=>.inl (.inr h))) hM4 (fun _ _ h=>h) (fun k _ h=>.inl (.inl h))
    have hE4:Ext w W4:=by
      refine Mod.trans (Mod.trans hE hM2 (fun _ _ h=>h) (fun k hk e=>by subst e;omega)) hMM (fun _ _ h=>h) (fun k hk h=>?_)
      rcases h with (h|h)|h
      · subst h;omega
      · have:=(HF.out k h).1;omega
      · have:=hE.size;omega
    repeat' (first|refine X_nil ?_|go_step)
    exact ⟨_,⟨_,rfl,hE4,hB5,hO4,fun b hb=>⟨(hnb b hb).1,(hnb b hb).2.1⟩⟩,hMM,fun k hk=>by
      have hs4:=hM4.size
      rcases hk with h|h
      · subst h;exact ⟨.inl (.inl rfl),hB5.lt⟩
      · exact ⟨(hnb k h).2.2.2.elim (fun h=>.inl (.inr h)) .inr,Nat.lt_of_lt_of_le (hnb k h).2.2.1 hs4⟩⟩
  · rintro D xs B W hD hBD hS ⟨u,rfl,hE,hB,hO,hf⟩ hDD
    have c0:=hB.cell (k:=0) (by omega)
    have hlt:=hB.lt
    have hwD:w.heap.size≤D:=Nat.le_trans yn.2.size hD
    have HO:=Lib.hid hO
    have HF:=Lib.hid hf
    clear hO hf
    repeat' (first|refine X_q ?_|refine X_nil ?_|refine W_seqk (fun K hK=>?_)|refine W_seqr ?_|refine W_ret ?_|go_step)
    refine Body_retm (by simp [hd]) hDD ⟨xs,hS,hE.putNew hwD _,HO.out.mod (mod_putObj _ _ _) (fun b hb e=>hBD (.inr (e▸hb))),fun b hb=>(HF.out b hb).1⟩
  · intro D c pre B W _ _ h
    exact h.elim
theorem firstOf_nonneg {l:List Ent} {i num f:Int} (h:firstOf l i num = some f):0≤f:=by
  unfold firstOf at h
  cases hx:l.findIdx? (dataB i num) with
  | none=>rw [hx] at h;cases h
  | some n=>rw [hx] at h;simp at h;omega
theorem stTo_nonneg (l:List Ent):∀ k,0≤stTo l k
  | 0=>by simp [stTo]
  | k + 1=>by
    have ih:=stTo_nonneg l k
    rw [stTo,minF_eq]
    rcases foldl_min_mem ((opensB l k).map (·.first)) (stTo l k) with h|h
    · rw [h];exact ih
    · obtain ⟨o,ho,e⟩:=List.mem_map.1 h
      rw [← e]
      exact firstOf_nonneg ((mem_opensB l k o).1 ho).2
theorem stableB_nonneg (l:List Ent):0≤stableB l:=stTo_nonneg l 4
theorem collect_calls {w : World} {gf : FuncId} {fn : Func} {lb : Array Value} {S : List Int → Prop} {Rb : Nat → Prop} {N : Nat} (hgf : Tryz.prog.funcs[gf]? = some fn) (hcall : callable fn = true) (hseq : Iter Tryz.prog gf lb (fun x : Int => #[.int .i64 x]) S (fun xs => xs.length ≤ N) Rb w) (hRd : ∀ k, Rb k → k < w.heap.size) (hN : N ≤ 1000000) :
    Ret Tryz.prog 102 #[.func (.func gf) #[] lb] w fun v w'=>∃ xs,S xs∧Ext w w'∧OwnI w' v xs∧∀ b,v.ownBlock = some b→w.heap.size≤b:=by
  refine Fn_of Tryz.func102 rfl (Nat.le_of_ble_eq_true rfl) ?_;intro A hd hA;simp only [ix,Nat.reduceAdd];replace hA:A.tmps.size = 5:=hA
  repeat' (first|refine X_q ?_|refine X_nil ?_|refine W_seqk (fun K hK=>?_)|refine W_seqr ?_|go_step)
  refine X_ret Tryz.func127 (appendSeq_calls hgf hcall hseq hRd hN) (fun v' w' hR=>?_)
  have HR:=Lib.hid hR
  clear hR
  repeat' (first|refine X_q ?_|refine X_nil ?_|refine W_ret ?_|go_step)
  exact Body_ret hd HR.out
theorem visView_calls (l : List Ent) (v : Value) (n : Int) (w : World) (hl : RdE w v l) (hln : l.length ≤ 1000000) : Ret Tryz.prog 69 #[v, .int .i64 n] w fun v' w' => Ext w w' ∧ (ofNo l ≠ 0 → v' = .tuple #[.slice none 0 0, .int .i64 2]) ∧
    (ofNo l = 0→(n < 0∨(l.length:Int) < n)→v' = .tuple #[.slice none 0 0,.int .i64 4]) ∧
    (ofNo l = 0→¬ (n < 0∨(l.length:Int) < n)→∃ u,v' = .tuple #[u,.int .i64 0]∧OwnI w' u (viewL (l.take n.toNat))∧∀ b,u.ownBlock = some b→w.heap.size≤b):=by
  have hl0:=Lib.hid hl
  obtain ⟨A0,c,rfl,hc,hcm,HR⟩:=hl.ent
  clear hl HR
  refine Fn_of Tryz.func69 rfl (Nat.le_of_ble_eq_true rfl) ?_;intro A hd hA;simp only [ix,Nat.reduceAdd];replace hA:A.tmps.size = 24:=hA
  repeat' (first|refine X_q ?_|refine X_nil ?_|refine W_seqk (fun K hK=>?_)|refine W_seqr ?_|go_step)
  refine X_ret Tryz.func101 (first_calls l _ n _ hl0.out) (fun v' w' hR=>?_)
  obtain ⟨hE',h1,h2,h3⟩:=hR
  obtain ⟨y',rfl⟩:=hE'.get
  clear hE'
  by_cases h0:ofNo l = 0
  · by_cases hn:n < 0∨(l.length:Int) < n
    · have hv:=h2 h0 hn
      subst hv
      clear h1 h2 h3
      have H0:=Lib.hid h0
      have HN:=Lib.hid hn
      clear h0 hn
      repeat' (first|refine X_q ?_|refine X_nil ?_|refine W_seqk (fun K hK=>?_)|refine W_seqr ?_|refine W_ret ?_|refine W_tt ?_|go_step)
      exact Body_ret2 hd ⟨by simp,fun h=>absurd H0.out h,fun _ _=>rfl,fun _ h=>absurd HN.out h⟩
    · obtain ⟨b,rfl,hT⟩:=h3 h0 hn
      clear h1 h2 h3
      obtain ⟨N,rfl⟩:∃ N:Nat,n = N:=⟨n.toNat,by omega⟩
      have hNl:N≤l.length:=by omega
      have hNi:(N:Int)≤l.length:=by omega
      have hNc:(N:Int)≤c:=by omega
      have hN0:(0:Int)≤N:=by omega
      simp only [Int.toNat_natCast] at hT
      have H0:=Lib.hid h0
      have HN:=Lib.hid hn
      have HT:=Lib.hid hT
      have hS0:=Lib.hid (stableB_nonneg (l.take N))
      have hSl:=Lib.hid (stableB_le (l.take N))
      have hlt:(l.take N).length = N:=by simp;omega
      clear h0 hn hT
      repeat' (first|refine X_q ?_|refine X_nil ?_|refine W_seqk (fun K hK=>?_)|refine W_seqr ?_|refine W_skip ?_|refine W_ff ?_|go_step)
      refine W_drawσ [(0,0),(1,0),(2,0),(3,0),(4,1),(5,2),(6,2),(7,0),(8,0)] (by kernel_rfl) (by kernel_rfl) ?_
      simp only [List.map_cons,List.map_nil,List.getD_cons_zero,List.getD_cons_succ]
      repeat' (first|refine X_q ?_|fail)
      refine X_pure1 Tryz.func104 (fun x=>tabStable_calls (HT.out.later x.2) (ofNo_take H0.out N)) ?_
      generalize hst:stableB (l.take N) = st at *
      obtain ⟨sn,rfl⟩:∃ sn:Nat,st = sn:=⟨st.toNat,by have:=hS0.out;omega⟩
      have hsn:sn≤N:=by have:=hSl.out;omega
      have HST:=Lib.hid hst
      clear hst hS0 hSl
      have hlN:RdE (w.later y') (.slice A0 N c) (l.take N):=(hl0.out.later y'.2).take N hNl
      refine X_ret Tryz.func103 (view_calls (l.take N) (.slice A0 N c) sn (w.later y') hlN) (fun v' w' hR=>?_)
      obtain ⟨lb,rfl,hE2,hV⟩:=hR
      have hlN2:=hlN.later hE2
      clear hlN
      have HVI:=Lib.hid (view_iter (s:=sn) hlN2 (by omega) hV)
      clear hV hlN2
      refine X_ret Tryz.func102 (collect_calls (N:=N) Tryz.func131 (by kernel_rfl) (hlt▸HVI.out) (fun k h=>h) (by omega)) (fun v' w'' hR=>?_)
      obtain ⟨xs,hxs,hE3,hO,hf⟩:=hR
      have HX:=Lib.hid hxs
      have HO:=Lib.hid hO
      have HF:=Lib.hid hf
      clear hxs hO hf
      have hEE:Ext w w'':=Ext.trans y'.2 (Ext.trans hE2 hE3)
      have hsz:w.heap.size≤w'.heap.size:=(Ext.trans y'.2 hE2).size
      repeat' (first|refine X_q ?_|refine X_niln ?_|refine W_ret ?_|go_step)
      exact Body_ret2 hd ⟨hEE,fun h=>absurd H0.out h,fun _ h=>absurd h HN.out,fun _ _=>⟨v',rfl,by rw [viewL,Int.toNat_natCast,HST.out,Int.toNat_natCast,← HX.out];exact HO.out,fun b hb=>Nat.le_trans hsz (HF.out b hb)⟩⟩
  · have hv:=h1 h0
    subst hv
    clear h1 h2 h3
    have H0:=Lib.hid h0
    clear h0
    repeat' (first|refine X_q ?_|refine X_nil ?_|refine W_seqk (fun K hK=>?_)|refine W_seqr ?_|refine W_ret ?_|refine W_tt ?_|go_step)
    exact Body_ret2 hd ⟨by simp,fun _=>rfl,fun h=>absurd h H0.out,fun h=>absurd h H0.out⟩
end Go.Ws
