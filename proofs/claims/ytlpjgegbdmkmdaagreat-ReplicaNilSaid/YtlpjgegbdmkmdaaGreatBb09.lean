/- Lemmas for the statements of this layer (joined texts); no condition. -/
import Derived.Scope
import Derived.ScopeJumps
import Derived.Test.YtlpjgegbdmkmdaaGreatBb01
import Derived.Test.YtlpjgegbdmkmdaaGreatBb03
import Derived.Test.YtlpjgegbdmkmdaaGreatBb04
import Derived.Test.YtlpjgegbdmkmdaaGreatBb08
namespace Go.Ws
open Go Go.RowKit Go.Proofs
set_option maxHeartbeats 2000000
set_option maxRecDepth 100000
set_option linter.unusedVariables false
set_option linter.unusedSimpArgs false
section
variable {P:Program} {Q:Post} {w:World} {A:Act}
theorem Body_retmc {fn : Func} {R : Res} {e : Exit} {t b : Nat} {ty : TypeId} {v : Value} {l : List (Nat × Value)} {D : Nat} (hd : A.defers = [{ target := .collected D, args := #[] }]) (hD : w.heap[D]? = some (.deferred (some []))) (hR : R (.returned v) (w.putObj D (.deferred none)))
    (hlt:b < w.heap.size) (hc:w.cell? ⟨b,0,none⟩ = some v) (hne:b ≠ D) (hag:∀ w,(isAgg ty).run P w = .ok false w) (hr:fn.results = #[.cell t ty]:=by rfl) (he:e = .ret∨e = .normal:=by first|exact .inl rfl|exact .inr rfl)
    (hv:Is ((fr l A).tmps.getD t undef) (.pointer (some ⟨b,0,none⟩)):=by go_simp;exact Is.mk _):Body P fn R e (fr l A) w:=by
  have hM:=mod_putObj w D (.deferred none)
  have key:∀ x:Later (w.putObj D (.deferred none)),(results fn (fr l A).tmps).run P ((w.putObj D (.deferred none)).later x) = .ok v ((w.putObj D (.deferred none)).later x):=by
    intro x
    have h0:((w.putObj D (.deferred none)).later x).cell? ⟨b,0,none⟩ = some v:=by rw [cell?_later _ _ _ _ (Nat.lt_of_lt_of_le hlt hM.size),cell?_mod hM hlt hne];exact hc
    have h2:(fr l A).tmps[t]?.getD undef = .pointer (some ⟨b,0,none⟩):=by simpa using hv.eq
    simp [results,hr,h2,asAddr,loadVar,hag,Go.load,Sem.run_bind,Sem.run,h0]
  unfold Body
  rcases he with rfl|rfl <;> exact ⟨_,after_one hd hD l,_,key,hR⟩
end
structure WrAt (w:World) (b o:Nat) (r:Wr) (m0 m1:Nat):Prop where
  lt:b < w.heap.size
  c0:w.cell? ⟨b,o,none⟩ = some (.int .i64 r.high)
  c1:w.cell? ⟨b,o + 1,none⟩ = some (.int .i64 r.marked)
  c2:w.cell? ⟨b,o + 2,none⟩ = some (.map (some m0))
  c3:w.cell? ⟨b,o + 3,none⟩ = some (.map (some m1))
  i0:MapIs ki ki w m0 r.next
  i1:MapIs ki ki w m1 r.opens
theorem WrAt.later {w w':World} {b o:Nat} {r:Wr} {m0 m1:Nat} (h:WrAt w b o r m0 m1) (hE:Ext w w'):WrAt w' b o r m0 m1:=by
  have e:∀ k,w'.cell? ⟨b,k,none⟩ = w.cell? ⟨b,k,none⟩:=fun k=>cell?_mod hE h.lt (fun h=>h)
  exact ⟨Nat.lt_of_lt_of_le h.lt hE.size,by rw [e];exact h.c0,by rw [e];exact h.c1,by rw [e];exact h.c2,by rw [e];exact h.c3,h.i0.later hE,h.i1.later hE⟩
theorem pother_calls {w : World} {b o : Nat} {r : Wr} {m0 m1 : Nat} (h : WrAt w b o r m0 m1) (num : Int) (ob : Bool) (hob : ob = true ↔ ∃ n, (r.opens n).isSome = true ∧ n ≠ num) :
    Pure Tryz.prog 116 #[.pointer (some ⟨b,o,none⟩),.int .i64 num] w (.bool ob):=by
  have HH:=Lib.hid h
  have HOB:=Lib.hid hob
  have hlt:=h.lt
  have c3:=h.c3
  obtain ⟨L,clock,hL,hf⟩:=h.i1
  have HL:=Lib.hid hL
  have Hf:=Lib.hid hf
  clear h hob hL hf
  refine Fn_of Tryz.func116 rfl (Nat.le_of_ble_eq_true rfl) ?_;intro A hd hA;simp only [ix,Nat.reduceAdd];replace hA:A.tmps.size = 15:=hA
  repeat' (first|refine X_q ?_|refine X_nil ?_|refine W_seqk (fun K hK=>?_)|refine W_seqr ?_|(refine X_s (fun x K hK=>?_);go_simp;refine hK _ _ (Ext.alloc _ _) ?_;clear hK K;refine X_al x ?_;generalize (World.later _ x).heap.size = bn;intro yn hn1 hn2 hn3 hn4 hn5;clear x)|go_step)
  rename_i b3 y3 p1 p2 p3 p4 p5 K0 K1
  rename Nat=>b4
  rename Later (World.later _ _)=>y4
  have g3:Blk (w.later y3) b3 2 1 _:=Blk.one p5.out
  have g4:Blk ((w.later y3).later y4) b4 4 1 _:=Blk.one hn5.out
  have q4:=hn2
  have q3:=hn1
  clear p3 p4 p5 hn3 hn4 hn5
  refine X_ret Tryz.func138 keysOf_calls (fun v' w1 hR=>?_)
  obtain ⟨bk,rfl,hE1,hk1,hk2,hk3⟩:=hR
  have s3:w.heap.size≤(w.later y3).heap.size:=y3.2.size
  have s4:(w.later y3).heap.size≤((w.later y3).later y4).heap.size:=y4.2.size
  have s1:=hE1.size
  have HE:Hid (Ext w w1):=Lib.hid (Ext.trans (by simp) hE1)
  have G3:Hid (Blk w1 b3 2 1 (fun _=>.int .i64 num)):=Lib.hid ((g3.later y4.2).later hE1)
  have G4:Hid (Blk w1 b4 4 1 (fun _=>.bool false)):=Lib.hid (g4.later hE1)
  have HL1:=Lib.hid (HL.out.later HE.out)
  clear g3 g4 hE1
  repeat' (first|refine X_nil ?_|refine W_block ?_|go_step)
  refine W_range (ps:=[11]) (encs:=fun x:Int=>[.int .i64 x]) Tryz.func152 (by kernel_rfl) (keys_iter hk2 hk3 HL1.out) (fun _=>rfl) (by go_simp;exact Is.mk _)
    (fun pre B W=>B = (fun k=>k = b4)∧Mod (fun k=>k = b4) w1 W∧Blk W b4 4 1 (fun _=>.bool false)∧∀ x ∈ pre,x = num)
    (fun c pre B W=>c = .ret∧B = (fun k=>k = b4)∧Mod (fun k=>k = b4) w1 W∧Blk W b4 4 1 (fun _=>.bool true)∧ob = true) ?_ ?_ (fun k=>k = b4) ⟨rfl,Mod.refl _ _,G4.out,by intro x hx;cases hx⟩ ?_ ?_ ?_ ?_
  · rintro pre B W W' ⟨rfl,hM,hB,hp⟩ hM'
    exact ⟨rfl,Mod.trans hM hM' (fun _ _ h=>h) (fun k hk h=>by have:=h.2;omega),hB.mod hM' (fun h=>h.1 rfl),hp⟩
  · rintro c pre B W W' ⟨rfl,rfl,hM,hB,hp⟩ hM'
    exact ⟨rfl,rfl,Mod.trans hM hM' (fun _ _ h=>h) (fun k hk h=>by have:=h.2;omega),hB.mod hM' (fun h=>h.1 rfl),hp⟩
  · rintro k rfl
    refine ⟨by omega,fun h=>?_⟩
    have:=HL.out.lt
    omega
  · rintro l pre B x W hl1 hl2 ⟨rfl,hM,hB,hp⟩ hBl hpre
    have hG3:=G3.out.mod hM (by omega)
    have t3:=hG3.lt
    have t30:=hG3.cell (k:=0) (by omega)
    have hx:(look L x).isSome = true:=by
      obtain ⟨P,hPn,hPs,hPe⟩:=hpre
      have:x ∈ P.map (·.1):=by rw [← hPe];simp
      obtain ⟨y,hy,rfl⟩:=List.mem_map.1 this
      exact Option.isSome_iff_exists.2 ⟨_,(look_iff HL.out.keys _ _).2 ⟨y.2.2,hPs y hy⟩⟩
    have HM:=Lib.hid hM
    have HB:=Lib.hid hB
    have HP:=Lib.hid hp
    have hb4l:=hBl b4 rfl
    clear hM hB hp hG3
    simp only [List.zip_cons_cons,List.zip_nil_right,List.reverse_cons,List.reverse_nil,List.nil_append,List.singleton_append]
    repeat' (first|refine X_q ?_|refine X_nil ?_|refine W_seqr ?_|go_step)
    refine ⟨by simp,fun W2 hM2=>?_⟩
    have u3:b3 < W2.heap.size:=Nat.lt_of_lt_of_le t3 hM2.size
    rw [← cell?_mod hM2 t3 (by omega)] at t30
    have HB2:=Lib.hid (HB.out.mod hM2 hb4l.1)
    have HM2:=Lib.hid (Mod.trans HM.out hM2 (fun _ _ h=>h) (fun k hk h=>by omega):Mod (fun k=>k = b4) w1 W2)
    repeat' (first|refine X_q ?_|refine X_nil ?_|refine W_seqk (fun K hK=>?_)|refine W_seqr ?_|refine W_skip ?_|refine W_block ?_|refine W_test (fun hc=>?_) (fun hc=>?_)|go_step)
    · have hne:x ≠ num:=by simpa using hc
      refine X_store (off:=0) HB2.out (fun W3 hM3 hB3=>?_)
      have hB4:Blk W3 b4 4 1 (fun _=>.bool true):=hB3.congr (fun k hk=>by
        obtain rfl:k = 0:=by omega
        simp [put_one,Value.cells])
      repeat' (first|refine X_nil ?_|refine W_ret ?_|go_step)
      refine ⟨_,⟨rfl,rfl,Mod.trans HM2.out hM3 (fun _ _ h=>h) (fun _ _ h=>h),hB4,HOB.out.2 ⟨x,by rw [Hf.out];exact hx,hne⟩⟩,Mod.mono hM3 (fun k _ e=>.inl e),fun k hk=>⟨.inl hk,by subst hk;exact hB4.lt⟩⟩
    · have he:x = num:=by simpa using hc
      refine ⟨_,⟨rfl,HM2.out,HB2.out,fun y hy=>?_⟩,Mod.refl _ _,fun k hk=>⟨.inl hk,by subst hk;exact HB2.out.lt⟩⟩
      rcases List.mem_append.1 hy with h|h
      · exact HP.out y h
      · rw [List.mem_singleton] at h;rw [h,he]
  · rintro D xs B W hD hBD hS ⟨rfl,hM,hB,hp⟩ hDD
    have hob:ob = false:=by
      rw [← Bool.not_eq_true,HOB.out]
      rintro ⟨n,hn,hne⟩
      rw [Hf.out] at hn
      exact hne (hp n (((mem_keys HL.out.keys hS).2 n).2 hn))
    have HB:=Lib.hid hB
    have HEW:=Lib.hid (Ext.fresh HE.out hM (fun k hk=>by omega))
    clear hM hB hp
    repeat' (first|refine W_seqk (fun K hK=>?_)|refine W_seqr ?_|go_step)
    refine X_store (off:=0) HB.out (fun W3 hM3 hB3=>?_)
    have hDD3:W3.heap[D]? = some (.deferred (some [])):=(hM3.block D (Array.getElem?_eq_some_iff.1 hDD).1 (by omega)).trans hDD
    have hE3:Ext w W3:=Ext.fresh HEW.out hM3 (fun k hk=>by omega)
    repeat' (first|refine X_nil ?_|refine W_ret ?_|go_step)
    refine Body_retmc (b:=b4) (by simp [hd]) hDD3 ⟨by rw [hob],hE3.putNew (by omega) _⟩ hB3.lt ((hB3.cell (k:=0) (by omega)).trans (by simp [put_one,Value.cells])) (by omega) Tryz.isAgg4
  · rintro D c pre B W hD hBD ⟨rfl,rfl,hM,hB,hob⟩ hDD
    refine W_ret ?_
    exact Body_retmc (b:=b4) (v:=.bool true) (by simp [hd]) hDD ⟨by rw [hob],(Ext.fresh HE.out hM (fun k hk=>by omega)).putNew (by omega) _⟩ hB.lt (hB.cell (k:=0) (by omega)) (by omega) Tryz.isAgg4
section
variable {w:World} {b o:Nat} {r:Wr} {m0 m1:Nat}
abbrev WhyP (fk:FuncId) (b o:Nat) (e:Ent) (w:World) (v:Bool):Prop:=Pure Tryz.prog fk #[.pointer (some ⟨b,o,none⟩),e.v] w (.bool v)
theorem why97 (h:WrAt w b o r m0 m1) (e:Ent):WhyP 114 b o e w (decide (e.num≤r.marked)):=by
  obtain ⟨hlt,c0,c1,c2,c3,i0,i1⟩:=h
  refine Fn_of Tryz.func114 rfl (Nat.le_of_ble_eq_true rfl) ?_;intro A hd hA;simp only [ix,Nat.reduceAdd];replace hA:A.tmps.size = 12:=hA
  repeat' (first|refine X_q ?_|refine X_niln ?_|refine X_nil ?_|refine W_seqk (fun K hK=>?_)|refine W_seqr ?_|refine W_draw (by kernel_rfl) (by kernel_rfl) ?_|refine W_ret ?_|(refine X_s (fun x K hK=>?_);go_simp;refine hK _ _ (Ext.alloc _ _) ?_;clear hK K;refine X_al x ?_;generalize (World.later _ x).heap.size = bn;intro yn hn1 hn2 hn3 hn4 hn5;clear x)|go_step)
  exact Body_ret hd ⟨rfl,by simp⟩
theorem why98 (h:WrAt w b o r m0 m1) (e:Ent) (ob:Bool) (hob:ob = true↔∃ n,(r.opens n).isSome = true∧n ≠ e.num):WhyP 115 b o e w (decide (e.num < r.high) || ob):=by
  have HH:=Lib.hid h
  have HOB:=Lib.hid hob
  obtain ⟨hlt,c0,c1,c2,c3,i0,i1⟩:=h
  clear hob i0 i1
  by_cases hq:e.num < r.high
  · have hv:(decide (e.num < r.high) || ob) = true:=by simp [hq]
    rw [hv]
    refine Fn_of Tryz.func115 rfl (Nat.le_of_ble_eq_true rfl) ?_;intro A hd hA;simp only [ix,Nat.reduceAdd];replace hA:A.tmps.size = 18:=hA
    repeat' (first|refine X_q ?_|refine X_nil ?_|refine W_seqk (fun K hK=>?_)|refine W_seqr ?_|(refine X_s (fun x K hK=>?_);go_simp;refine hK _ _ (Ext.alloc _ _) ?_;clear hK K;refine X_al x ?_;generalize (World.later _ x).heap.size = bn;intro yn hn1 hn2 hn3 hn4 hn5;clear x)|go_step)
    refine W_draw (by kernel_rfl) (by kernel_rfl) ?_
    repeat' (first|(refine X_gf2 ?_)|refine X_q ?_|refine X_g ?_|refine X_niln ?_|refine W_ret ?_|go_step)
    exact Body_ret hd ⟨rfl,by simp⟩
  · have hv:(decide (e.num < r.high) || ob) = ob:=by simp [hq]
    rw [hv]
    refine Fn_of Tryz.func115 rfl (Nat.le_of_ble_eq_true rfl) ?_;intro A hd hA;simp only [ix,Nat.reduceAdd];replace hA:A.tmps.size = 18:=hA
    repeat' (first|refine X_q ?_|refine X_nil ?_|refine W_seqk (fun K hK=>?_)|refine W_seqr ?_|(refine X_s (fun x K hK=>?_);go_simp;refine hK _ _ (Ext.alloc _ _) ?_;clear hK K;refine X_al x ?_;generalize (World.later _ x).heap.size = bn;intro yn hn1 hn2 hn3 hn4 hn5;clear x)|go_step)
    refine W_draw (by kernel_rfl) (by kernel_rfl) ?_
    repeat' (first|refine X_gpure Tryz.func116 (fun _=>pother_calls (HH.out.later (by simp)) e.num ob HOB.out) ?_|refine X_gt ?_|refine X_q ?_|refine X_niln ?_|refine W_ret ?_|go_step)
    exact Body_ret hd ⟨rfl,by simp⟩
theorem why100 (h:WrAt w b o r m0 m1) (e:Ent):WhyP 117 b o e w (decide (e.num≤r.marked) || decide (e.num < r.high)):=by
  obtain ⟨hlt,c0,c1,c2,c3,i0,i1⟩:=h
  by_cases hq:e.num≤r.marked
  · have hv:(decide (e.num≤r.marked) || decide (e.num < r.high)) = true:=by simp [hq]
    rw [hv]
    refine Fn_of Tryz.func117 rfl (Nat.le_of_ble_eq_true rfl) ?_;intro A hd hA;simp only [ix,Nat.reduceAdd];replace hA:A.tmps.size = 21:=hA
    repeat' (first|refine X_q ?_|refine X_nil ?_|refine W_seqk (fun K hK=>?_)|refine W_seqr ?_|(refine X_s (fun x K hK=>?_);go_simp;refine hK _ _ (Ext.alloc _ _) ?_;clear hK K;refine X_al x ?_;generalize (World.later _ x).heap.size = bn;intro yn hn1 hn2 hn3 hn4 hn5;clear x)|go_step)
    refine W_draw (by kernel_rfl) (by kernel_rfl) ?_
    repeat' (first|refine X_q ?_|refine X_g ?_|refine X_gf ?_|refine X_niln ?_|refine W_ret ?_|go_step)
    exact Body_ret hd ⟨rfl,by simp⟩
  · have hv:(decide (e.num≤r.marked) || decide (e.num < r.high)) = decide (e.num < r.high):=by simp [hq]
    rw [hv]
    refine Fn_of Tryz.func117 rfl (Nat.le_of_ble_eq_true rfl) ?_;intro A hd hA;simp only [ix,Nat.reduceAdd];replace hA:A.tmps.size = 21:=hA
    repeat' (first|refine X_q ?_|refine X_nil ?_|refine W_seqk (fun K hK=>?_)|refine W_seqr ?_|(refine X_s (fun x K hK=>?_);go_simp;refine hK _ _ (Ext.alloc _ _) ?_;clear hK K;refine X_al x ?_;generalize (World.later _ x).heap.size = bn;intro yn hn1 hn2 hn3 hn4 hn5;clear x)|go_step)
    refine W_draw (by kernel_rfl) (by kernel_rfl) ?_
    repeat' (first|refine X_gt ?_|refine X_q ?_|refine X_niln ?_|refine W_ret ?_|go_step)
    exact Body_ret hd ⟨rfl,by simp⟩
theorem why101 (h:WrAt w b o r m0 m1) (e:Ent) (ob:Bool) (hob:ob = true↔∃ n,(r.opens n).isSome = true∧n ≠ e.num):WhyP 118 b o e w ob:=by
  have HH:=Lib.hid h
  have HOB:=Lib.hid hob
  clear h hob
  refine Fn_of Tryz.func118 rfl (Nat.le_of_ble_eq_true rfl) ?_;intro A hd hA;simp only [ix,Nat.reduceAdd];replace hA:A.tmps.size = 9:=hA
  repeat' (first|refine X_pure Tryz.func116 (pother_calls (HH.out.later (by simp)) e.num ob HOB.out) ?_|refine X_q ?_|refine X_nil ?_|refine W_seqk (fun K hK=>?_)|refine W_seqr ?_|refine W_ret ?_|(refine X_s (fun x K hK=>?_);go_simp;refine hK _ _ (Ext.alloc _ _) ?_;clear hK K;refine X_al x ?_;generalize (World.later _ x).heap.size = bn;intro yn hn1 hn2 hn3 hn4 hn5;clear x)|go_step)
  exact Body_ret hd ⟨rfl,by simp⟩
theorem why102 (h:WrAt w b o r m0 m1) (e:Ent):WhyP 119 b o e w (decide (e.seq < (r.next e.num).getD 0)):=by
  have HH:=Lib.hid h
  obtain ⟨hlt,c0,c1,c2,c3,i0,i1⟩:=h
  clear i0 i1
  refine Fn_of Tryz.func119 rfl (Nat.le_of_ble_eq_true rfl) ?_;intro A hd hA;simp only [ix,Nat.reduceAdd];replace hA:A.tmps.size = 15:=hA
  repeat' (first|refine X_q ?_|refine X_nil ?_|refine W_seqk (fun K hK=>?_)|refine W_seqr ?_|(refine X_s (fun x K hK=>?_);go_simp;refine hK _ _ (Ext.alloc _ _) ?_;clear hK K;refine X_al x ?_;generalize (World.later _ x).heap.size = bn;intro yn hn1 hn2 hn3 hn4 hn5;clear x)|go_step)
  refine W_draw (by kernel_rfl) (by kernel_rfl) ?_
  repeat' (first|refine X_q ?_|fail)
  refine X_look (kenc:=ki) (venc:=ki) (z:=0) (HH.out.i0.later (by simp)) (ints_keys Tryz.underlying2) Tryz.underlying147 e.num ?_
  simp only [Bool.false_eq_true,if_false]
  generalize hnx:(r.next e.num).getD 0 = nx
  repeat' (first|refine X_q ?_|refine X_niln ?_|refine W_ret ?_|go_step)
  exact Body_ret hd ⟨by rw [hnx],by simp⟩
theorem why103 (h:WrAt w b o r m0 m1) (e:Ent):WhyP 120 b o e w (decide ((r.next e.num).getD 0 < e.seq)):=by
  have HH:=Lib.hid h
  obtain ⟨hlt,c0,c1,c2,c3,i0,i1⟩:=h
  clear i0 i1
  refine Fn_of Tryz.func120 rfl (Nat.le_of_ble_eq_true rfl) ?_;intro A hd hA;simp only [ix,Nat.reduceAdd];replace hA:A.tmps.size = 15:=hA
  repeat' (first|refine X_q ?_|refine X_nil ?_|refine W_seqk (fun K hK=>?_)|refine W_seqr ?_|(refine X_s (fun x K hK=>?_);go_simp;refine hK _ _ (Ext.alloc _ _) ?_;clear hK K;refine X_al x ?_;generalize (World.later _ x).heap.size = bn;intro yn hn1 hn2 hn3 hn4 hn5;clear x)|go_step)
  refine W_draw (by kernel_rfl) (by kernel_rfl) ?_
  repeat' (first|refine X_q ?_|fail)
  refine X_look (kenc:=ki) (venc:=ki) (z:=0) (HH.out.i0.later (by simp)) (ints_keys Tryz.underlying2) Tryz.underlying147 e.num ?_
  simp only [Bool.false_eq_true,if_false]
  generalize hnx:(r.next e.num).getD 0 = nx
  repeat' (first|refine X_q ?_|refine X_niln ?_|refine W_ret ?_|go_step)
  exact Body_ret hd ⟨by rw [hnx],by simp⟩
end
def Rule (w:World) (v:Value) (fk:FuncId) (E:Int):Prop :=
  ∃ a c,v = .func (.func 113) #[] #[.pointer (some ⟨a,0,none⟩),.pointer (some ⟨c,0,none⟩)]∧a < w.heap.size∧c < w.heap.size∧w.cell? ⟨a,0,none⟩ = some (.func (.func fk) #[] #[])∧w.cell? ⟨c,0,none⟩ = some (.int .i64 E)
theorem Rule.later {w w':World} {v:Value} {fk:FuncId} {E:Int} (h:Rule w v fk E) (hE:Ext w w'):Rule w' v fk E:=by
  obtain ⟨a,c,rfl,ha,hc,h1,h2⟩:=h
  exact ⟨a,c,rfl,Nat.lt_of_lt_of_le ha hE.size,Nat.lt_of_lt_of_le hc hE.size,by rw [cell?_mod hE ha (fun h=>h)];exact h1,by rw [cell?_mod hE hc (fun h=>h)];exact h2⟩
theorem isRule_calls {w:World} (E:Int) (fk:FuncId):Ret Tryz.prog 112 #[.int .i64 E,.func (.func fk) #[] #[]] w fun v w'=>Ext w w'∧Rule w' v fk E:=by
  refine Fn_of Tryz.func112 rfl (Nat.le_of_ble_eq_true rfl) ?_;intro A hd hA;simp only [ix,Nat.reduceAdd];replace hA:A.tmps.size = 6:=hA
  repeat' (first|refine X_q ?_|refine X_nil ?_|refine W_seqk (fun K hK=>?_)|refine W_seqr ?_|refine W_ret ?_|(refine X_s (fun x K hK=>?_);go_simp;refine hK _ _ (Ext.alloc _ _) ?_;clear hK K;refine X_al x ?_;generalize (World.later _ x).heap.size = bn;intro yn hn1 hn2 hn3 hn4 hn5;clear x)|go_step)
  rename_i bc yc p1 p2 p3 p4 p5
  exact Body_ret hd ⟨by simp,bn,bc,rfl,hn2,by simp [p2],hn3 0,by rw [cell?_later _ yn _ _ p2];exact p3 0⟩
theorem rule_calls {w : World} {a c b o : Nat} {fk : FuncId} {fn : Func} {E : Int} {v : Bool} {e : Ent} (hfk : Tryz.prog.funcs[fk]? = some fn) (hcall : callable fn = true) (ha : a < w.heap.size) (hc : c < w.heap.size) (h1 : w.cell? ⟨a, 0, none⟩ = some (.func (.func fk) #[] #[])) (h2 : w.cell? ⟨c, 0, none⟩ = some (.int .i64 E))
    (hy:∀ w',Ext w w'→WhyP fk b o e w' v):Pure Tryz.prog 113 #[.pointer (some ⟨b,o,none⟩),e.v,.pointer (some ⟨a,0,none⟩),.pointer (some ⟨c,0,none⟩)] w (.int .i64 (if v = true then E else 0)):=by
  have HY:=Lib.hid hy
  clear hy
  cases v
  · simp only [Bool.false_eq_true,if_false]
    refine Fn_of Tryz.func113 rfl (Nat.le_of_ble_eq_true rfl) ?_;intro A hd hA;simp only [ix,Nat.reduceAdd];replace hA:A.tmps.size = 12:=hA
    repeat' (first|refine X_q ?_|refine X_nil ?_|refine W_seqk (fun K hK=>?_)|refine W_seqr ?_|(refine X_s (fun x K hK=>?_);go_simp;refine hK _ _ (Ext.alloc _ _) ?_;clear hK K;refine X_al x ?_;generalize (World.later _ x).heap.size = bn;intro yn hn1 hn2 hn3 hn4 hn5;clear x)|go_step)
    refine X_valret (lv:=[.pointer (some ⟨b,o,none⟩),e.v]) (first:=#[]) (captured:=#[]) (R:=fun v' w'=>v' = .bool false∧Ext _ w') hfk (HY.out _ (by simp)) (fun v' w' hR=>?_) rfl rfl hcall
    obtain ⟨rfl,hE⟩:=hR
    obtain ⟨y',rfl⟩:=hE.get
    clear hE
    repeat' (first|refine X_q ?_|refine X_nil ?_|refine W_seqk (fun K hK=>?_)|refine W_seqr ?_|refine W_ret ?_|refine W_skip ?_|refine W_ff ?_|go_step)
    exact Body_ret hd ⟨rfl,by simp⟩
  · simp only [if_true]
    refine Fn_of Tryz.func113 rfl (Nat.le_of_ble_eq_true rfl) ?_;intro A hd hA;simp only [ix,Nat.reduceAdd];replace hA:A.tmps.size = 12:=hA
    repeat' (first|refine X_q ?_|refine X_nil ?_|refine W_seqk (fun K hK=>?_)|refine W_seqr ?_|(refine X_s (fun x K hK=>?_);go_simp;refine hK _ _ (Ext.alloc _ _) ?_;clear hK K;refine X_al x ?_;generalize (World.later _ x).heap.size = bn;intro yn hn1 hn2 hn3 hn4 hn5;clear x)|go_step)
    refine X_valret (lv:=[.pointer (some ⟨b,o,none⟩),e.v]) (first:=#[]) (captured:=#[]) (R:=fun v' w'=>v' = .bool true∧Ext _ w') hfk (HY.out _ (by simp)) (fun v' w' hR=>?_) rfl rfl hcall
    obtain ⟨rfl,hE⟩:=hR
    obtain ⟨y',rfl⟩:=hE.get
    clear hE
    repeat' (first|refine X_q ?_|refine X_nil ?_|refine W_seqk (fun K hK=>?_)|refine W_seqr ?_|refine W_ret ?_|refine W_tt ?_|go_step)
    exact Body_ret hd ⟨rfl,by simp⟩
def rules (data:Bool):List (FuncId × Int):=if data = true then [(117,181),(118,182),(119,183),(120,184)] else [(114,183),(115,181)]
theorem refuses_calls {w : World} (data : Bool) : Ret Tryz.prog 90 #[.bool data] w fun v w' => Ext w w' ∧ ∃ g, v = .slice (some ⟨g, 0, none⟩) (rules data).length (rules data).length ∧ g < w'.heap.size ∧
    ∀ (k:Nat) p,(rules data)[k]? = some p→∃ u,w'.cell? ⟨g,k,none⟩ = some u∧Rule w' u p.1 p.2:=by
  cases data
  · refine Fn_of Tryz.func90 rfl (Nat.le_of_ble_eq_true rfl) ?_;intro A hd hA;simp only [ix,Nat.reduceAdd];replace hA:A.tmps.size = 20:=hA
    repeat' (first|refine X_q ?_|refine X_nil ?_|refine W_seqk (fun K hK=>?_)|refine W_seqr ?_|refine W_tt ?_|go_step)
    refine X_valret (lv:=[.int .i64 183,.func (.func 114) #[] #[]]) (first:=#[]) (captured:=#[]) Tryz.func112 (isRule_calls 183 114) (fun v1 w1 hR=>?_)
    obtain ⟨hE1,hR1⟩:=hR
    obtain ⟨y1,rfl⟩:=hE1.get
    have HR1:=Lib.hid hR1
    obtain ⟨a1,c1,rfl,-⟩:=hR1
    clear hE1
    repeat' (first|refine X_q ?_|fail)
    refine X_valret (lv:=[.int .i64 181,.func (.func 115) #[] #[]]) (first:=#[]) (captured:=#[]) Tryz.func112 (isRule_calls 181 115) (fun v2 w2 hR=>?_)
    obtain ⟨hE2,hR2⟩:=hR
    obtain ⟨y2,rfl⟩:=hE2.get
    have HR2:=Lib.hid hR2
    obtain ⟨a2,c2,rfl,-⟩:=hR2
    clear hE2
    repeat' (first|refine X_q ?_|refine X_nil ?_|refine W_ret ?_|(refine X_s (fun x K hK=>?_);go_simp;refine hK _ _ (Ext.alloc _ _) ?_;clear hK K;refine X_al x ?_;generalize (World.later _ x).heap.size = bn;intro yn hn1 hn2 hn3 hn4 hn5;clear x)|go_step)
    refine Body_ret hd ⟨by simp,bn,rfl,hn2,?_⟩
    intro k p hp
    match k,hp with
    | 0,hp=>cases hp;exact ⟨_,hn3 0,(HR1.out.later y2.2).later yn.2⟩
    | 1,hp=>cases hp;exact ⟨_,hn3 1,HR2.out.later yn.2⟩
  · refine Fn_of Tryz.func90 rfl (Nat.le_of_ble_eq_true rfl) ?_;intro A hd hA;simp only [ix,Nat.reduceAdd];replace hA:A.tmps.size = 20:=hA
    repeat' (first|refine X_q ?_|refine X_nil ?_|refine W_seqk (fun K hK=>?_)|refine W_seqr ?_|refine W_skip ?_|refine W_ff ?_|go_step)
    refine X_valret (lv:=[.int .i64 181,.func (.func 117) #[] #[]]) (first:=#[]) (captured:=#[]) Tryz.func112 (isRule_calls 181 117) (fun v1 w1 hR=>?_)
    obtain ⟨hE1,hR1⟩:=hR
    obtain ⟨y1,rfl⟩:=hE1.get
    have HR1:=Lib.hid hR1
    obtain ⟨a1,c1,rfl,-⟩:=hR1
    clear hE1
    repeat' (first|refine X_q ?_|fail)
    refine X_valret (lv:=[.int .i64 182,.func (.func 118) #[] #[]]) (first:=#[]) (captured:=#[]) Tryz.func112 (isRule_calls 182 118) (fun v2 w2 hR=>?_)
    obtain ⟨hE2,hR2⟩:=hR
    obtain ⟨y2,rfl⟩:=hE2.get
    have HR2:=Lib.hid hR2
    obtain ⟨a2,c2,rfl,-⟩:=hR2
    clear hE2
    repeat' (first|refine X_q ?_|fail)
    refine X_valret (lv:=[.int .i64 183,.func (.func 119) #[] #[]]) (first:=#[]) (captured:=#[]) Tryz.func112 (isRule_calls 183 119) (fun v3 w3 hR=>?_)
    obtain ⟨hE3,hR3⟩:=hR
    obtain ⟨y3,rfl⟩:=hE3.get
    have HR3:=Lib.hid hR3
    obtain ⟨a3,c3,rfl,-⟩:=hR3
    clear hE3
    repeat' (first|refine X_q ?_|fail)
    refine X_valret (lv:=[.int .i64 184,.func (.func 120) #[] #[]]) (first:=#[]) (captured:=#[]) Tryz.func112 (isRule_calls 184 120) (fun v4 w4 hR=>?_)
    obtain ⟨hE4,hR4⟩:=hR
    obtain ⟨y4,rfl⟩:=hE4.get
    have HR4:=Lib.hid hR4
    obtain ⟨a4,c4,rfl,-⟩:=hR4
    clear hE4
    repeat' (first|refine X_q ?_|refine X_nil ?_|refine W_ret ?_|(refine X_s (fun x K hK=>?_);go_simp;refine hK _ _ (Ext.alloc _ _) ?_;clear hK K;refine X_al x ?_;generalize (World.later _ x).heap.size = bn;intro yn hn1 hn2 hn3 hn4 hn5;clear x)|go_step)
    refine Body_ret hd ⟨by simp,bn,rfl,hn2,?_⟩
    intro k p hp
    match k,hp with
    | 0,hp=>cases hp;exact ⟨_,hn3 0,(((HR1.out.later y2.2).later y3.2).later y4.2).later yn.2⟩
    | 1,hp=>cases hp;exact ⟨_,hn3 1,((HR2.out.later y3.2).later y4.2).later yn.2⟩
    | 2,hp=>cases hp;exact ⟨_,hn3 2,(HR3.out.later y4.2).later yn.2⟩
    | 3,hp=>cases hp;exact ⟨_,hn3 3,HR4.out.later yn.2⟩
end Go.Ws
namespace Go.Ws
open Go Go.RowKit
set_option maxHeartbeats 2000000
set_option maxRecDepth 100000
set_option linter.unusedVariables false
set_option linter.unusedSimpArgs false
section
variable {P:Program} {b:Frame} {a:Act} {k:List Item} {cs:List Frame} {w:World} {Q:Post} {ρ:Option Nat}
theorem stepR_scope {c:Code}:step P (lone (b.atR a (.code (.scope c) :: k)) cs w) = .next (lone (b.atR a (.code c :: .inScope c :: k)) cs w) :=
  step_lone_go (by simp [stepG,stepG.exec,Frame.atR])
theorem stepR_inScope {c:Code}:step P (lone (b.atR a (.inScope c :: k)) cs w) = .next (lone (b.atR a k) cs w) :=
  step_lone_go (by simp [stepG,stepG.exec,Frame.atR])
theorem W_scope {c:Code} (h:Wp ρ P c (Exit.noGoto Q) a w):Wp ρ P (.scope c) Q a w:=by
  refine Wp.intro fun x=>?_
  intro b k cs hro hb hr
  have h0:(lone (b.atR a (.code (.scope c) :: k)) cs (w.later x)).fenced P (RF ρ):=fenced_calm hb hr rfl
  obtain ⟨e,a₁,w₁,hq,harr⟩:=h.get x b (.inScope c :: k) cs hro hb hr
  obtain ⟨w0,hE,hq⟩:=hq
  cases e with
  | normal=>exact ⟨.normal,a₁,w₁,⟨w0,hE,hq⟩,.head h0 stepR_scope (StepsIn.trans harr (.one (fenced_calm hb hr rfl) stepR_inScope))⟩
  | exit id=>exact ⟨.exit id,a₁,w₁,⟨w0,hE,hq⟩,.of_steps (.one h0 stepR_scope) ⟨fun k' hk=>harr.1 k' (by simp [exitTo,hk]),fun hr hk=>harr.2 hr (by simp [exitTo,hk])⟩⟩
  | goto l=>exact hq.elim
  | ret=>exact ⟨_,a₁,w₁,⟨w0,hE,hq⟩,.of_steps (.one h0 stepR_scope) harr⟩
  | panic ch=>exact ⟨_,a₁,w₁,⟨w0,hE,hq⟩,.of_steps (.one h0 stepR_scope) harr⟩
  | outgrown=>exact ⟨_,a₁,w₁,⟨w0,hE,hq⟩,.of_steps (.one h0 stepR_scope) harr⟩
theorem W_scopeF {c rest:Code} (l:Nat) (hf:findLabel c l = some rest) (h:Wp ρ P c (Exit.jump l (Wp ρ P rest (Exit.noGoto Q)) Q) a w):Wp ρ P (.scope c) Q a w:=by
  refine Wp.intro fun x=>?_
  intro b k cs hro hb hr
  have h0:(lone (b.atR a (.code (.scope c) :: k)) cs (w.later x)).fenced P (RF ρ):=fenced_calm hb hr rfl
  have hg:gotoIn l (.inScope c :: k) = some (.code rest :: .inScope c :: k):=by simp [gotoIn,hf]
  obtain ⟨e,a₁,w₁,hq,harr⟩:=h.get x b (.inScope c :: k) cs hro hb hr
  obtain ⟨w0,hE,hq⟩:=hq
  cases e with
  | normal=>exact ⟨.normal,a₁,w₁,⟨w0,hE,hq⟩,.head h0 stepR_scope (StepsIn.trans harr (.one (fenced_calm hb hr rfl) stepR_inScope))⟩
  | exit id=>exact ⟨.exit id,a₁,w₁,⟨w0,hE,hq⟩,.of_steps (.one h0 stepR_scope) ⟨fun k' hk=>harr.1 k' (by simp [exitTo,hk]),fun hr hk=>harr.2 hr (by simp [exitTo,hk])⟩⟩
  | goto l' =>
    obtain ⟨rfl,hJ⟩:=hq
    obtain ⟨e₂,a₂,w₂,hq₂,harr₂⟩:=hJ.get ⟨w₁,hE⟩ b (.inScope c :: k) cs hro hb hr
    obtain ⟨w0',hE',hq₂⟩:=hq₂
    have hpre:=StepsIn.trans (.one h0 stepR_scope) (harr.1 _ hg)
    cases e₂ with
    | normal=>exact ⟨.normal,a₂,w₂,⟨w0',hE',hq₂⟩,StepsIn.trans hpre (StepsIn.trans harr₂ (.one (fenced_calm hb hr rfl) stepR_inScope))⟩
    | exit id=>exact ⟨.exit id,a₂,w₂,⟨w0',hE',hq₂⟩,.of_steps hpre ⟨fun k' hk=>harr₂.1 k' (by simp [exitTo,hk]),fun hr hk=>harr₂.2 hr (by simp [exitTo,hk])⟩⟩
    | goto l=>exact hq₂.elim
    | ret=>exact ⟨_,a₂,w₂,⟨w0',hE',hq₂⟩,.of_steps hpre harr₂⟩
    | panic ch=>exact ⟨_,a₂,w₂,⟨w0',hE',hq₂⟩,.of_steps hpre harr₂⟩
    | outgrown=>exact ⟨_,a₂,w₂,⟨w0',hE',hq₂⟩,.of_steps hpre harr₂⟩
  | ret=>exact ⟨_,a₁,w₁,⟨w0,hE,hq⟩,.of_steps (.one h0 stepR_scope) harr⟩
  | panic ch=>exact ⟨_,a₁,w₁,⟨w0,hE,hq⟩,.of_steps (.one h0 stepR_scope) harr⟩
  | outgrown=>exact ⟨_,a₁,w₁,⟨w0,hE,hq⟩,.of_steps (.one h0 stepR_scope) harr⟩
end
end Go.Ws
namespace Go.Ws
open Go Go.RowKit Go.Proofs
set_option maxHeartbeats 2000000
set_option maxRecDepth 100000
set_option linter.unusedVariables false
set_option linter.unusedSimpArgs false
def mayFrom:Int→List Ent→Bool
  | _,[]=>true
  | p,e :: es=>decide (p≤e.ep) && decide (e.ep≤2147483647) && mayFrom e.ep es
theorem mayFrom_cons (p:Int) (e:Ent) (es:List Ent):mayFrom p (e :: es) = (decide (p≤e.ep) && decide (e.ep≤2147483647) && mayFrom e.ep es):=rfl
def mayE (l:List Ent):Bool:=mayFrom 1 l && decide ((l.length:Int)≤4096)
def lastE (l:List Ent):Int:=(l.getLast?.map (·.ep)).getD 0
def fitsE (l:List Ent) (n ep:Int):Bool:=decide (n≤l.length) && (lastE (l.take n.toNat) == ep)
def aboveE (l:List Ent) (ep:Int):Nat:=(l.takeWhile fun e=>decide (e.ep≤ep)).length
theorem drop_at {α:Type} {l:List α} {k:Nat} {x:α} (h:l[k]? = some x):l.drop k = x :: l.drop (k + 1):=by
  obtain ⟨hk,rfl⟩:=List.getElem?_eq_some_iff.1 h
  exact List.drop_eq_getElem_cons hk
theorem emay_calls (l:List Ent) (v:Value) (w:World) (hl:RdE w v l):Pure Tryz.prog 92 #[v] w (.bool (mayE l)):=by
  obtain ⟨A0,c,rfl,hc,hcm,HR⟩:=hl.ent
  clear hl
  refine Fn_of Tryz.func92 rfl (Nat.le_of_ble_eq_true rfl) ?_;intro A hd hA;simp only [ix,Nat.reduceAdd];replace hA:A.tmps.size = 27:=hA
  repeat' (first|refine X_q ?_|refine X_nil ?_|refine W_seqk (fun K hK=>?_)|refine W_seqr ?_|refine W_block ?_|go_step)
  refine W_loops [0,3,6,7,8] (fun n vs w'=>∃ (k:Nat) (p:Int),Ext w w'∧k + n = l.length∧vs = [.slice A0 l.length c,.int .i64 p,.slice A0 l.length c,.int .i64 l.length,.int .i64 k]∧mayFrom p (l.drop k) = mayFrom 1 l) l.length hd hA (by decide) ⟨0,1,by simp,by omega,by simp,by simp⟩ ?_
  clear hd hA A;intro n vs B w' hd hA _ ⟨k,p,hw,hk,hvs,hm⟩;subst hvs
  obtain ⟨y,rfl⟩:=hw.get
  clear hw
  simp only [List.zip_cons_cons,List.zip_nil_right,List.zip_nil_left]
  by_cases hlt:k < l.length
  · obtain ⟨e,b,o,HE,rfl,hb,c0,c1,c2,c3,c4,c5⟩:=HR.out k hlt
    have hki:(k:Int) < l.length:=by omega
    rw [drop_at HE.out,mayFrom_cons] at hm
    by_cases h1:p≤e.ep
    · have h1b:decide (e.ep < p) = false:=by simpa using h1
      by_cases h2:e.ep≤2147483647
      · have h2b:decide (2147483647 < e.ep) = false:=by simpa using h2
        have hm':mayFrom e.ep (l.drop (k + 1)) = mayFrom 1 l:=by simpa [h1,h2] using hm
        have HM:=Lib.hid hm'
        clear hm hm'
        repeat' (first|refine X_gt ?_|refine X_q ?_|refine X_nil ?_|(refine X_var (fun yn bn hn1 hn2 hn3 hn4 hn5=>?_))|refine W_seqk (fun K hK=>?_)|refine W_seqr ?_|refine W_skip ?_|refine W_block ?_|refine W_tt ?_|refine W_ff ?_|go_step)
        exact ⟨_,_,rfl,hd,hA,n - 1,by omega,k + 1,e.ep,by simp,by omega,by simp,HM.out⟩
      · have h2b:decide (2147483647 < e.ep) = true:=by simpa using h2
        have hm':mayE l = false:=by unfold mayE;rw [← hm];simp [h2]
        have HM:=Lib.hid hm'
        clear hm hm'
        repeat' (first|refine X_gt ?_|refine X_q ?_|refine X_nil ?_|(refine X_var (fun yn bn hn1 hn2 hn3 hn4 hn5=>?_))|refine W_seqk (fun K hK=>?_)|refine W_seqr ?_|refine W_ret ?_|refine W_skip ?_|refine W_block ?_|refine W_tt ?_|go_step)
        exact Body_ret hd ⟨by rw [HM.out],by simp⟩
    · have h1b:decide (e.ep < p) = true:=by simpa using h1
      have hm':mayE l = false:=by unfold mayE;rw [← hm];simp [h1]
      have HM:=Lib.hid hm'
      clear hm hm'
      repeat' (first|refine X_q ?_|refine X_g ?_|refine X_gf ?_|refine X_nil ?_|(refine X_var (fun yn bn hn1 hn2 hn3 hn4 hn5=>?_))|refine W_seqk (fun K hK=>?_)|refine W_seqr ?_|refine W_ret ?_|refine W_skip ?_|refine W_block ?_|refine W_tt ?_|go_step)
      exact Body_ret hd ⟨by rw [HM.out],by simp⟩
  · obtain rfl:k = l.length:=by omega
    rw [List.drop_length] at hm
    have hm':mayE l = decide ((l.length:Int)≤4096):=by unfold mayE;rw [← hm];simp [mayFrom]
    have HM:=Lib.hid hm'
    clear hm hm'
    repeat' (first|refine X_q ?_|refine X_nil ?_|refine W_seqk (fun K hK=>?_)|refine W_seqr ?_|refine W_ret ?_|refine W_exit ?_|refine W_ff ?_|go_step)
    exact Body_ret hd ⟨by rw [HM.out],by simp⟩
theorem elast_calls (l:List Ent) (v:Value) (w:World) (hl:RdE w v l):Pure Tryz.prog 95 #[v] w (.int .i64 (lastE l)):=by
  obtain ⟨A0,c,rfl,hc,hcm,HR⟩:=hl.ent
  clear hl
  by_cases h0:l.length = 0
  · have h0b:((l.length:Int) == 0) = true:=by rw [h0];rfl
    have hl:lastE l = 0:=by rw [List.length_eq_zero_iff] at h0;subst h0;rfl
    rw [hl]
    refine Fn_of Tryz.func95 rfl (Nat.le_of_ble_eq_true rfl) ?_;intro A hd hA;simp only [ix,Nat.reduceAdd];replace hA:A.tmps.size = 13:=hA
    repeat' (first|refine X_q ?_|refine X_nil ?_|refine W_seqk (fun K hK=>?_)|refine W_seqr ?_|refine W_ret ?_|refine W_tt ?_|go_step)
    exact Body_ret hd ⟨rfl,by simp⟩
  · have h0b:((l.length:Int) == 0) = false:=beq_false_of_ne (by omega)
    obtain ⟨e,b,o,HE,rfl,hb,c0,-⟩:=HR.out (l.length - 1) (by omega)
    have hk1:(l.length:Int) - 1 = ((l.length - 1:Nat):Int):=by omega
    have hki2:((l.length - 1:Nat):Int) < l.length:=by omega
    have hl:lastE l = e.ep:=by unfold lastE;rw [List.getLast?_eq_getElem?,HE.out];rfl
    rw [hl]
    clear hl
    refine Fn_of Tryz.func95 rfl (Nat.le_of_ble_eq_true rfl) ?_;intro A hd hA;simp only [ix,Nat.reduceAdd];replace hA:A.tmps.size = 13:=hA
    repeat' (first|refine X_q ?_|refine X_nil ?_|refine W_seqk (fun K hK=>?_)|refine W_seqr ?_|refine W_ret ?_|refine W_skip ?_|refine W_ff ?_|go_step)
    exact Body_ret hd ⟨rfl,by simp⟩
theorem elastE_calls (l:List Ent) (v:Value) (w:World) (hl:RdE w v l):Pure Tryz.prog 91 #[v] w (.tuple #[.int .i64 (if mayE l then lastE l else 0),.int .i64 (if mayE l then 0 else 2)]):=by
  have hl0:=Lib.hid hl
  obtain ⟨A0,c,rfl,-⟩:=hl.ent
  clear hl
  by_cases hm:mayE l = true
  · rw [if_pos hm,if_pos hm]
    refine Fn_of Tryz.func91 rfl (Nat.le_of_ble_eq_true rfl) ?_;intro A hd hA;simp only [ix,Nat.reduceAdd];replace hA:A.tmps.size = 9:=hA
    repeat' (first|refine X_pure Tryz.func92 (hm▸emay_calls l _ _ (hl0.out.later (by simp))) ?_|refine X_pure Tryz.func95 (elast_calls l _ _ (hl0.out.later (by simp))) ?_|refine X_q ?_|refine X_nil ?_|refine W_seqk (fun K hK=>?_)|refine W_seqr ?_|refine W_ret ?_|refine W_skip ?_|refine W_ff ?_|go_step)
    exact Body_ret2 hd ⟨rfl,by simp⟩
  · have hm':mayE l = false:=by simpa using hm
    rw [if_neg hm,if_neg hm]
    refine Fn_of Tryz.func91 rfl (Nat.le_of_ble_eq_true rfl) ?_;intro A hd hA;simp only [ix,Nat.reduceAdd];replace hA:A.tmps.size = 9:=hA
    repeat' (first|refine X_pure Tryz.func92 (hm'▸emay_calls l _ _ (hl0.out.later (by simp))) ?_|refine X_q ?_|refine X_nil ?_|refine W_seqk (fun K hK=>?_)|refine W_seqr ?_|refine W_ret ?_|refine W_tt ?_|go_step)
    exact Body_ret2 hd ⟨rfl,by simp⟩
theorem fits_calls (l:List Ent) (v:Value) (n ep:Int) (w:World) (hl:RdE w v l) (hn:0≤n):Pure Tryz.prog 93 #[v,.int .i64 n,.int .i64 ep] w (.bool (fitsE l n ep)):=by
  have hl0:=Lib.hid hl
  obtain ⟨A0,c,rfl,hc,hcm,-⟩:=hl.ent
  clear hl
  by_cases h1:n≤l.length
  · obtain ⟨m,rfl⟩:∃ m:Nat,n = m:=⟨n.toNat,by omega⟩
    have hml:m≤l.length:=by omega
    have hmc:m≤c:=by omega
    have hf:fitsE l m ep = (lastE (l.take m) == ep):=by unfold fitsE;simp [hml]
    rw [hf]
    clear hf
    refine Fn_of Tryz.func93 rfl (Nat.le_of_ble_eq_true rfl) ?_;intro A hd hA;simp only [ix,Nat.reduceAdd];replace hA:A.tmps.size = 19:=hA
    repeat' (first|refine X_gpure Tryz.func95 (fun _=>elast_calls (l.take m) _ _ ((hl0.out.take m hml).later (by simp))) ?_|refine X_gt ?_|refine X_q ?_|refine X_nil ?_|refine W_seqk (fun K hK=>?_)|refine W_seqr ?_|refine W_ret ?_|go_step)
    exact Body_ret hd ⟨rfl,by simp⟩
  · have hf:fitsE l n ep = false:=by unfold fitsE;simp [h1]
    have h1b:decide (n≤(l.length:Int)) = false:=by simpa using h1
    rw [hf]
    clear hf
    refine Fn_of Tryz.func93 rfl (Nat.le_of_ble_eq_true rfl) ?_;intro A hd hA;simp only [ix,Nat.reduceAdd];replace hA:A.tmps.size = 19:=hA
    repeat' (first|(refine X_gf2 ?_)|refine X_q ?_|refine X_g ?_|refine X_gf ?_|refine X_nil ?_|refine W_seqk (fun K hK=>?_)|refine W_seqr ?_|refine W_ret ?_|go_step)
    exact Body_ret hd ⟨rfl,by simp⟩
theorem above1_calls {w:World} (e:Ent) (b:Nat) (ep:Int) (hb:b < w.heap.size) (hc:w.cell? ⟨b,0,none⟩ = some (.int .i64 ep)):Pure Tryz.prog 122 #[e.v,.pointer (some ⟨b,0,none⟩)] w (.bool (decide (ep < e.ep))):=by
  refine Fn_of Tryz.func122 rfl (Nat.le_of_ble_eq_true rfl) ?_;intro A hd hA;simp only [ix,Nat.reduceAdd];replace hA:A.tmps.size = 8:=hA
  repeat' (first|refine X_q ?_|refine X_nil ?_|refine W_seqk (fun K hK=>?_)|refine W_seqr ?_|refine W_ret ?_|(refine X_s (fun x K hK=>?_);go_simp;refine hK _ _ (Ext.alloc _ _) ?_;clear hK K;refine X_al x ?_;generalize (World.later _ x).heap.size = bn;intro yn hn1 hn2 hn3 hn4 hn5;clear x)|go_step)
  exact Body_ret hd ⟨rfl,by simp⟩
theorem aboveE_cons (ep:Int) (e:Ent) (l:List Ent):aboveE (e :: l) ep = if ep < e.ep then 0 else aboveE l ep + 1:=by
  unfold aboveE
  rw [List.takeWhile_cons]
  by_cases h:e.ep≤ep
  · rw [if_pos (by simpa using h),if_neg (by omega)];simp
  · rw [if_neg (by simpa using h),if_pos (by omega)];simp
theorem efirst_calls (l : List Ent) (v : Value) (w : World) (b : Nat) (ep : Int) (hl : RdE w v l) (hb : b < w.heap.size) (hc : w.cell? ⟨b, 0, none⟩ = some (.int .i64 ep)) :
    Pure Tryz.prog 121 #[v,.func (.func 122) #[] #[.pointer (some ⟨b,0,none⟩)]] w (.int .i64 (aboveE l ep)):=by
  obtain ⟨A0,c,rfl,hlc,hcm,HR⟩:=hl.ent
  clear hl
  have hcc:=Lib.hid hc
  clear hc
  refine Fn_of Tryz.func121 rfl (Nat.le_of_ble_eq_true rfl) ?_;intro A hd hA;simp only [ix,Nat.reduceAdd];replace hA:A.tmps.size = 21:=hA
  repeat' (first|refine X_q ?_|refine X_nil ?_|refine W_seqk (fun K hK=>?_)|refine W_seqr ?_|refine W_block ?_|go_step)
  refine W_loops [0,1,7,8,9] (fun n vs w'=>∃ (k:Nat),Ext w w'∧k + n = l.length∧vs = [.slice A0 l.length c,.func (.func 122) #[] #[.pointer (some ⟨b,0,none⟩)],.slice A0 l.length c,.int .i64 l.length,.int .i64 k]∧k + aboveE (l.drop k) ep = aboveE l ep) l.length hd hA (by decide) ⟨0,by simp,by omega,by simp,by simp⟩ ?_
  clear hd hA A;intro n vs B w' hd hA _ ⟨k,hw,hk,hvs,hm⟩;subst hvs
  obtain ⟨y,rfl⟩:=hw.get
  clear hw
  simp only [List.zip_cons_cons,List.zip_nil_right,List.zip_nil_left]
  by_cases hlt:k < l.length
  · obtain ⟨e,b1,o,HE,rfl,hb1,c0,c1,c2,c3,c4,c5⟩:=HR.out k hlt
    have hki:(k:Int) < l.length:=by omega
    rw [drop_at HE.out,aboveE_cons] at hm
    have HM:=Lib.hid hm
    clear hm
    repeat' (first|refine X_q ?_|refine X_nil ?_|refine W_seqk (fun K hK=>?_)|refine W_seqr ?_|refine W_skip ?_|refine W_block ?_|(refine X_s (fun x K hK=>?_);go_simp;refine hK _ _ (Ext.alloc _ _) ?_;clear hK K;refine X_al x ?_;generalize (World.later _ x).heap.size = bn;intro yn hn1 hn2 hn3 hn4 hn5;clear x)|refine W_tt ?_|go_step)
    refine X_store (off:=0) (Blk.new hn5.out) (fun W1 hM1 hB1=>?_)
    have hE1:Ext (w.later y) W1:=Ext.fresh yn.2 hM1 (fun k hk=>by subst hk;omega)
    have d0:=hB1.cell (k:=0) (by decide)
    have d1:=hB1.cell (k:=1) (by decide)
    have d2:=hB1.cell (k:=2) (by decide)
    have d3:=hB1.cell (k:=3) (by decide)
    have d4:=hB1.cell (k:=4) (by decide)
    have d5:=hB1.cell (k:=5) (by decide)
    have hbn1:=hB1.lt
    clear hM1 hB1 hn5 hn4 hn3 hn2
    obtain ⟨z1,rfl⟩:=hE1.get
    clear hE1
    simp only [put,Value.cells] at d0 d1 d2 d3 d4 d5
    simp at d0 d1 d2 d3 d4 d5
    repeat' (first|refine X_q ?_|refine X_nil ?_|refine W_seqk (fun K hK=>?_)|refine W_seqr ?_|go_step)
    refine X_valret (lv:=[e.v]) (first:=#[]) (captured:=#[.pointer (some ⟨b,0,none⟩)]) (R:=fun v' w'=>v' = .bool (decide (ep < e.ep))∧Ext _ w') Tryz.func122 (above1_calls e b ep (Nat.lt_of_lt_of_le hb (Ext.trans y.2 z1.2).size) ((cell?_mod (Ext.trans y.2 z1.2) hb (fun h=>h)).trans hcc.out)) (fun v' w' hR=>?_)
    obtain ⟨rfl,hE⟩:=hR
    obtain ⟨y',rfl⟩:=hE.get
    clear hE
    by_cases h1:ep < e.ep
    · have h1b:decide (ep < e.ep) = true:=by simpa using h1
      have HM':Hid (aboveE l ep = k):=Lib.hid (by rw [← HM.out,if_pos h1];omega)
      clear HM
      repeat' (first|refine X_q ?_|refine X_nil ?_|refine W_seqk (fun K hK=>?_)|refine W_seqr ?_|refine W_ret ?_|refine W_tt ?_|go_step)
      exact Body_ret hd ⟨by rw [HM'.out],by simp⟩
    · have h1b:decide (ep < e.ep) = false:=by simpa using h1
      have HM':Hid (k + 1 + aboveE (l.drop (k + 1)) ep = aboveE l ep):=Lib.hid (by rw [← HM.out,if_neg h1];omega)
      clear HM
      repeat' (first|refine X_q ?_|refine X_nil ?_|refine W_seqr ?_|refine W_skip ?_|refine W_ff ?_|go_step)
      exact ⟨_,_,rfl,hd,hA,n - 1,by omega,k + 1,by simp,by omega,by simp,HM'.out⟩
  · obtain rfl:k = l.length:=by omega
    rw [List.drop_length] at hm
    have HM':Hid (aboveE l ep = l.length):=Lib.hid (by rw [← hm];simp [aboveE])
    clear hm
    repeat' (first|refine X_q ?_|refine X_nil ?_|refine W_seqk (fun K hK=>?_)|refine W_seqr ?_|refine W_ret ?_|refine W_exit ?_|refine W_ff ?_|go_step)
    exact Body_ret hd ⟨by rw [HM'.out],by simp⟩
theorem above_calls (l:List Ent) (v:Value) (ep:Int) (w:World) (hl:RdE w v l):Pure Tryz.prog 94 #[v,.int .i64 ep] w (.int .i64 (aboveE l ep)):=by
  have hl0:=Lib.hid hl
  obtain ⟨A0,c,rfl,-⟩:=hl.ent
  clear hl
  refine Fn_of Tryz.func94 rfl (Nat.le_of_ble_eq_true rfl) ?_;intro A hd hA;simp only [ix,Nat.reduceAdd];replace hA:A.tmps.size = 8:=hA
  repeat' (first|refine X_q ?_|refine X_nil ?_|refine W_seqk (fun K hK=>?_)|refine W_seqr ?_|(refine X_s (fun x K hK=>?_);go_simp;refine hK _ _ (Ext.alloc _ _) ?_;clear hK K;refine X_al x ?_;generalize (World.later _ x).heap.size = bn;intro yn hn1 hn2 hn3 hn4 hn5;clear x)|go_step)
  have hbn:=hn2
  have hbc:=hn3 0
  simp at hbc
  repeat' (first|refine X_pure Tryz.func121 (efirst_calls l _ _ _ ep (hl0.out.later (by simp)) hbn hbc) ?_|refine X_q ?_|refine X_nil ?_|refine W_ret ?_|go_step)
  exact Body_ret hd ⟨rfl,by simp⟩
theorem end_calls (l:List Ent) (v:Value) (ep:Int) (w:World) (hl:RdE w v l) (h0:0≤ep) (hm:mayE l = true):Pure Tryz.prog 61 #[v,.int .i64 ep] w (.tuple #[.int .i64 (lastE (l.take (aboveE l ep))),.int .i64 (aboveE l ep),.int .i64 0]):=by
  have hl0:=Lib.hid hl
  have hle:aboveE l ep≤l.length:=by unfold aboveE;exact (List.takeWhile_sublist _).length_le
  obtain ⟨A0,c,rfl,hc,hcm,-⟩:=hl.ent
  clear hl
  have hlec:aboveE l ep≤c:=by omega
  have h0b:decide (ep < 0) = false:=by simpa using h0
  refine Fn_of Tryz.func61 rfl (Nat.le_of_ble_eq_true rfl) ?_;intro A hd hA;simp only [ix,Nat.reduceAdd];replace hA:A.tmps.size = 23:=hA
  repeat' (first|refine X_gpure Tryz.func92 (fun _=>hm▸emay_calls l _ _ (hl0.out.later (by simp))) ?_|refine X_pure Tryz.func94 (above_calls l _ ep _ (hl0.out.later (by simp))) ?_|refine X_pure Tryz.func95 (elast_calls (l.take (aboveE l ep)) _ _ ((hl0.out.take (aboveE l ep) hle).later (by simp))) ?_|refine X_gt ?_|refine X_q ?_|refine X_nil ?_|refine W_seqk (fun K hK=>?_)|refine W_seqr ?_|refine W_ret ?_|refine W_skip ?_|refine W_ff ?_|go_step)
  exact Body_ret3 hd ⟨rfl,by simp⟩
theorem cut_calls (l:List Ent) (v:Value) (ep n:Int) (w:World) (hl:RdE w v l) (h0:0≤ep) (hn:0≤n) (hm:mayE l = true):Pure Tryz.prog 68 #[v,.int .i64 ep,.int .i64 n] w (.tuple #[.int .i64 (min n (aboveE l ep:Int)),.int .i64 0]):=by
  have hl0:=Lib.hid hl
  obtain ⟨A0,c,rfl,hc,hcm,-⟩:=hl.ent
  clear hl
  have h0b:decide (ep < 0) = false:=by simpa using h0
  have hnb:decide (n < 0) = false:=by simpa using hn
  have hmin:min n (aboveE l ep:Int) = if (aboveE l ep:Int) < n then (aboveE l ep:Int) else n:=by split <;> omega
  rw [hmin]
  clear hmin
  refine Fn_of Tryz.func68 rfl (Nat.le_of_ble_eq_true rfl) ?_;intro A hd hA;simp only [ix,Nat.reduceAdd];replace hA:A.tmps.size = 24:=hA
  repeat' (first|refine X_gpure Tryz.func92 (fun _=>hm▸emay_calls l _ _ (hl0.out.later (by simp))) ?_|refine X_pure Tryz.func94 (above_calls l _ ep _ (hl0.out.later (by simp))) ?_|refine X_gt ?_|refine X_q ?_|refine X_nil ?_|refine W_seqk (fun K hK=>?_)|refine W_seqr ?_|refine W_ret ?_|refine W_skip ?_|refine W_ff ?_|go_step)
  exact Body_ret2 hd ⟨rfl,by simp⟩
theorem efits_calls (l:List Ent) (v:Value) (n ep:Int) (w:World) (hl:RdE w v l) (hn:0≤n) (h0:0≤ep) (hm:mayE l = true):Pure Tryz.prog 60 #[v,.int .i64 n,.int .i64 ep] w (.tuple #[.bool (fitsE l n ep),.int .i64 0]):=by
  have hl0:=Lib.hid hl
  obtain ⟨A0,c,rfl,hc,hcm,-⟩:=hl.ent
  clear hl
  have h0b:decide (ep < 0) = false:=by simpa using h0
  have hnb:decide (n < 0) = false:=by simpa using hn
  refine Fn_of Tryz.func60 rfl (Nat.le_of_ble_eq_true rfl) ?_;intro A hd hA;simp only [ix,Nat.reduceAdd];replace hA:A.tmps.size = 23:=hA
  repeat' (first|refine X_q ?_|refine X_nil ?_|refine W_seqk (fun K hK=>?_)|refine W_seqr ?_|go_step)
  refine W_scope ?_
  repeat' (first|refine X_gpure Tryz.func92 (fun _=>hm▸emay_calls l _ _ (hl0.out.later (by simp))) ?_|refine X_pure Tryz.func93 (fits_calls l _ n ep _ (hl0.out.later (by simp)) hn) ?_|refine X_gt ?_|refine X_q ?_|refine X_nil ?_|refine W_seqk (fun K hK=>?_)|refine W_seqr ?_|refine W_ret ?_|refine W_skip ?_|refine W_ff ?_|go_step)
  exact Body_ret2 hd ⟨rfl,by simp⟩
theorem RepAt.rdL {w:World} {b:Nat} {uL uI uC:Value} {s:RepS} (h:RepAt w b uL uI uC s):RdE w uL s.log:=h.own.rd (enc:=Ent.cs) (k:=6) (fun _=>rfl)
theorem rlast_calls {w:World} {b:Nat} {F:Nat→Prop} {s:RepS} (h:Rep w b F s) (hm:mayE s.log = true):Pure Tryz.prog 59 #[.pointer (some ⟨b,0,none⟩)] w (.int .i64 (lastE s.log)):=by
  obtain ⟨uL,uI,uC,h,hf⟩:=h.ex
  have H:=Lib.hid h
  obtain ⟨hlt,-,-,-,-,-,-,-,-,d12,-,-⟩:=h.cells
  obtain ⟨A1,m1,c1,rfl⟩:=own_slice h.own
  have hc:=elastE_calls s.log _ w h.rdL
  rw [hm] at hc
  have HC:=Lib.hid hc
  have HL:=Lib.hid h.rdL
  clear h hf hc
  have hc:∀ z:Later w,Pure Tryz.prog 91 #[.slice A1 m1 c1] (w.later z) (.tuple #[.int .i64 (lastE s.log),.int .i64 0]):=fun z=>by
    have:=elastE_calls s.log _ (w.later z) (HL.out.later z.2)
    rw [hm] at this
    exact this
  have HCC:=Lib.hid hc
  clear hc
  refine Fn_of Tryz.func59 rfl (Nat.le_of_ble_eq_true rfl) ?_;intro A hd hA;simp only [ix,Nat.reduceAdd];replace hA:A.tmps.size = 14:=hA
  repeat' (first|refine X_pure Tryz.func91 (HC.out) ?_|refine X_q ?_|refine X_nil ?_|refine W_seqk (fun K hK=>?_)|refine W_seqr ?_|refine W_ret ?_|go_step)
  exact Body_ret hd ⟨rfl,by simp⟩
theorem none_of {w:World} {b:Nat} {F:Nat→Prop} {s:RepS} (h:Rep w b F s) (hs:s.least ≠ 0):Pure Tryz.prog 33 #[.pointer (some ⟨b,0,none⟩)] w (.bool false):=by
  obtain ⟨uL,uI,uC,h,hf⟩:=h.ex
  obtain ⟨hlt,-,-,-,-,-,d9,-⟩:=h.cells
  have:(s.least == 0) = false:=beq_false_of_ne hs
  exact this▸isnone_calls hlt d9
theorem Rep.tight {w : World} {b : Nat} {F : Nat → Prop} {s s' : RepS} {f : FuncId} {args : Array Value} {R : Value → World → Prop} (h : Rep w b F s)
    (H:∀ F',Rep w b F' s→(∀ k,F' k→k < w.heap.size)→Ret Tryz.prog f args w fun r w'=>R r w'∧Mod F' w w'∧Rep w' b (fun k=>F' k∨w.heap.size≤k) s') :
    Ret Tryz.prog f args w fun r w'=>R r w'∧Mod F w w'∧Rep w' b (fun k=>F k∨w.heap.size≤k) s' :=
  Ret.mono (H _ h.here (fun _ h=>h.2)) fun v w' hR=>⟨hR.1,hR.2.1.mono (fun _ _ h=>h.1),hR.2.2.mono (fun k hk=>hk.imp (fun h=>h.1) id)⟩
theorem Rep.tight' {w : World} {b : Nat} {F : Nat → Prop} {s s' : RepS} {f : FuncId} {args : Array Value} {R : Value → World → Prop} (h : Rep w b F s)
    (H:∀ F',Rep w b F' s→(∀ k,F' k→F k)→(∀ k,F' k→k < w.heap.size)→Ret Tryz.prog f args w fun r w'=>R r w'∧Mod F' w w'∧Rep w' b (fun k=>F' k∨w.heap.size≤k) s') :
    Ret Tryz.prog f args w fun r w'=>R r w'∧Mod F w w'∧Rep w' b (fun k=>F k∨w.heap.size≤k) s' :=
  Ret.mono (H _ h.here (fun _ h=>h.1) (fun _ h=>h.2)) fun v w' hR=>⟨hR.1,hR.2.1.mono (fun _ _ h=>h.1),hR.2.2.mono (fun k hk=>hk.imp (fun h=>h.1) id)⟩
def RepS.flush (s:RepS):RepS:=({ s with flushed:=s.log.length }:RepS).count
theorem flush_calls {w:World} {b:Nat} {F:Nat→Prop} {s:RepS} (h:Rep w b F s) (hs:s.least ≠ 0) (hc:Bks s.counts):Ret Tryz.prog 26 #[.pointer (some ⟨b,0,none⟩)] w fun v w'=>v = .int .i64 0∧Mod F w w'∧Rep w' b F s.flush:=by
  have hFb:=Lib.hid h.own
  have HP:=Lib.hid h
  obtain ⟨uL,uI,uC,h,hf⟩:=h.ex
  have H:=Lib.hid h
  have HFF:=Lib.hid hf
  obtain ⟨hlt,-,-,-,-,-,-,-,-,d12,-,-⟩:=h.cells
  obtain ⟨A1,c1,rfl,-⟩:=h.rdL.ent
  clear h hf
  have HBK:=Lib.hid hc
  clear hc
  refine Fn_of Tryz.func26 rfl (Nat.le_of_ble_eq_true rfl) ?_;intro A hd hA;simp only [ix,Nat.reduceAdd];replace hA:A.tmps.size = 15:=hA
  repeat' (first|refine X_pure Tryz.func33 (none_of (HP.out.later (by simp)) hs) ?_|refine X_q ?_|refine X_nil ?_|refine W_seqk (fun K hK=>?_)|refine W_seqr ?_|refine W_skip ?_|refine W_ff ?_|go_step)
  refine X_store (off:=13) H.out.blk (fun W1 hM1 hB1=>?_)
  have HA1:=Lib.hid (H.out.putFlu hM1 hB1)
  have HR1:Hid (Rep W1 b F { s with flushed:=s.log.length }):=Lib.hid ⟨_,_,_,HA1.out,HFF.out⟩
  repeat' (first|refine X_q ?_|refine X_nil ?_|refine W_seqk (fun K hK=>?_)|refine W_seqr ?_|go_step)
  refine X_ret Tryz.func54 (count_calls HR1.out HBK.out) (fun r2 w2 hR2=>?_)
  have HR2:=Lib.hid hR2
  clear hR2
  repeat' (first|refine X_q ?_|refine X_nil ?_|refine W_seqk (fun K hK=>?_)|refine W_seqr ?_|refine W_ret ?_|go_step)
  refine Body_ret hd ⟨rfl,?_,HR2.out.2⟩
  exact Mod.trans hM1 HR2.out.1 (fun k _ hk=>by subst hk;exact hFb.out) (fun _ _ h=>h)
section
variable {P:Program} {fn:Func} {t be:Nat} {v vx:Value}
theorem res_mix {W : World} {tmps : Array Value} {te : Nat} {tye : TypeId} (hr : fn.results = #[.tmp t, .cell te tye]) (ht : tmps.getD t undef = v)
    (hte:tmps.getD te undef = .pointer (some ⟨be,0,none⟩)) (hle:(loadVar tye ⟨be,0,none⟩).run P W = .ok vx W):(results fn tmps).run P W = .ok (.tuple #[v,vx]) W:=by
  have h2:tmps[t]?.getD undef = v:=by simpa using ht
  have h3:tmps[te]?.getD undef = .pointer (some ⟨be,0,none⟩):=by simpa using hte
  simp [results,hr,h2,h3,asAddr,hle]
end
section
variable {fn:Func} {R:Res} {e:Exit} {t te bx be n:Nat} {ty:TypeId} {td:TypeDesc} {w:World} {l:List (Nat × Value)} {A:Act} {E E':TypeId} {v:Value} {x why:Int} {cs:List Value} {g:Nat→Value}
def isRowT:TypeDesc→Bool
  | .struct _=>true
  | .array _ _=>true
  | _=>false
theorem load_rowT {W : World} {bx : Nat} (hb : Blk W bx E' cs.length g) (hg : ∀ k, k < cs.length → cs[k]? = some (g k))
    (hu:Tryz.prog.underlying ty = some td) (htd:isRowT td = true) (hi:(Tryz.prog.info? ty).map (·.size) = some cs.length):(loadVar ty ⟨bx,0,none⟩).run Tryz.prog W = .ok (.agg cs.toArray) W:=by
  cases td <;> first|(exact load_row hb hg hu rfl hi)|cases htd
theorem End_no2r (hd : A.defers = [caughtD be]) (hB : Blk w be E 1 (fun _ => .int .i64 x)) (hX : Blk w bx E' cs.length g) (hg : ∀ k, k < cs.length → cs[k]? = some (g k)) (hne : bx ≠ be) (hR : ∀ W1, Mod (· = be) w W1 → R (.returned (.tuple #[.agg cs.toArray, .int .i64 why])) W1)
    (hu:Tryz.prog.underlying ty = some td) (hr:fn.results = #[.cell t ty,.cell te 26]:=by rfl) (htd:isRowT td = true:=by rfl) (hi:(Tryz.prog.info? ty).map (·.size) = some cs.length:=by kernel_rfl)
    (hv:Is ((fr l A).tmps.getD te undef) (.pointer (some ⟨be,0,none⟩)):=by go_simp;exact Is.mk _) (hvx:Is ((fr l A).tmps.getD t undef) (.pointer (some ⟨bx,0,none⟩)):=by go_simp;exact Is.mk _):BodyD Tryz.prog fn R (.panic (stopC why)) (fr l A) w :=
  End_no2 hd hB (fun W hW=>load_rowT (hX.of_heap (hW bx hne hX.lt)) hg hu htd hi) hR hr hv hvx
theorem End_ok2r (hd : A.defers = [caughtD be]) (hB : Blk w be E 1 (fun _ => .int .i64 x)) (hX : Blk w bx E' cs.length g) (hg : ∀ k, k < cs.length → cs[k]? = some (g k)) (hR : R (.returned (.tuple #[.agg cs.toArray, .int .i64 x])) w)
    (hu:Tryz.prog.underlying ty = some td) (hr:fn.results = #[.cell t ty,.cell te 26]:=by rfl) (he:e = .ret∨e = .normal:=by first|exact .inl rfl|exact .inr rfl) (htd:isRowT td = true:=by rfl) (hi:(Tryz.prog.info? ty).map (·.size) = some cs.length:=by kernel_rfl)
    (hv:Is ((fr l A).tmps.getD te undef) (.pointer (some ⟨be,0,none⟩)):=by go_simp;exact Is.mk _) (hvx:Is ((fr l A).tmps.getD t undef) (.pointer (some ⟨bx,0,none⟩)):=by go_simp;exact Is.mk _):BodyD Tryz.prog fn R e (fr l A) w :=
  End_ok2 hd hB (fun W hW=>load_rowT (hX.of_heap (hW bx hX.lt)) hg hu htd hi) hR hr he hv hvx
theorem End_noT (hd : A.defers = [caughtD be]) (hB : Blk w be E 1 (fun _ => .int .i64 x)) (hR : ∀ W1, Mod (· = be) w W1 → R (.returned (.tuple #[v, .int .i64 why])) W1) (hr : fn.results = #[.tmp t, .cell te 26] := by rfl)
    (hv:Is ((fr l A).tmps.getD te undef) (.pointer (some ⟨be,0,none⟩)):=by go_simp;exact Is.mk _) (hvx:Is ((fr l A).tmps.getD t undef) v:=by go_simp;exact Is.mk _):BodyD Tryz.prog fn R (.panic (stopC why)) (fr l A) w:=by
  obtain ⟨W1,h1,h2,h3⟩:=put_err why hB
  refine ⟨.returning,W1,by rw [fr_defers,hd];exact after_panic hB h1 h2 h3,.tuple #[v,.int .i64 why],fun X=>?_,hR W1 h1⟩
  exact res_mix hr hvx.eq hv.eq (load_cell Tryz.isAgg26 ((h2.later X.2).cell (k:=0) (by omega)))
theorem End_okT (hd : A.defers = [caughtD be]) (hB : Blk w be E 1 (fun _ => .int .i64 x)) (hR : R (.returned (.tuple #[v, .int .i64 x])) w) (hr : fn.results = #[.tmp t, .cell te 26] := by rfl) (he : e = .ret ∨ e = .normal := by first | exact .inl rfl | exact .inr rfl)
    (hv:Is ((fr l A).tmps.getD te undef) (.pointer (some ⟨be,0,none⟩)):=by go_simp;exact Is.mk _) (hvx:Is ((fr l A).tmps.getD t undef) v:=by go_simp;exact Is.mk _):BodyD Tryz.prog fn R e (fr l A) w:=by
  have h:FinD Tryz.prog fn (fr l A).tmps R .returning w:=⟨.tuple #[v,.int .i64 x],fun X=>res_mix hr hvx.eq hv.eq (load_cell Tryz.isAgg26 ((hB.later X.2).cell (k:=0) (by omega))),hR⟩
  rcases he with rfl|rfl <;> exact ⟨.returning,w,by rw [fr_defers,hd];exact after_idle be w,h⟩
end
end Go.Ws
