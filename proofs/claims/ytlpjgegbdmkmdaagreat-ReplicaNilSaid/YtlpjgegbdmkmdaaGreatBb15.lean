/- Lemmas for the statements of this layer (joined texts); no condition. -/
import Derived.Test.YtlpjgegbdmkmdaaGreatBb02
import Derived.Test.YtlpjgegbdmkmdaaGreatBb06
import Derived.Test.YtlpjgegbdmkmdaaGreatBb14
namespace Go.Ws
open Go Go.RowKit Go.Proofs
set_option maxHeartbeats 2000000
set_option maxRecDepth 100000
set_option linter.unusedVariables false
set_option linter.unusedSimpArgs false
theorem mayFrom_ge:∀ (l:List Ent) (p:Int),mayFrom p l = true→∀ e ∈ l,p≤e.ep:=by
  intro l
  induction l with
  | nil=>intro p _ e he;cases he
  | cons x xs ih =>
    intro p h e he
    rw [mayFrom_cons] at h
    simp only [Bool.and_eq_true,decide_eq_true_eq] at h
    rcases List.mem_cons.1 he with rfl|he
    · exact h.1.1
    · have:=ih x.ep h.2 e he;omega
theorem above_iff:∀ (l:List Ent) (p ep:Int),mayFrom p l = true→∀ (k:Nat) e,l[k]? = some e→(e.ep≤ep↔k < aboveE l ep):=by
  intro l
  induction l with
  | nil=>intro p ep _ k e he;cases he
  | cons x xs ih =>
    intro p ep h k e he
    rw [mayFrom_cons] at h
    simp only [Bool.and_eq_true,decide_eq_true_eq] at h
    rw [aboveE_cons]
    by_cases hx:ep < x.ep
    · rw [if_pos hx]
      have:x.ep≤e.ep:=by
        cases k with
        | zero=>cases he;exact Int.le_refl _
        | succ k=>exact mayFrom_ge xs x.ep h.2 e (List.mem_of_getElem? (by simpa using he))
      exact ⟨fun h=>by omega,fun h=>by omega⟩
    · rw [if_neg hx]
      cases k with
      | zero=>cases he;exact ⟨fun _=>by omega,fun _=>by omega⟩
      | succ k =>
        have:=ih x.ep ep h.2 k e (by simpa using he)
        rw [this];omega
theorem above_le (l:List Ent) (ep:Int):aboveE l ep≤l.length:=by
  unfold aboveE
  exact (List.takeWhile_sublist _).length_le
theorem last_take {l:List Ent} {k:Nat} {e:Ent} (h:l[k]? = some e):lastE (l.take (k + 1)) = e.ep:=by
  have hk:k < l.length:=(List.getElem?_eq_some_iff.1 h).1
  unfold lastE
  rw [List.getLast?_eq_getElem?,List.length_take,Nat.min_eq_left (by omega),List.getElem?_take,if_pos (by omega),Nat.add_sub_cancel,h];rfl
theorem end7_calls (l:List Ent) (v:Value) (ep:Int) (w:World) (hl:RdE w v l) (hm:mayE l = true):Pure Tryz.prog 81 #[v,.int .i64 ep] w (.tuple #[.int .i64 (lastE (l.take (aboveE l ep))),.int .i64 (aboveE l ep)]):=by
  obtain ⟨A0,c,rfl,hc,hcm,HR⟩:=hl.ent
  clear hl
  have hm1:mayFrom 1 l = true:=by unfold mayE at hm;rw [Bool.and_eq_true] at hm;exact hm.1
  have HI:=Lib.hid (above_iff l 1 ep hm1)
  have hln:=Lib.hid (above_le l ep)
  clear hm hm1
  refine Fn_of Tryz.func81 rfl (Nat.le_of_ble_eq_true rfl) ?_;intro A hd hA;simp only [ix,Nat.reduceAdd];replace hA:A.tmps.size = 31:=hA
  repeat' (first|refine X_q ?_|refine X_nil ?_|refine W_seqk (fun K hK=>?_)|refine W_seqr ?_|refine W_block ?_|go_step)
  refine W_loops [0,1,6,7,8] (fun n vs w'=>∃ k:Nat,w' = w∧k + n = l.length∧vs = [.slice A0 l.length c,.int .i64 ep,.int .i64 (lastE (l.take (min k (aboveE l ep)))),.int .i64 ((min k (aboveE l ep):Nat):Int),.int .i64 k]) l.length hd hA (by decide) ⟨0,rfl,by omega,by simp [lastE]⟩ ?_
  clear hd hA A;intro n vs B w' hd hA _ ⟨k,hw,hk,hvs⟩;subst hw hvs
  simp only [List.zip_cons_cons,List.zip_nil_right,List.zip_nil_left]
  by_cases hlt:k < l.length
  · obtain ⟨e,b,o,HE,rfl,hb,c0,-⟩:=HR.out k hlt
    have hki:(k:Int) < l.length:=by omega
    have HI1:=Lib.hid (HI.out k e HE.out)
    by_cases hle:e.ep≤ep
    · have hab:k < aboveE l ep:=HI1.out.1 hle
      have HAB:=Lib.hid hab
      clear hab
      repeat' (first|refine X_q ?_|refine X_nil ?_|refine W_seqk (fun K hK=>?_)|refine W_seqr ?_|refine W_skip ?_|refine W_block ?_|refine W_tt ?_|go_step)
      exact ⟨_,_,rfl,hd,hA,n - 1,by omega,k + 1,trivial,by omega,by rw [Nat.min_eq_left (show k + 1≤aboveE l ep from HAB.out),last_take HE.out];simp⟩
    · have hab:¬ k < aboveE l ep:=fun h=>hle (HI1.out.2 h)
      have HAB:=Lib.hid hab
      clear hab
      repeat' (first|refine X_q ?_|refine X_nil ?_|refine W_seqk (fun K hK=>?_)|refine W_seqr ?_|refine W_skip ?_|refine W_block ?_|refine W_tt ?_|refine W_ff ?_|go_step)
      exact ⟨_,_,rfl,hd,hA,n - 1,by omega,k + 1,trivial,by omega,by rw [Nat.min_eq_right (show aboveE l ep≤k by have:=HAB.out;omega),Nat.min_eq_right (show aboveE l ep≤k + 1 by have:=HAB.out;omega)];simp⟩
  · obtain rfl:k = l.length:=by omega
    repeat' (first|refine X_q ?_|refine X_nil ?_|refine W_seqk (fun K hK=>?_)|refine W_seqr ?_|refine W_ret ?_|refine W_exit ?_|refine W_ff ?_|go_step)
    refine Body_ret2 (v:=.int .i64 (lastE (l.take (min l.length (aboveE l ep))))) (v':=.int .i64 ((min l.length (aboveE l ep):Nat):Int)) hd ⟨?_,by simp⟩
    rw [Nat.min_eq_right hln.out]
theorem cut7_calls (l:List Ent) (v:Value) (ep m:Int) (w:World) (hl:RdE w v l) (hm:mayE l = true) (h0:0≤m):Pure Tryz.prog 83 #[v,.int .i64 ep,.int .i64 m] w (.int .i64 (min m (aboveE l ep:Int))):=by
  obtain ⟨A0,c,rfl,hc,hcm,HR⟩:=hl.ent
  clear hl
  have hm1:mayFrom 1 l = true:=by unfold mayE at hm;rw [Bool.and_eq_true] at hm;exact hm.1
  have HI:=Lib.hid (above_iff l 1 ep hm1)
  have hln:=Lib.hid (above_le l ep)
  clear hm hm1
  refine Fn_of Tryz.func83 rfl (Nat.le_of_ble_eq_true rfl) ?_;intro A hd hA;simp only [ix,Nat.reduceAdd];replace hA:A.tmps.size = 30:=hA
  repeat' (first|refine X_q ?_|refine X_nil ?_|refine W_seqk (fun K hK=>?_)|refine W_seqr ?_|refine W_block ?_|go_step)
  refine W_loops [0,1,2,7,8] (fun n vs w'=>∃ k:Nat,w' = w∧k + n = l.length∧vs = [.slice A0 l.length c,.int .i64 ep,.int .i64 m,.int .i64 ((min k (aboveE l ep):Nat):Int),.int .i64 k]∧(k:Int)≤m) l.length hd hA (by decide) ⟨0,rfl,by omega,by simp,h0⟩ ?_
  clear hd hA A;intro n vs B w' hd hA _ ⟨k,hw,hk,hvs,hkm⟩;subst hw hvs
  simp only [List.zip_cons_cons,List.zip_nil_right,List.zip_nil_left]
  by_cases hlt:k < l.length
  · obtain ⟨e,b,o,HE,rfl,hb,c0,-⟩:=HR.out k hlt
    have hki:(k:Int) < l.length:=by omega
    by_cases hkm2:(k:Int) < m
    · have HI1:=Lib.hid (HI.out k e HE.out)
      by_cases hle:e.ep≤ep
      · have hab:k < aboveE l ep:=HI1.out.1 hle
        have HAB:=Lib.hid hab
        clear hab
        repeat' (first|refine X_gt ?_|refine X_q ?_|refine X_nil ?_|refine W_seqk (fun K hK=>?_)|refine W_seqr ?_|refine W_skip ?_|refine W_block ?_|refine W_tt ?_|go_step)
        exact ⟨_,_,rfl,hd,hA,n - 1,by omega,k + 1,trivial,by omega,by rw [Nat.min_eq_left (show k + 1≤aboveE l ep from HAB.out)];simp,by omega⟩
      · have hab:¬ k < aboveE l ep:=fun h=>hle (HI1.out.2 h)
        have HAB:=Lib.hid hab
        clear hab
        repeat' (first|refine X_gt ?_|refine X_q ?_|refine X_nil ?_|refine W_seqk (fun K hK=>?_)|refine W_seqr ?_|refine W_skip ?_|refine W_block ?_|refine W_tt ?_|refine W_ff ?_|go_step)
        exact ⟨_,_,rfl,hd,hA,n - 1,by omega,k + 1,trivial,by omega,by rw [Nat.min_eq_right (show aboveE l ep≤k by have:=HAB.out;omega),Nat.min_eq_right (show aboveE l ep≤k + 1 by have:=HAB.out;omega)];simp,by omega⟩
    · have hkm3:(k:Int) = m:=by omega
      have HKM:=Lib.hid hkm3
      clear hkm3 hkm
      repeat' (first|refine X_gt ?_|refine X_q ?_|refine X_nil ?_|refine W_seqk (fun K hK=>?_)|refine W_seqr ?_|refine W_ret ?_|refine W_exit ?_|refine W_ff ?_|go_step)
      refine Body_ret (v:=.int .i64 ((min k (aboveE l ep):Nat):Int)) hd ⟨?_,by simp⟩
      rw [← HKM.out];congr 1;omega
  · obtain rfl:k = l.length:=by omega
    have hki:¬ (l.length:Int) < l.length:=by omega
    have HKM:=Lib.hid hkm
    clear hkm
    repeat' (first|refine X_q ?_|refine X_g ?_|refine X_nil ?_|refine W_seqk (fun K hK=>?_)|refine W_seqr ?_|refine W_ret ?_|refine W_exit ?_|refine W_ff ?_|go_step)
    refine Body_ret (v:=.int .i64 ((min l.length (aboveE l ep):Nat):Int)) hd ⟨?_,by simp⟩
    congr 1;have:=HKM.out;have:=hln.out;omega
theorem right11_calls (self least:Int) (w:World):Pure Tryz.prog 47 #[.int .i64 self,.int .i64 least] w (.bool (rightNew self least)):=by
  by_cases h1:0≤self
  · by_cases h2:self < 4
    · by_cases h3:1≤least
      · by_cases h4:least≤4
        · have h:rightNew self least = true:=by simp [rightNew,inB];omega
          rw [h]
          refine Fn_of Tryz.func47 rfl (Nat.le_of_ble_eq_true rfl) ?_;intro A hd hA;simp only [ix,Nat.reduceAdd];replace hA:A.tmps.size = 19:=hA
          repeat' (first|refine X_gt ?_|refine X_q ?_|refine X_nil ?_|refine W_seqk (fun K hK=>?_)|refine W_seqr ?_|refine W_ret ?_|go_step)
          exact Body_ret hd ⟨rfl,by simp⟩
        · have h:rightNew self least = false:=by simp [rightNew,inB];omega
          rw [h]
          refine Fn_of Tryz.func47 rfl (Nat.le_of_ble_eq_true rfl) ?_;intro A hd hA;simp only [ix,Nat.reduceAdd];replace hA:A.tmps.size = 19:=hA
          repeat' (first|refine X_gt ?_|refine X_q ?_|refine X_nil ?_|refine W_seqk (fun K hK=>?_)|refine W_seqr ?_|refine W_ret ?_|go_step)
          exact Body_ret hd ⟨rfl,by simp⟩
      · have h:rightNew self least = false:=by simp [rightNew,inB];omega
        rw [h]
        refine Fn_of Tryz.func47 rfl (Nat.le_of_ble_eq_true rfl) ?_;intro A hd hA;simp only [ix,Nat.reduceAdd];replace hA:A.tmps.size = 19:=hA
        repeat' (first|refine X_gt ?_|refine X_q ?_|refine X_g ?_|refine X_nil ?_|refine W_seqk (fun K hK=>?_)|refine W_seqr ?_|refine W_ret ?_|go_step)
        exact Body_ret hd ⟨rfl,by simp⟩
    · have h:rightNew self least = false:=by simp [rightNew,inB];omega
      rw [h]
      refine Fn_of Tryz.func47 rfl (Nat.le_of_ble_eq_true rfl) ?_;intro A hd hA;simp only [ix,Nat.reduceAdd];replace hA:A.tmps.size = 19:=hA
      repeat' (first|refine X_gt ?_|refine X_q ?_|refine X_g ?_|refine X_nil ?_|refine W_seqk (fun K hK=>?_)|refine W_seqr ?_|refine W_ret ?_|go_step)
      exact Body_ret hd ⟨rfl,by simp⟩
  · have h:rightNew self least = false:=by simp [rightNew,inB];omega
    rw [h]
    refine Fn_of Tryz.func47 rfl (Nat.le_of_ble_eq_true rfl) ?_;intro A hd hA;simp only [ix,Nat.reduceAdd];replace hA:A.tmps.size = 19:=hA
    repeat' (first|refine X_q ?_|refine X_g ?_|refine X_nil ?_|refine W_seqk (fun K hK=>?_)|refine W_seqr ?_|refine W_ret ?_|go_step)
    exact Body_ret hd ⟨rfl,by simp⟩
abbrev RepS.cs (s:RepS) (uL uI uC:Value):List Value:=[.int .i64 s.self,.int .i64 s.least,.int .i64 s.role,.int .i64 s.epoch,uL,.int .i64 s.flushed,.int .i64 s.high,.int .i64 s.version,.int .i64 s.beg,uI,uC,.int .i64 (s.known 0),.int .i64 (s.known 1),.int .i64 (s.known 2),.int .i64 (s.known 3)]
abbrev RepS.v (s:RepS) (uL uI uC:Value):Value:=.agg #[.int .i64 s.self,.int .i64 s.least,.int .i64 s.role,.int .i64 s.epoch,uL,.int .i64 s.flushed,.int .i64 s.high,.int .i64 s.version,.int .i64 s.beg,uI,uC,.int .i64 (s.known 0),.int .i64 (s.known 1),.int .i64 (s.known 2),.int .i64 (s.known 3)]
def fenc (s:RepS) (uL uI uC:Value):Nat→Value
  | 0=>.int .i64 s.self
  | 1=>.int .i64 s.least
  | 2=>.int .i64 s.role
  | 3=>.int .i64 s.epoch
  | 4=>uL
  | 5=>.int .i64 s.flushed
  | 6=>.int .i64 s.high
  | 7=>.int .i64 s.version
  | 8=>.int .i64 s.beg
  | 9=>uI
  | 10=>uC
  | 11=>.int .i64 (s.known 0)
  | 12=>.int .i64 (s.known 1)
  | 13=>.int .i64 (s.known 2)
  | _=>.int .i64 (s.known 3)
structure RdN {α:Type} (N:Nat→Prop) (enc:α→List Value) (k:Nat) (w:World) (u:Value) (l:List α):Prop where
  rd:Rd enc k w u l
  nb:∀ b,u.ownBlock = some b→¬ N b∧b < w.heap.size
abbrev RdEN (N:Nat→Prop):=RdN N Ent.cs 6
abbrev RdIN (N:Nat→Prop):=RdN N (fun n:Int=>[Value.int .i64 n]) 1
instance {α:Type} {N:Nat→Prop} {enc:α→List Value} {k:Nat} {w:World} {u:Value} {l:List α}:CoeOut (RdN N enc k w u l) (Rd enc k w u l):=⟨RdN.rd⟩
theorem RdN.later {α:Type} {N:Nat→Prop} {enc:α→List Value} {k:Nat} {w w':World} {u:Value} {l:List α} (h:RdN N enc k w u l) (hE:Ext w w'):RdN N enc k w' u l:=⟨h.rd.later hE,fun b hb=>⟨(h.nb b hb).1,Nat.lt_of_lt_of_le (h.nb b hb).2 hE.size⟩⟩
theorem RdN.nil {α:Type} {N:Nat→Prop} {enc:α→List Value} {k:Nat} (w:World):RdN N enc k w (.slice none 0 0) []:=⟨Rd.nil _,fun _ h=>by cases h⟩
theorem RdN.int {N : Nat → Prop} {w : World} {v : Value} {l : List Int} (h : RdN N (fun n : Int => [Value.int .i64 n]) 1 w v l) : ∃ A c, v = .slice A l.length c ∧ l.length ≤ c ∧ c ≤ 9223372036854775807 ∧
    Hid (∀ i,i < l.length→∃ e b o,Hid (l[i]? = some e)∧A = some ⟨b,o,none⟩∧b < w.heap.size∧w.cell? ⟨b,o + i,none⟩ = some (.int .i64 e)):=h.rd.int
theorem RdN.ent {N : Nat → Prop} {w : World} {v : Value} {l : List Ent} (h : RdN N Ent.cs 6 w v l) : ∃ A c, v = .slice A l.length c ∧ l.length ≤ c ∧ c ≤ 9223372036854775807 ∧
    Hid (∀ i,i < l.length→∃ e b o,Hid (l[i]? = some e)∧A = some ⟨b,o,none⟩∧b < w.heap.size∧w.cell? ⟨b,o + i * 6,none⟩ = some (.int .i64 e.ep)∧w.cell? ⟨b,o + i * 6 + 1,none⟩ = some (.int .i64 e.id) ∧
      w.cell? ⟨b,o + i * 6 + 2,none⟩ = some (.int .i64 e.num)∧w.cell? ⟨b,o + i * 6 + 3,none⟩ = some (.int .i64 e.seq)∧w.cell? ⟨b,o + i * 6 + 4,none⟩ = some (.int .i64 e.kind)∧w.cell? ⟨b,o + i * 6 + 5,none⟩ = some (.int .i64 e.val)):=h.rd.ent
structure VR (N:Nat→Prop) (w:World) (uL uI uC:Value) (s:RepS):Prop where
  rl:RdEN N w uL s.log
  ri:RdIN N w uI s.isr
  rc:RdIN N w uC s.counts
def FV (N:Nat→Prop) (w:World) (v:Value) (s:RepS):Prop:=∃ uL uI uC,v = s.v uL uI uC∧VR N w uL uI uC s
section
variable {w w':World} {b:Nat} {E:TypeId} {uL uI uC:Value} {s s':RepS} {v:Value} {N:Nat→Prop}
theorem VR.later (h:VR N w uL uI uC s) (hE:Ext w w'):VR N w' uL uI uC s:=⟨h.rl.later hE,h.ri.later hE,h.rc.later hE⟩
theorem cs_fenc {k:Nat} (hk:k < (s.cs uL uI uC).length):(s.cs uL uI uC)[k]? = some (fenc s uL uI uC k):=by
  simp only [List.length_cons,List.length_nil] at hk
  obtain rfl|rfl|rfl|rfl|rfl|rfl|rfl|rfl|rfl|rfl|rfl|rfl|rfl|rfl|rfl:k = 0∨k = 1∨k = 2∨k = 3∨k = 4∨k = 5∨k = 6∨k = 7∨k = 8∨k = 9∨k = 10∨k = 11∨k = 12∨k = 13∨k = 14:=by omega
  all_goals rfl
theorem fbox2 (h:Blk w b E (s.cs uL uI uC).toArray.size (fun k=>(s.cs uL uI uC).toArray.getD k undef)):Blk w b E 15 (fenc s uL uI uC) :=
  h.congr (all15 ⟨rfl,rfl,rfl,rfl,rfl,rfl,rfl,rfl,rfl,rfl,rfl,rfl,rfl,rfl,rfl⟩)
theorem fcells (h : Blk w b E 15 (fenc s uL uI uC)) : b < w.heap.size ∧ w.cell? ⟨b, 0, none⟩ = some (.int .i64 s.self) ∧ w.cell? ⟨b, 1, none⟩ = some (.int .i64 s.least) ∧ w.cell? ⟨b, 2, none⟩ = some (.int .i64 s.role) ∧ w.cell? ⟨b, 3, none⟩ = some (.int .i64 s.epoch) ∧ w.cell? ⟨b, 4, none⟩ = some uL ∧
    w.cell? ⟨b,5,none⟩ = some (.int .i64 s.flushed)∧w.cell? ⟨b,6,none⟩ = some (.int .i64 s.high)∧w.cell? ⟨b,7,none⟩ = some (.int .i64 s.version)∧w.cell? ⟨b,8,none⟩ = some (.int .i64 s.beg)∧w.cell? ⟨b,9,none⟩ = some uI∧w.cell? ⟨b,10,none⟩ = some uC :=
  ⟨h.lt,h.cell (by omega),h.cell (by omega),h.cell (by omega),h.cell (by omega),h.cell (by omega),h.cell (by omega),h.cell (by omega),h.cell (by omega),h.cell (by omega),h.cell (by omega),h.cell (by omega)⟩
theorem fknown (h:Blk w b E 15 (fenc s uL uI uC)) (i:Nat) (hi:i < 4):w.cell? ⟨b,11 + i,none⟩ = some (.int .i64 (s.known i)):=by
  obtain rfl|rfl|rfl|rfl:i = 0∨i = 1∨i = 2∨i = 3:=by omega
  all_goals exact h.cell (by omega)
theorem X_fload {P : Program} {Q : Post} {A : Act} {fl : List (Nat × Value)} {ops : Array Oper} {o : Oper} {rest : List (Oper × Nat)} {x : Operand} {t : TypeId} {d : Nat} {td : TypeDesc} (hb : Blk w b E 15 (fenc s uL uI uC))
    (h:wpX P ops Q rest (fr ((d,s.v uL uI uC) :: fl) A) w) (ho:o.op = .load t x:=by rfl) (hd:o.dst = some d:=by rfl) (hg:o.guard = none:=by rfl)
    (hu:P.underlying t = some td:=by kernel_rfl) (htd:td.isRow = true:=by rfl) (hi:(P.info? t).map (·.size) = some 15:=by kernel_rfl)
    (hx:Is ((fr fl A).eval x) (.pointer (some ⟨b,0,none⟩)):=by go_simp;exact Is.mk _):wpX P ops Q ((o,0) :: rest) (fr fl A) w :=
  X_loadall hb h ho hd hg hu htd hi hx
theorem fput {g:Nat→Value} (h:Blk w b E 15 (put g 0 (s.v uL uI uC).cells.toList)):Blk w b E 15 (fenc s uL uI uC) :=
  h.congr (all15 ⟨rfl,rfl,rfl,rfl,rfl,rfl,rfl,rfl,rfl,rfl,rfl,rfl,rfl,rfl,rfl⟩)
end
theorem new11_calls {N:Nat→Prop} (self least:Int) (w:World):Ret Tryz.prog 14 #[.int .i64 self,.int .i64 least] w fun v w'=>Ext w w'∧FV N w' v (RepS.init self least):=by
  refine Fn_of Tryz.func14 rfl (Nat.le_of_ble_eq_true rfl) ?_;intro A hd hA;simp only [ix,Nat.reduceAdd];replace hA:A.tmps.size = 8:=hA
  repeat' (first|refine X_q ?_|refine X_nil ?_|refine W_seqk (fun K hK=>?_)|refine W_seqr ?_|(refine X_s (fun x K hK=>?_);go_simp;refine hK _ _ (Ext.alloc _ _) ?_;clear hK K;refine X_al x ?_;generalize (World.later _ x).heap.size = bn;intro yn hn1 hn2 hn3 hn4 hn5;clear x)|go_step)
  have HB:=Lib.hid (Blk.new hn5.out)
  have HE:=Lib.hid (yn.ext)
  have hbw:w.heap.size≤bn:=hn1
  obtain ⟨bo,hbo0⟩:∃ bo:Nat,bo = bn:=⟨_,rfl⟩
  subst hbo0
  generalize World.later w yn = W at *
  clear hn1 hn2 hn3 hn4 hn5 yn
  refine X_store (off:=0) HB.out (fun W1 hM1 hB1=>?_)
  have HE1:=Lib.hid (Ext.fresh HE.out hM1 (fun k hk=>by subst hk;omega))
  have HB1:=Lib.hid (fput (s:=RepS.init self least) (uL:=.slice none 0 0) (uI:=.slice none 0 0) (uC:=.slice none 0 0) hB1)
  clear hM1 hB1
  repeat' (first|refine X_nil ?_|refine W_ret ?_|go_step)
  exact Body_retcell1 (cs:=(RepS.init self least).cs (.slice none 0 0) (.slice none 0 0) (.slice none 0 0)) hd ⟨HE1.out,_,_,_,rfl,RdN.nil _,RdN.nil _,RdN.nil _⟩ HB1.out (fun k hk=>cs_fenc hk) Tryz.underlying33
theorem count_all (s:RepS):s.count.log = s.log∧s.count.isr = s.isr∧s.count.counts = s.counts∧s.count.known = s.known∧s.count.self = s.self∧s.count.least = s.least∧s.count.role = s.role∧s.count.epoch = s.epoch∧s.count.flushed = s.flushed∧s.count.version = s.version∧s.count.beg = s.beg:=by
  unfold RepS.count
  split <;> exact ⟨rfl,rfl,rfl,rfl,rfl,rfl,rfl,rfl,rfl,rfl,rfl⟩
theorem VR.count {N:Nat→Prop} {w:World} {uL uI uC:Value} {s:RepS} (h:VR N w uL uI uC s):VR N w uL uI uC s.count:=by
  obtain ⟨e1,e2,e3,-⟩:=count_all s
  exact ⟨by rw [e1];exact h.rl,by rw [e2];exact h.ri,by rw [e3];exact h.rc⟩
theorem count11_calls {N:Nat→Prop} {w:World} {uL uI uC:Value} {s:RepS} (h:VR N w uL uI uC s) (hc:Bks s.counts):Ret Tryz.prog 76 #[s.v uL uI uC] w fun v w'=>Ext w w'∧v = s.count.v uL uI uC:=by
  have HV:=Lib.hid h
  obtain ⟨A1,c1,rfl,-⟩:=h.rl.rd.ent
  obtain ⟨A2,c2,rfl,-⟩:=h.ri.rd.int
  obtain ⟨A3,c3,rfl,-⟩:=h.rc.rd.int
  clear h
  have HBK:=Lib.hid hc
  clear hc
  refine Fn_of Tryz.func76 rfl (Nat.le_of_ble_eq_true rfl) ?_;intro A hd hA;simp only [ix,Nat.reduceAdd];replace hA:A.tmps.size = 42:=hA
  (repeat' (first|refine W_seqk (fun K hK=>?_)|refine W_seqr ?_|fail));(first|(refine X_var (fun yn bx hn1 hn2 hn3 hn4 hn5=>?_))|(refine X_s (fun x K hK=>?_);go_simp;refine hK _ _ (Ext.alloc _ _) ?_;clear hK K;refine X_al x ?_;generalize (World.later _ x).heap.size = bx;intro yn hn1 hn2 hn3 hn4 hn5;clear x));have HBbx:=Lib.hid (Blk.new hn5.out);have HEbx:=Lib.hid yn.ext;have hlbx:(World.heap w).size≤bx:=hn1;generalize World.later w yn = W0 at *;clear hn1 hn2 hn3 hn4 hn5 yn
  (skip);(first|(refine X_var (fun yn bo hn1 hn2 hn3 hn4 hn5=>?_))|(refine X_s (fun x K hK=>?_);go_simp;refine hK _ _ (Ext.alloc _ _) ?_;clear hK K;refine X_al x ?_;generalize (World.later _ x).heap.size = bo;intro yn hn1 hn2 hn3 hn4 hn5;clear x));have HBbo:=Lib.hid (Blk.new hn5.out);have HEbo:=Lib.hid yn.ext;have hlbo:(World.heap W0).size≤bo:=hn1;generalize World.later W0 yn = W at *;clear hn1 hn2 hn3 hn4 hn5 yn
  have HBX:=Lib.hid ((fbox2 HBbx.out).later HEbo.out)
  have HE:=Lib.hid (Ext.trans HEbx.out HEbo.out)
  have hbb:bx < bo:=by have:=HBbx.out.lt;omega
  have hE0:=HEbx.out.size
  have HBO:=HBbo
  clear HBbx HBbo HEbx HEbo
  obtain ⟨hlt,d0,d1,d2,d3,d4,d5,d6,d7,d8,d9,d10⟩:=fcells HBX.out
  have hbol:=HBO.out.lt
  by_cases hr:s.role = 3
  · have hrb:(s.role != 3) = false:=by simp [hr]
    obtain ⟨A4,c4,hA4,hc0,hcm,HC⟩:=(HV.out.rc.later HE.out).int
    cases hA4
    have HR:=Lib.hid hr
    clear hr
    repeat' (first|refine X_q ?_|refine X_nil ?_|refine W_seqk (fun K hK=>?_)|refine W_seqr ?_|refine W_skip ?_|refine W_block ?_|refine W_ff ?_|go_step)
    refine W_loops [1,2,3,4] (fun n vs w'=>∃ k:Nat,w' = W∧k + n = s.counts.length∧vs = [.pointer (some ⟨bx,0,none⟩),.pointer (some ⟨bo,0,none⟩),.int .i64 (leastOf s.self s.known (s.counts.take k) s.flushed),.int .i64 k]) s.counts.length hd hA (by decide) ⟨0,rfl,by omega,by simp [leastOf]⟩ ?_
    clear hd hA A;intro n vs B w' hd hA _ ⟨k,hw,hk,hvs⟩;subst hw hvs
    simp only [List.zip_cons_cons,List.zip_nil_right,List.zip_nil_left]
    by_cases hk2:k < s.counts.length
    · obtain ⟨x,b0,o,HX,rfl,hb,c0⟩:=HC.out k hk2
      have hki:(k:Int) < s.counts.length:=by omega
      have HXX:=Lib.hid HX
      clear HX
      obtain ⟨hx0,hx4⟩:=HBK.out x (List.mem_of_getElem? HXX.out)
      by_cases hxs:x = s.self
      · have hxb:(x != s.self) = false:=by simp [hxs]
        have HXS:=Lib.hid hxs
        clear hxs
        repeat' (first|refine X_q ?_|refine X_nil ?_|refine W_seqk (fun K hK=>?_)|refine W_seqr ?_|refine W_skip ?_|refine W_block ?_|refine W_tt ?_|go_step)
        refine W_drawσ [(0,0),(1,0),(2,0),(3,0),(4,0),(5,0),(6,0),(7,0)] (by kernel_rfl) (by kernel_rfl) ?_
        repeat' (first|refine X_q ?_|refine X_niln ?_|refine X_nil ?_|refine W_seqr ?_|refine W_skip ?_|refine W_ff ?_|go_step)
        exact ⟨_,_,rfl,hd,hA,n - 1,by omega,k + 1,trivial,by omega,by simp [take_snoc HXX.out,leastOf_snoc,HXS.out]⟩
      · have hxb:(x != s.self) = true:=by simp [hxs]
        have HXS:=Lib.hid hxs
        have hkn:=fknown HBX.out x.toNat (by omega)
        clear hxs
        repeat' (first|refine X_q ?_|refine X_nil ?_|refine W_seqk (fun K hK=>?_)|refine W_seqr ?_|refine W_skip ?_|refine W_block ?_|refine W_tt ?_|go_step)
        refine W_drawσ [(0,0),(1,0),(2,0),(3,0),(4,0),(5,0),(6,0),(7,0)] (by kernel_rfl) (by kernel_rfl) ?_
        repeat' (first|refine X_q ?_|refine X_niln ?_|refine X_nil ?_|refine W_seqr ?_|refine W_tt ?_|go_step)
        exact ⟨_,_,rfl,hd,hA,n - 1,by omega,k + 1,trivial,by omega,by simp [take_snoc HXX.out,leastOf_snoc,HXS.out,gmin]⟩
    · obtain rfl:k = s.counts.length:=by omega
      repeat' (first|refine X_q ?_|refine X_nil ?_|refine W_seqk (fun K hK=>?_)|refine W_seqr ?_|refine W_exit ?_|refine W_ff ?_|go_step)
      refine X_store (off:=6) HBX.out (fun W1 hM1 hB1=>?_)
      have hcs:s.count = { s with high:=gmax s.high (leastOf s.self s.known s.counts s.flushed) }:=by unfold RepS.count;rw [if_pos HR.out]
      have HCS:=Lib.hid hcs
      have HB1:=Lib.hid (hB1.congr (g':=fenc s.count (.slice A1 s.log.length c1) (.slice A2 s.isr.length c2) (.slice A3 s.counts.length c3)) (by rw [hcs];exact all15 ⟨rfl,rfl,rfl,rfl,rfl,rfl,rfl,rfl,rfl,rfl,rfl,rfl,rfl,rfl,rfl⟩))
      have HM1:=Lib.hid hM1
      clear hM1 hB1 hcs
      have HBO:=Lib.hid (HBO.out.mod HM1.out (fun h=>by omega))
      have hlt1:=HB1.out.lt
      repeat' (first|refine X_nil ?_|refine W_seqk (fun K hK=>?_)|refine W_seqr ?_|go_step)
      refine X_fload HB1.out ?_ (hu:=Tryz.underlying33)
      skip
      refine X_store (off:=0) HBO.out (fun W2 hM2 hB2=>?_)
      have HB2:=Lib.hid (fput hB2)
      have HE2:=Lib.hid (Ext.fresh (F:=fun k=>k = bx∨k = bo) HE.out (Mod.trans HM1.out hM2 (fun _ _ h=>.inl h) (fun _ _ h=>.inr h)) (fun k hk=>by rcases hk with rfl|rfl <;> omega))
      clear hM2 hB2
      repeat' (first|refine X_nil ?_|refine W_ret ?_|go_step)
      exact Body_retcell1 (cs:=s.count.cs _ _ _) hd ⟨HE2.out,rfl⟩ HB2.out (fun k hk=>cs_fenc hk) Tryz.underlying33
  · have hrb:(s.role != 3) = true:=by simp [hr]
    have hs:s.count = s:=by unfold RepS.count;rw [if_neg hr]
    have HS:=Lib.hid hs
    clear hs
    repeat' (first|refine X_q ?_|refine X_nil ?_|refine W_seqk (fun K hK=>?_)|refine W_seqr ?_|refine W_tt ?_|go_step)
    refine X_fload HBX.out ?_ (hu:=Tryz.underlying33)
    skip
    refine X_store (off:=0) HBO.out (fun W2 hM2 hB2=>?_)
    have HB2:=Lib.hid (fput hB2)
    have HE2:=Lib.hid (Ext.fresh HE.out hM2 (fun k hk=>by subst hk;omega))
    clear hM2 hB2
    repeat' (first|refine X_nil ?_|refine W_ret ?_|go_step)
    exact Body_retcell1 (cs:=s.cs _ _ _) hd ⟨HE2.out,by rw [HS.out]⟩ HB2.out (fun k hk=>cs_fenc hk) Tryz.underlying33
theorem may11_calls {w:World} {v:Value} {x:View} (h:VV w v x):Pure Tryz.prog 75 #[v] w (.bool x.may):=by
  obtain ⟨u,rfl,hu⟩:=h
  have HU:=Lib.hid hu
  obtain ⟨A0,c,rfl,-⟩:=hu.int
  clear hu
  by_cases h0:-1≤x.leader
  · skip
    by_cases h1:x.leader < 4
    · skip
      by_cases h2:0≤x.epoch
      · skip
        by_cases h3:x.epoch≤2147483647
        · skip
          by_cases h4:0≤x.version
          · skip
            by_cases h5:x.version≤2147483647
            · skip
              by_cases h6:0 < x.isr.length
              · skip
                by_cases h7:brokersB x.isr = true
                · by_cases h8:x.leader = -1
                  · have hm:x.may = true:=by simp [View.may,inB,h0,h1,h2,h3,h4,h5,h6,h7,h8]
                    have h8b:(x.leader == -1) = true:=by simp [h8]
                    rw [hm]
                    refine Fn_of Tryz.func75 rfl (Nat.le_of_ble_eq_true rfl) ?_;intro A hd hA;simp only [ix,Nat.reduceAdd];replace hA:A.tmps.size = 56:=hA
                    repeat' (first|refine X_gpure Tryz.func84 (fun _=>rrises_calls _ _ _ (HU.out.later (by simp))) ?_|(refine X_gf2 ?_)|refine X_gt ?_|refine X_q ?_|refine X_g ?_|refine X_nil ?_|refine W_seqk (fun K hK=>?_)|refine W_seqr ?_|refine W_ret ?_|(refine X_s (fun x K hK=>?_);go_simp;refine hK _ _ (Ext.alloc _ _) ?_;clear hK K;refine X_al x ?_;generalize (World.later _ x).heap.size = bn;intro yn hn1 hn2 hn3 hn4 hn5;clear x)|go_step)
                    exact Body_ret hd ⟨rfl,by simp⟩
                  · have h8b:(x.leader == -1) = false:=beq_false_of_ne h8
                    by_cases h9:x.leader ∈ x.isr
                    · have hm:x.may = true:=by simp [View.may,inB,h0,h1,h2,h3,h4,h5,h6,h7,h8,h9]
                      rw [hm]
                      refine Fn_of Tryz.func75 rfl (Nat.le_of_ble_eq_true rfl) ?_;intro A hd hA;simp only [ix,Nat.reduceAdd];replace hA:A.tmps.size = 56:=hA
                      repeat' (first|refine X_gpure Tryz.func84 (fun _=>rrises_calls _ _ _ (HU.out.later (by simp))) ?_|refine X_gpure Tryz.func85 (fun _=>rin_calls _ _ _ _ (HU.out.later (by simp))) ?_|refine X_gt ?_|refine X_q ?_|refine X_nil ?_|refine W_seqk (fun K hK=>?_)|refine W_seqr ?_|refine W_ret ?_|(refine X_s (fun x K hK=>?_);go_simp;refine hK _ _ (Ext.alloc _ _) ?_;clear hK K;refine X_al x ?_;generalize (World.later _ x).heap.size = bn;intro yn hn1 hn2 hn3 hn4 hn5;clear x)|go_step)
                      exact Body_ret hd ⟨rfl,by simp⟩
                    · have hm:x.may = false:=by simp [View.may,inB,h0,h1,h2,h3,h4,h5,h6,h7,h8,h9]
                      rw [hm]
                      refine Fn_of Tryz.func75 rfl (Nat.le_of_ble_eq_true rfl) ?_;intro A hd hA;simp only [ix,Nat.reduceAdd];replace hA:A.tmps.size = 56:=hA
                      repeat' (first|refine X_gpure Tryz.func84 (fun _=>rrises_calls _ _ _ (HU.out.later (by simp))) ?_|refine X_gpure Tryz.func85 (fun _=>rin_calls _ _ _ _ (HU.out.later (by simp))) ?_|refine X_gt ?_|refine X_q ?_|refine X_nil ?_|refine W_seqk (fun K hK=>?_)|refine W_seqr ?_|refine W_ret ?_|(refine X_s (fun x K hK=>?_);go_simp;refine hK _ _ (Ext.alloc _ _) ?_;clear hK K;refine X_al x ?_;generalize (World.later _ x).heap.size = bn;intro yn hn1 hn2 hn3 hn4 hn5;clear x)|go_step)
                      exact Body_ret hd ⟨rfl,by simp⟩
                · have hm:x.may = false:=by simp [View.may,inB,h0,h1,h2,h3,h4,h5,h6,h7]
                  rw [hm]
                  refine Fn_of Tryz.func75 rfl (Nat.le_of_ble_eq_true rfl) ?_;intro A hd hA;simp only [ix,Nat.reduceAdd];replace hA:A.tmps.size = 56:=hA
                  repeat' (first|refine X_gpure Tryz.func84 (fun _=>rrises_calls _ _ _ (HU.out.later (by simp))) ?_|(refine X_gf2 ?_)|refine X_gt ?_|refine X_q ?_|refine X_g ?_|refine X_gf ?_|refine X_nil ?_|refine W_seqk (fun K hK=>?_)|refine W_seqr ?_|refine W_ret ?_|(refine X_s (fun x K hK=>?_);go_simp;refine hK _ _ (Ext.alloc _ _) ?_;clear hK K;refine X_al x ?_;generalize (World.later _ x).heap.size = bn;intro yn hn1 hn2 hn3 hn4 hn5;clear x)|go_step)
                  exact Body_ret hd ⟨rfl,by simp⟩
              · have hm:x.may = false:=by simp [View.may,inB,h0,h1,h2,h3,h4,h5,h6]
                rw [hm]
                refine Fn_of Tryz.func75 rfl (Nat.le_of_ble_eq_true rfl) ?_;intro A hd hA;simp only [ix,Nat.reduceAdd];replace hA:A.tmps.size = 56:=hA
                repeat' (first|(refine X_gf2 ?_)|refine X_gt ?_|refine X_q ?_|refine X_g ?_|refine X_gf ?_|refine X_nil ?_|refine W_seqk (fun K hK=>?_)|refine W_seqr ?_|refine W_ret ?_|(refine X_s (fun x K hK=>?_);go_simp;refine hK _ _ (Ext.alloc _ _) ?_;clear hK K;refine X_al x ?_;generalize (World.later _ x).heap.size = bn;intro yn hn1 hn2 hn3 hn4 hn5;clear x)|go_step)
                exact Body_ret hd ⟨rfl,by simp⟩
            · have hm:x.may = false:=by simp [View.may,inB,h0,h1,h2,h3,h4,h5]
              rw [hm]
              refine Fn_of Tryz.func75 rfl (Nat.le_of_ble_eq_true rfl) ?_;intro A hd hA;simp only [ix,Nat.reduceAdd];replace hA:A.tmps.size = 56:=hA
              repeat' (first|(refine X_gf2 ?_)|refine X_gt ?_|refine X_q ?_|refine X_g ?_|refine X_gf ?_|refine X_nil ?_|refine W_seqk (fun K hK=>?_)|refine W_seqr ?_|refine W_ret ?_|(refine X_s (fun x K hK=>?_);go_simp;refine hK _ _ (Ext.alloc _ _) ?_;clear hK K;refine X_al x ?_;generalize (World.later _ x).heap.size = bn;intro yn hn1 hn2 hn3 hn4 hn5;clear x)|go_step)
              exact Body_ret hd ⟨rfl,by simp⟩
          · have hm:x.may = false:=by simp [View.may,inB,h0,h1,h2,h3,h4]
            rw [hm]
            refine Fn_of Tryz.func75 rfl (Nat.le_of_ble_eq_true rfl) ?_;intro A hd hA;simp only [ix,Nat.reduceAdd];replace hA:A.tmps.size = 56:=hA
            repeat' (first|(refine X_gf2 ?_)|refine X_gt ?_|refine X_q ?_|refine X_g ?_|refine X_gf ?_|refine X_nil ?_|refine W_seqk (fun K hK=>?_)|refine W_seqr ?_|refine W_ret ?_|(refine X_s (fun x K hK=>?_);go_simp;refine hK _ _ (Ext.alloc _ _) ?_;clear hK K;refine X_al x ?_;generalize (World.later _ x).heap.size = bn;intro yn hn1 hn2 hn3 hn4 hn5;clear x)|go_step)
            exact Body_ret hd ⟨rfl,by simp⟩
        · have hm:x.may = false:=by simp [View.may,inB,h0,h1,h2,h3]
          rw [hm]
          refine Fn_of Tryz.func75 rfl (Nat.le_of_ble_eq_true rfl) ?_;intro A hd hA;simp only [ix,Nat.reduceAdd];replace hA:A.tmps.size = 56:=hA
          repeat' (first|(refine X_gf2 ?_)|refine X_gt ?_|refine X_q ?_|refine X_g ?_|refine X_gf ?_|refine X_nil ?_|refine W_seqk (fun K hK=>?_)|refine W_seqr ?_|refine W_ret ?_|(refine X_s (fun x K hK=>?_);go_simp;refine hK _ _ (Ext.alloc _ _) ?_;clear hK K;refine X_al x ?_;generalize (World.later _ x).heap.size = bn;intro yn hn1 hn2 hn3 hn4 hn5;clear x)|go_step)
          exact Body_ret hd ⟨rfl,by simp⟩
      · have hm:x.may = false:=by simp [View.may,inB,h0,h1,h2]
        rw [hm]
        refine Fn_of Tryz.func75 rfl (Nat.le_of_ble_eq_true rfl) ?_;intro A hd hA;simp only [ix,Nat.reduceAdd];replace hA:A.tmps.size = 56:=hA
        repeat' (first|(refine X_gf2 ?_)|refine X_gt ?_|refine X_q ?_|refine X_g ?_|refine X_gf ?_|refine X_nil ?_|refine W_seqk (fun K hK=>?_)|refine W_seqr ?_|refine W_ret ?_|(refine X_s (fun x K hK=>?_);go_simp;refine hK _ _ (Ext.alloc _ _) ?_;clear hK K;refine X_al x ?_;generalize (World.later _ x).heap.size = bn;intro yn hn1 hn2 hn3 hn4 hn5;clear x)|go_step)
        exact Body_ret hd ⟨rfl,by simp⟩
    · have hm:x.may = false:=by simp [View.may,inB,h0,h1]
      rw [hm]
      refine Fn_of Tryz.func75 rfl (Nat.le_of_ble_eq_true rfl) ?_;intro A hd hA;simp only [ix,Nat.reduceAdd];replace hA:A.tmps.size = 56:=hA
      repeat' (first|(refine X_gf2 ?_)|refine X_gt ?_|refine X_q ?_|refine X_g ?_|refine X_gf ?_|refine X_nil ?_|refine W_seqk (fun K hK=>?_)|refine W_seqr ?_|refine W_ret ?_|(refine X_s (fun x K hK=>?_);go_simp;refine hK _ _ (Ext.alloc _ _) ?_;clear hK K;refine X_al x ?_;generalize (World.later _ x).heap.size = bn;intro yn hn1 hn2 hn3 hn4 hn5;clear x)|go_step)
      exact Body_ret hd ⟨rfl,by simp⟩
  · have hm:x.may = false:=by simp [View.may,inB,h0]
    rw [hm]
    refine Fn_of Tryz.func75 rfl (Nat.le_of_ble_eq_true rfl) ?_;intro A hd hA;simp only [ix,Nat.reduceAdd];replace hA:A.tmps.size = 56:=hA
    repeat' (first|(refine X_gf2 ?_)|refine X_q ?_|refine X_g ?_|refine X_gf ?_|refine X_nil ?_|refine W_seqk (fun K hK=>?_)|refine W_seqr ?_|refine W_ret ?_|(refine X_s (fun x K hK=>?_);go_simp;refine hK _ _ (Ext.alloc _ _) ?_;clear hK K;refine X_al x ?_;generalize (World.later _ x).heap.size = bn;intro yn hn1 hn2 hn3 hn4 hn5;clear x)|go_step)
    exact Body_ret hd ⟨rfl,by simp⟩
def RepS.bare (s:RepS):RepS:={ s with version:=0,beg:=0,isr:=[],counts:=[],known:=fun _=>0 }
theorem bare11_calls {N:Nat→Prop} {w:World} {uL uI uC:Value} {s:RepS} (h:VR N w uL uI uC s):Ret Tryz.prog 77 #[s.v uL uI uC] w fun v w'=>Ext w w'∧v = s.bare.v uL (.slice none 0 0) (.slice none 0 0):=by
  obtain ⟨A1,c1,rfl,-⟩:=h.rl.rd.ent
  obtain ⟨A2,c2,rfl,-⟩:=h.ri.rd.int
  obtain ⟨A3,c3,rfl,-⟩:=h.rc.rd.int
  clear h
  refine Fn_of Tryz.func77 rfl (Nat.le_of_ble_eq_true rfl) ?_;intro A hd hA;simp only [ix,Nat.reduceAdd];replace hA:A.tmps.size = 10:=hA
  (repeat' (first|refine W_seqk (fun K hK=>?_)|refine W_seqr ?_|fail));(first|(refine X_var (fun yn bx hn1 hn2 hn3 hn4 hn5=>?_))|(refine X_s (fun x K hK=>?_);go_simp;refine hK _ _ (Ext.alloc _ _) ?_;clear hK K;refine X_al x ?_;generalize (World.later _ x).heap.size = bx;intro yn hn1 hn2 hn3 hn4 hn5;clear x));have HBbx:=Lib.hid (Blk.new hn5.out);have HEbx:=Lib.hid yn.ext;have hlbx:(World.heap w).size≤bx:=hn1;generalize World.later w yn = W0 at *;clear hn1 hn2 hn3 hn4 hn5 yn
  (skip);(first|(refine X_var (fun yn bo hn1 hn2 hn3 hn4 hn5=>?_))|(refine X_s (fun x K hK=>?_);go_simp;refine hK _ _ (Ext.alloc _ _) ?_;clear hK K;refine X_al x ?_;generalize (World.later _ x).heap.size = bo;intro yn hn1 hn2 hn3 hn4 hn5;clear x));have HBbo:=Lib.hid (Blk.new hn5.out);have HEbo:=Lib.hid yn.ext;have hlbo:(World.heap W0).size≤bo:=hn1;generalize World.later W0 yn = W at *;clear hn1 hn2 hn3 hn4 hn5 yn
  have HBX:=Lib.hid ((fbox2 HBbx.out).later HEbo.out)
  have HE:=Lib.hid (Ext.trans HEbx.out HEbo.out)
  have hbb:bx < bo:=by have:=HBbx.out.lt;omega
  have hE0:=HEbx.out.size
  have HBO:=HBbo
  clear HBbx HBbo HEbx HEbo
  have hlt:=HBX.out.lt
  have hbol:=HBO.out.lt
  repeat' (first|refine X_q ?_|refine X_nil ?_|refine W_seqk (fun K hK=>?_)|refine W_seqr ?_|go_step)
  refine X_store (off:=7) HBX.out (fun W1 hM1 hB1=>?_)
  have HB:=Lib.hid hB1
  have HM:=Lib.hid hM1
  clear hM1 hB1
  repeat' (first|refine X_q ?_|fail)
  refine X_store (off:=8) HB.out (fun W2 hM2 hB2=>?_)
  have HB:=Lib.hid hB2
  have HM:=Lib.hid (HM.out.transG hM2)
  clear hM2 hB2
  repeat' (first|refine X_q ?_|fail)
  refine X_store (off:=9) HB.out (fun W3 hM3 hB3=>?_)
  have HB:=Lib.hid hB3
  have HM:=Lib.hid (HM.out.transG hM3)
  clear hM3 hB3
  repeat' (first|refine X_q ?_|fail)
  refine X_store (off:=10) HB.out (fun W4 hM4 hB4=>?_)
  have HB:=Lib.hid hB4
  have HM:=Lib.hid (HM.out.transG hM4)
  clear hM4 hB4
  repeat' (first|refine X_q ?_|fail)
  refine X_store (off:=11) HB.out (fun W5 hM5 hB5=>?_)
  have HB:=Lib.hid (hB5.congr (g':=fenc s.bare (.slice A1 s.log.length c1) (.slice none 0 0) (.slice none 0 0)) (all15 ⟨rfl,rfl,rfl,rfl,rfl,rfl,rfl,rfl,rfl,rfl,rfl,rfl,rfl,rfl,rfl⟩))
  have HM:=Lib.hid (HM.out.transG hM5)
  clear hM5 hB5
  have hlt1:=HB.out.lt
  have HBO:=Lib.hid (HBO.out.mod HM.out (fun h=>by omega))
  repeat' (first|refine X_nil ?_|refine W_seqk (fun K hK=>?_)|refine W_seqr ?_|go_step)
  refine X_fload HB.out ?_ (hu:=Tryz.underlying33)
  skip
  refine X_store (off:=0) HBO.out (fun W6 hM6 hB6=>?_)
  have HB6:=Lib.hid (fput hB6)
  have HE6:=Lib.hid (Ext.fresh (F:=fun k=>k = bx∨k = bo) HE.out (Mod.trans HM.out hM6 (fun _ _ h=>.inl h) (fun _ _ h=>.inr h)) (fun k hk=>by rcases hk with rfl|rfl <;> omega))
  clear hM6 hB6
  repeat' (first|refine X_nil ?_|refine W_ret ?_|go_step)
  exact Body_retcell1 (cs:=s.bare.cs _ _ _) hd ⟨HE6.out,rfl⟩ HB6.out (fun k hk=>cs_fenc hk) Tryz.underlying33
end Go.Ws
namespace Go.Ws
open Go Go.RowKit Go.Proofs
set_option linter.unusedVariables false
structure RdT {α:Type} (enc:α→List Value) (k:Nat) (w:World) (u:Value) (l:List α):Prop where
  rd:Rd enc k w u l
  lt:∀ b,u.ownBlock = some b→b < w.heap.size
section
variable {α:Type} {enc:α→List Value} {k:Nat} {w w':World} {u:Value} {l:List α}
instance:CoeOut (RdT enc k w u l) (Rd enc k w u l):=⟨RdT.rd⟩
theorem RdT.mod {F:Nat→Prop} (h:RdT enc k w u l) (hM:Mod F w w') (hF:∀ b,u.ownBlock = some b→¬ F b):RdT enc k w' u l:=⟨h.rd.mod hM hF,fun b hb=>Nat.lt_of_lt_of_le (h.lt b hb) hM.size⟩
theorem RdT.length {A:Option Addr} {n c:Nat} (h:RdT enc k w (.slice A n c) l):l.length = n:=h.rd.length
end
theorem Own.rdt {α:Type} {enc:α→List Value} {k:Nat} {E:TypeId} {w:World} {u:Value} {l:List α} (hk:∀ x,(enc x).length = k) (h:Own enc k E w u l):RdT enc k w u l:=⟨h.rd hk,h.lt⟩
end Go.Ws
