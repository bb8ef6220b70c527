/- Lemmas for the statements of this layer (joined texts); no condition. -/
import Derived.Maps.RangeRun
import Derived.Test.YtlpjgegbdmkmdaaGreatBb02
import Derived.Test.YtlpjgegbdmkmdaaGreatBb03
import Derived.Test.YtlpjgegbdmkmdaaGreatBb04
namespace Go.Ws
open Go Go.RowKit Go.Proofs
set_option maxHeartbeats 2000000
set_option maxRecDepth 100000
set_option linter.unusedVariables false
set_option linter.unusedSimpArgs false
structure RepS where
  self:Int
  least:Int
  role:Int
  epoch:Int
  log:List Ent
  flushed:Int
  high:Int
  version:Int
  beg:Int
  isr:List Int
  counts:List Int
  known:Nat→Int
def renc (s:RepS) (uL uI uC:Value):Nat→Value
  | 0=>.int .i64 s.version
  | 1=>.int .i64 s.beg
  | 2=>uI
  | 3=>uC
  | 4=>.int .i64 (s.known 0)
  | 5=>.int .i64 (s.known 1)
  | 6=>.int .i64 (s.known 2)
  | 7=>.int .i64 (s.known 3)
  | 8=>.int .i64 s.self
  | 9=>.int .i64 s.least
  | 10=>.int .i64 s.role
  | 11=>.int .i64 s.epoch
  | 12=>uL
  | 13=>.int .i64 s.flushed
  | _=>.int .i64 s.high
theorem all15 {P:Nat→Prop} (h:P 0∧P 1∧P 2∧P 3∧P 4∧P 5∧P 6∧P 7∧P 8∧P 9∧P 10∧P 11∧P 12∧P 13∧P 14):∀ k,k < 15→P k:=by
  obtain ⟨h0,h1,h2,h3,h4,h5,h6,h7,h8,h9,h10,h11,h12,h13,h14⟩:=h
  intro k hk
  obtain rfl|rfl|rfl|rfl|rfl|rfl|rfl|rfl|rfl|rfl|rfl|rfl|rfl|rfl|rfl:k = 0∨k = 1∨k = 2∨k = 3∨k = 4∨k = 5∨k = 6∨k = 7∨k = 8∨k = 9∨k = 10∨k = 11∨k = 12∨k = 13∨k = 14:=by omega
  all_goals assumption
structure RdS (w:World) (v:Value) (l:List Int):Prop where
  rd:RdI w v l
  lt:∀ k,v.ownBlock = some k→k < w.heap.size
instance {w:World} {v:Value} {l:List Int}:CoeOut (RdS w v l) (RdI w v l):=⟨RdS.rd⟩
theorem RdS.later {w w':World} {v:Value} {l:List Int} (h:RdS w v l) (hE:Ext w w'):RdS w' v l:=⟨h.rd.later hE,fun k hk=>Nat.lt_of_lt_of_le (h.lt k hk) hE.size⟩
theorem RdS.mod {F:Nat→Prop} {w w':World} {v:Value} {l:List Int} (h:RdS w v l) (hM:Mod F w w') (hF:∀ b,v.ownBlock = some b→¬ F b):RdS w' v l:=⟨h.rd.mod hM hF,fun k hk=>Nat.lt_of_lt_of_le (h.lt k hk) hM.size⟩
theorem RdS.nil (w:World):RdS w (.slice none 0 0) []:=⟨Rd.nil w,fun _ h=>nomatch h⟩
theorem RdS.int {w : World} {v : Value} {l : List Int} (h : RdS w v l) : ∃ A c, v = .slice A l.length c ∧ l.length ≤ c ∧ c ≤ 9223372036854775807 ∧
    Hid (∀ i,i < l.length→∃ e b o,Hid (l[i]? = some e)∧A = some ⟨b,o,none⟩∧b < w.heap.size∧w.cell? ⟨b,o + i,none⟩ = some (.int .i64 e)):=h.rd.int
theorem RdS.ownlt {w:World} {v:Value} {l:List Int} (h:RdS w v l) {k:Nat} (hk:v.ownBlock = some k):k < w.heap.size:=h.lt k hk
theorem Own.rds {w:World} {v:Value} {l:List Int} (h:OwnI w v l):RdS w v l:=⟨h.rd (enc:=ics) (k:=1) (fun _=>rfl),fun k hk=>h.lt k hk⟩
structure RepAt (w:World) (b:Nat) (uL uI uC:Value) (s:RepS):Prop where
  blk:Blk w b 72 15 (renc s uL uI uC)
  own:OwnE w uL s.log
  ri:RdS w uI s.isr
  rc:RdS w uC s.counts
  nL:uL.ownBlock ≠ some b
  nI:uI.ownBlock ≠ some b
  nC:uC.ownBlock ≠ some b
  nX:∀ k,uL.ownBlock = some k→uI.ownBlock ≠ some k∧uC.ownBlock ≠ some k
def RFoot (b:Nat) (uL uI uC:Value) (k:Nat):Prop:=k = b∨uL.ownBlock = some k∨uI.ownBlock = some k∨uC.ownBlock = some k
structure Rep (w:World) (b:Nat) (F:Nat→Prop) (s:RepS):Prop where
  ex:∃ uL uI uC,RepAt w b uL uI uC s∧(∀ k,RFoot b uL uI uC k→F k)
section
variable {w w':World} {b:Nat} {uL uI uC:Value} {s s':RepS} {F G:Nat→Prop}
theorem RepAt.mod (h:RepAt w b uL uI uC s) (hM:Mod G w w') (hF:∀ k,RFoot b uL uI uC k→¬ G k):RepAt w' b uL uI uC s :=
  ⟨h.blk.mod hM (hF _ (.inl rfl)),h.own.mod hM (fun k hk=>hF k (.inr (.inl hk))),h.ri.mod hM (fun k hk=>hF k (.inr (.inr (.inl hk)))),h.rc.mod hM (fun k hk=>hF k (.inr (.inr (.inr hk)))),h.nL,h.nI,h.nC,h.nX⟩
theorem RepAt.later (h:RepAt w b uL uI uC s) (hE:Ext w w'):RepAt w' b uL uI uC s:=h.mod hE (fun _ _ h=>h)
theorem RepAt.keep {off : Nat} {seg : List Value} (h : RepAt w b uL uI uC s) (hM : Mod (· = b) w w') (hB : Blk w' b 72 15 (put (renc s uL uI uC) off seg)) (hl : s'.log = s.log) (hi : s'.isr = s.isr) (hc : s'.counts = s.counts)
    (hg:∀ k,k < 15→renc s' uL uI uC k = put (renc s uL uI uC) off seg k):RepAt w' b uL uI uC s' :=
  ⟨hB.congr hg,by rw [hl];exact h.own.mod hM (fun k hk he=>h.nL (he▸hk)),by rw [hi];exact h.ri.mod hM (fun k hk he=>h.nI (he▸hk)),by rw [hc];exact h.rc.mod hM (fun k hk he=>h.nC (he▸hk)),h.nL,h.nI,h.nC,h.nX⟩
theorem RepAt.cells (h : RepAt w b uL uI uC s) : b < w.heap.size ∧ w.cell? ⟨b, 0, none⟩ = some (.int .i64 s.version) ∧ w.cell? ⟨b, 1, none⟩ = some (.int .i64 s.beg) ∧ w.cell? ⟨b, 2, none⟩ = some uI ∧ w.cell? ⟨b, 3, none⟩ = some uC ∧
    w.cell? ⟨b,8,none⟩ = some (.int .i64 s.self)∧w.cell? ⟨b,9,none⟩ = some (.int .i64 s.least)∧w.cell? ⟨b,10,none⟩ = some (.int .i64 s.role)∧w.cell? ⟨b,11,none⟩ = some (.int .i64 s.epoch)∧w.cell? ⟨b,12,none⟩ = some uL∧w.cell? ⟨b,13,none⟩ = some (.int .i64 s.flushed)∧w.cell? ⟨b,14,none⟩ = some (.int .i64 s.high) :=
  ⟨h.blk.lt,h.blk.cell (by omega),h.blk.cell (by omega),h.blk.cell (by omega),h.blk.cell (by omega),h.blk.cell (by omega),h.blk.cell (by omega),h.blk.cell (by omega),h.blk.cell (by omega),h.blk.cell (by omega),h.blk.cell (by omega),h.blk.cell (by omega)⟩
theorem RepAt.knownAt (h:RepAt w b uL uI uC s) (i:Nat) (hi:i < 4):w.cell? ⟨b,4 + i,none⟩ = some (.int .i64 (s.known i)):=by
  obtain rfl|rfl|rfl|rfl:i = 0∨i = 1∨i = 2∨i = 3:=by omega
  all_goals exact h.blk.cell (by omega)
theorem RepAt.lt (h:RepAt w b uL uI uC s):∀ k,RFoot b uL uI uC k→k < w.heap.size:=by
  rintro k (rfl|hk|hk|hk)
  · exact h.blk.lt
  · exact h.own.lt k hk
  · exact h.ri.ownlt hk
  · exact h.rc.ownlt hk
theorem Rep.mod (h:Rep w b F s) (hM:Mod G w w') (hF:∀ k,F k→¬ G k):Rep w' b F s:=by
  obtain ⟨uL,uI,uC,h,hf⟩:=h.ex
  exact ⟨uL,uI,uC,h.mod hM (fun k hk=>hF k (hf k hk)),hf⟩
theorem Rep.later (h:Rep w b F s) (hE:Ext w w'):Rep w' b F s:=h.mod hE (fun _ _ h=>h)
theorem Rep.mono (h:Rep w b F s) (hF:∀ k,F k→G k):Rep w b G s:=by
  obtain ⟨uL,uI,uC,h,hf⟩:=h.ex
  exact ⟨uL,uI,uC,h,fun k hk=>hF k (hf k hk)⟩
theorem Rep.here (h:Rep w b F s):Rep w b (fun k=>F k∧k < w.heap.size) s:=by
  obtain ⟨uL,uI,uC,h,hf⟩:=h.ex
  exact ⟨uL,uI,uC,h,fun k hk=>⟨hf k hk,h.lt k hk⟩⟩
theorem Rep.own (h:Rep w b F s):F b:=by
  obtain ⟨uL,uI,uC,h,hf⟩:=h.ex
  exact hf b (.inl rfl)
end
theorem isnone_calls {b:Nat} {w:World} {n:Int} (hb:b < w.heap.size) (hm:w.cell? ⟨b,9,none⟩ = some (.int .i64 n)):Pure Tryz.prog 33 #[.pointer (some ⟨b,0,none⟩)] w (.bool (n == 0)):=by
  refine Fn_of Tryz.func33 rfl (Nat.le_of_ble_eq_true rfl) ?_;intro A hd hA;simp only [ix,Nat.reduceAdd];replace hA:A.tmps.size = 12:=hA
  repeat' (first|refine X_gt ?_|refine X_q ?_|refine X_nil ?_|refine W_seqk (fun K hK=>?_)|refine W_seqr ?_|refine W_ret ?_|go_step)
  exact Body_ret hd ⟨rfl,by simp⟩
theorem isnone_nil {w:World}:Pure Tryz.prog 33 #[.pointer none] w (.bool true):=by
  refine Fn_of Tryz.func33 rfl (Nat.le_of_ble_eq_true rfl) ?_;intro A hd hA;simp only [ix,Nat.reduceAdd];replace hA:A.tmps.size = 12:=hA
  repeat' (first|refine X_q ?_|refine X_g ?_|refine X_gf ?_|refine X_nil ?_|refine W_seqk (fun K hK=>?_)|refine W_seqr ?_|refine W_ret ?_|go_step)
  exact Body_ret hd ⟨rfl,by simp⟩
theorem broker_calls (n:Int) (w:World):Pure Tryz.prog 32 #[.int .i64 n] w (.bool (inB n 0 3)):=by
  by_cases h1:0≤n
  · by_cases h2:n < 4
    · have h:inB n 0 3 = true:=by simp [inB];omega
      rw [h]
      refine Fn_of Tryz.func32 rfl (Nat.le_of_ble_eq_true rfl) ?_;intro A hd hA;simp only [ix,Nat.reduceAdd];replace hA:A.tmps.size = 9:=hA
      repeat' (first|refine X_gt ?_|refine X_q ?_|refine X_nil ?_|refine W_seqk (fun K hK=>?_)|refine W_seqr ?_|refine W_ret ?_|go_step)
      exact Body_ret hd ⟨rfl,by simp⟩
    · have h:inB n 0 3 = false:=by simp [inB];omega
      rw [h]
      refine Fn_of Tryz.func32 rfl (Nat.le_of_ble_eq_true rfl) ?_;intro A hd hA;simp only [ix,Nat.reduceAdd];replace hA:A.tmps.size = 9:=hA
      repeat' (first|refine X_gt ?_|refine X_q ?_|refine X_nil ?_|refine W_seqk (fun K hK=>?_)|refine W_seqr ?_|refine W_ret ?_|go_step)
      exact Body_ret hd ⟨rfl,by simp⟩
  · have h:inB n 0 3 = false:=by simp [inB];omega
    rw [h]
    refine Fn_of Tryz.func32 rfl (Nat.le_of_ble_eq_true rfl) ?_;intro A hd hA;simp only [ix,Nat.reduceAdd];replace hA:A.tmps.size = 9:=hA
    repeat' (first|refine X_q ?_|refine X_g ?_|refine X_nil ?_|refine W_seqk (fun K hK=>?_)|refine W_seqr ?_|refine W_ret ?_|go_step)
    exact Body_ret hd ⟨rfl,by simp⟩
theorem number_calls (n:Int) (w:World):Pure Tryz.prog 88 #[.int .i64 n] w (.bool (inB n 0 2147483647)):=by
  by_cases h1:0≤n
  · by_cases h2:n≤2147483647
    · have h:inB n 0 2147483647 = true:=by simp [inB];omega
      rw [h]
      refine Fn_of Tryz.func88 rfl (Nat.le_of_ble_eq_true rfl) ?_;intro A hd hA;simp only [ix,Nat.reduceAdd];replace hA:A.tmps.size = 9:=hA
      repeat' (first|refine X_gt ?_|refine X_q ?_|refine X_nil ?_|refine W_seqk (fun K hK=>?_)|refine W_seqr ?_|refine W_ret ?_|go_step)
      exact Body_ret hd ⟨rfl,by simp⟩
    · have h:inB n 0 2147483647 = false:=by simp [inB];omega
      rw [h]
      refine Fn_of Tryz.func88 rfl (Nat.le_of_ble_eq_true rfl) ?_;intro A hd hA;simp only [ix,Nat.reduceAdd];replace hA:A.tmps.size = 9:=hA
      repeat' (first|refine X_gt ?_|refine X_q ?_|refine X_nil ?_|refine W_seqk (fun K hK=>?_)|refine W_seqr ?_|refine W_ret ?_|go_step)
      exact Body_ret hd ⟨rfl,by simp⟩
  · have h:inB n 0 2147483647 = false:=by simp [inB];omega
    rw [h]
    refine Fn_of Tryz.func88 rfl (Nat.le_of_ble_eq_true rfl) ?_;intro A hd hA;simp only [ix,Nat.reduceAdd];replace hA:A.tmps.size = 9:=hA
    repeat' (first|refine X_q ?_|refine X_g ?_|refine X_nil ?_|refine W_seqk (fun K hK=>?_)|refine W_seqr ?_|refine W_ret ?_|go_step)
    exact Body_ret hd ⟨rfl,by simp⟩
def brokersFrom:Option Int→List Int→Bool
  | _,[]=>true
  | p,x :: xs=>inB x 0 3 && (match p with|none=>true|some q=>decide (q < x)) && brokersFrom (some x) xs
theorem brokersFrom_cons (p:Option Int) (x:Int) (xs:List Int):brokersFrom p (x :: xs) = (inB x 0 3 && (match p with|none=>true|some q=>decide (q < x)) && brokersFrom (some x) xs):=rfl
def brokersB (l:List Int):Bool:=brokersFrom none l
def prevAt (l:List Int) (k:Nat):Option Int:=if k = 0 then none else l[k - 1]?
theorem brokers_calls (l:List Int) (v:Value) (w:World) (hl:RdI w v l):Pure Tryz.prog 62 #[v] w (.bool (brokersB l)):=by
  obtain ⟨A0,c,rfl,hc,hcm,HR⟩:=hl.int
  clear hl
  have HR:=Lib.hid HR
  refine Fn_of Tryz.func62 rfl (Nat.le_of_ble_eq_true rfl) ?_;intro A hd hA;simp only [ix,Nat.reduceAdd];replace hA:A.tmps.size = 29:=hA
  repeat' (first|refine X_q ?_|refine X_nil ?_|refine W_seqk (fun K hK=>?_)|refine W_seqr ?_|refine W_block ?_|go_step)
  refine W_loops [0,5,6,7] (fun n vs w'=>∃ k:Nat,w' = w∧k + n = l.length∧vs = [.slice A0 l.length c,.slice A0 l.length c,.int .i64 l.length,.int .i64 k]∧brokersFrom (prevAt l k) (l.drop k) = brokersB l) l.length hd hA (by decide) ⟨0,rfl,by omega,by simp,by simp [prevAt,brokersB]⟩ ?_
  clear hd hA A;intro n vs B w' hd hA _ ⟨k,hw,hk,hvs,hm⟩;subst hw hvs
  simp only [List.zip_cons_cons,List.zip_nil_right,List.zip_nil_left]
  by_cases hlt:k < l.length
  · obtain ⟨x,b,o,HX,rfl,hb,c0⟩:=HR.out k hlt
    have hki:(k:Int) < l.length:=by omega
    have hdr:l.drop k = x :: l.drop (k + 1):=by
      rw [List.drop_eq_getElem_cons hlt]
      have HX':=HX.out
      rw [List.getElem?_eq_getElem hlt] at HX'
      cases HX';rfl
    have hpn:prevAt l (k + 1) = some x:=by simp [prevAt,HX.out]
    rw [hdr,brokersFrom_cons] at hm
    have Hpn:=Lib.hid hpn
    clear hdr hpn
    by_cases hbr:inB x 0 3 = true
    · by_cases hk0:(0:Int) < k
      · obtain ⟨y,b',o',HY,hb',-,d0⟩:=HR.out (k - 1) (by omega)
        cases hb'
        have hp:prevAt l k = some y:=by rw [prevAt,if_neg (by omega)];exact HY.out
        rw [hp] at hm
        have hk0n:0 < k:=by omega
        have hk1:(k:Int) - 1 = ((k - 1:Nat):Int):=by omega
        have hki2:((k - 1:Nat):Int) < l.length:=by omega
        by_cases hyx:y < x
        · have hm':brokersFrom (some x) (l.drop (k + 1)) = brokersB l:=by simpa [hbr,hyx] using hm
          have HM:=Lib.hid hm'
          have hnx:¬ x≤y:=by omega
          clear hm hm' hp
          repeat' (first|refine X_pure Tryz.func32 (hbr▸broker_calls x _) ?_|refine X_gt ?_|refine X_q ?_|refine X_nil ?_|refine W_seqk (fun K hK=>?_)|refine W_seqr ?_|refine W_skip ?_|refine W_block ?_|refine W_tt ?_|refine W_ff ?_|go_step)
          exact ⟨_,_,rfl,hd,hA,n - 1,by omega,k + 1,trivial,by omega,by simp,by rw [Hpn.out];exact HM.out⟩
        · have hm':brokersB l = false:=by simpa [hyx] using hm.symm
          have HM:=Lib.hid hm'
          have hnx:x≤y:=by omega
          clear hm hm' hp
          repeat' (first|refine X_pure Tryz.func32 (hbr▸broker_calls x _) ?_|refine X_gt ?_|refine X_q ?_|refine X_nil ?_|refine W_seqk (fun K hK=>?_)|refine W_seqr ?_|refine W_ret ?_|refine W_skip ?_|refine W_block ?_|refine W_tt ?_|go_step)
          exact Body_ret hd ⟨by rw [HM.out],by simp⟩
      · have hp:prevAt l k = none:=by rw [prevAt,if_pos (by omega)]
        rw [hp] at hm
        have hm':brokersFrom (some x) (l.drop (k + 1)) = brokersB l:=by simpa [hbr] using hm
        have HM:=Lib.hid hm'
        have hk0n:¬ 0 < k:=by omega
        clear hm hm' hp
        repeat' (first|refine X_pure Tryz.func32 (hbr▸broker_calls x _) ?_|refine X_gt ?_|refine X_q ?_|refine X_g ?_|refine X_gf ?_|refine X_nil ?_|refine W_seqk (fun K hK=>?_)|refine W_seqr ?_|refine W_skip ?_|refine W_block ?_|refine W_tt ?_|refine W_ff ?_|go_step)
        exact ⟨_,_,rfl,hd,hA,n - 1,by omega,k + 1,trivial,by omega,by simp,by rw [Hpn.out];exact HM.out⟩
    · have hbf:inB x 0 3 = false:=by simpa using hbr
      have hm':brokersB l = false:=by rw [← hm,hbf];simp
      have HM:=Lib.hid hm'
      clear hm hm'
      repeat' (first|refine X_pure Tryz.func32 (hbf▸broker_calls x _) ?_|refine X_q ?_|refine X_g ?_|refine X_gf ?_|refine X_nil ?_|refine W_seqk (fun K hK=>?_)|refine W_seqr ?_|refine W_ret ?_|refine W_skip ?_|refine W_block ?_|refine W_tt ?_|go_step)
      exact Body_ret hd ⟨by rw [HM.out],by simp⟩
  · obtain rfl:k = l.length:=by omega
    rw [List.drop_length] at hm;simp only [brokersFrom] at hm
    have HM:=Lib.hid hm
    clear hm
    repeat' (first|refine X_q ?_|refine X_nil ?_|refine W_seqk (fun K hK=>?_)|refine W_seqr ?_|refine W_ret ?_|refine W_exit ?_|refine W_ff ?_|go_step)
    exact Body_ret hd ⟨by rw [← HM.out],by simp⟩
theorem index_calls (l:List Int) (v:Value) (x:Int) (w:World) (hl:RdI w v l):Ret Tryz.prog 96 #[v,.int .i64 x] w fun r w'=>Ext w w'∧∃ i:Int,r = .int .i64 i∧(0≤i↔x ∈ l):=by
  obtain ⟨A0,c,rfl,hc,hcm,HR⟩:=hl.int
  clear hl
  refine Fn_of Tryz.func96 rfl (Nat.le_of_ble_eq_true rfl) ?_;intro A hd hA;simp only [ix,Nat.reduceAdd];replace hA:A.tmps.size = 19:=hA
  repeat' (first|refine X_q ?_|refine X_nil ?_|refine W_seqk (fun K hK=>?_)|refine W_seqr ?_|refine W_block ?_|go_step)
  refine W_loops [0,1,7,8] (fun n vs w'=>∃ k:Nat,w' = w∧k + n = l.length∧vs = [.slice A0 l.length c,.int .i64 x,.int .i64 l.length,.int .i64 k]∧x ∉ l.take k) l.length hd hA (by decide) ⟨0,rfl,by omega,by simp,by simp⟩ ?_
  clear hd hA A;intro n vs B w' hd hA _ ⟨k,hw,hk,hvs,hm⟩;subst hw hvs
  simp only [List.zip_cons_cons,List.zip_nil_right,List.zip_nil_left]
  by_cases hlt:k < l.length
  · obtain ⟨y,b,o,HX,rfl,hb,c0⟩:=HR k hlt
    have hki:(k:Int) < l.length:=by omega
    have HXX:=Lib.hid HX
    have HM:=Lib.hid hm
    clear hm HX
    by_cases hxy:x = y
    · subst hxy
      repeat' (first|refine X_q ?_|refine X_nil ?_|refine W_seqk (fun K hK=>?_)|refine W_seqr ?_|refine W_ret ?_|refine W_skip ?_|refine W_block ?_|refine W_tt ?_|go_step)
      exact Body_ret hd ⟨by simp,k,rfl,by simp;exact List.mem_of_getElem? HXX.out⟩
    · have hxb:(x == y) = false:=beq_false_of_ne hxy
      repeat' (first|refine X_q ?_|refine X_nil ?_|refine W_seqk (fun K hK=>?_)|refine W_seqr ?_|refine W_skip ?_|refine W_block ?_|refine W_tt ?_|refine W_ff ?_|go_step)
      exact ⟨_,_,rfl,hd,hA,n - 1,by omega,k + 1,trivial,by omega,by simp,by rw [take_snoc HXX.out,List.mem_append,List.mem_singleton];exact fun h=>h.elim HM.out hxy⟩
  · obtain rfl:k = l.length:=by omega
    rw [List.take_length] at hm
    have HM:=Lib.hid hm
    clear hm
    repeat' (first|refine X_q ?_|refine X_nil ?_|refine W_seqk (fun K hK=>?_)|refine W_seqr ?_|refine W_ret ?_|refine W_exit ?_|refine W_ff ?_|go_step)
    exact Body_ret hd ⟨by simp,-1,rfl,by simp;exact HM.out⟩
theorem contains_calls (l:List Int) (v:Value) (x:Int) (w:World) (hl:RdI w v l):Pure Tryz.prog 63 #[v,.int .i64 x] w (.bool (decide (x ∈ l))):=by
  have hl0:=Lib.hid hl
  obtain ⟨A0,c,rfl,-⟩:=hl.int
  clear hl
  refine Fn_of Tryz.func63 rfl (Nat.le_of_ble_eq_true rfl) ?_;intro A hd hA;simp only [ix,Nat.reduceAdd];replace hA:A.tmps.size = 9:=hA
  repeat' (first|refine X_q ?_|refine X_nil ?_|refine W_seqk (fun K hK=>?_)|refine W_seqr ?_|go_step)
  refine X_ret Tryz.func96 (index_calls l _ x _ (hl0.out.later (by simp))) (fun r w1 hR=>?_)
  obtain ⟨hE,i,rfl,hi⟩:=hR
  obtain ⟨y1,rfl⟩:=hE.get
  have HI:=Lib.hid hi
  clear hi hE
  repeat' (first|refine X_q ?_|refine X_nil ?_|refine W_ret ?_|go_step)
  exact Body_ret hd ⟨congrArg Value.bool (decide_eq_decide.2 HI.out),by simp⟩
end Go.Ws
namespace Go.Ws
open Go Go.RowKit
set_option linter.unusedVariables false
set_option linter.unusedSimpArgs false
def YieldW (P:Program) (l:Nat) (args:Array Value) (W:World) (R:Ending→World→Prop):Prop :=
  ∃ fn tmps assign body,(Instr.yield l args).run P W = .ok (.round l fn tmps assign body) W∧RoundIn Fence.wide 0 P l fn tmps assign body W R
def Iter {α:Type} (P:Program) (gf:FuncId) (lb:Array Value) (encs:α→Array Value) (S Pre:List α→Prop) (Rd:Nat→Prop) (w:World):Prop :=
  ∀ (l:Nat) (J:List α→(Nat→Prop)→World→Prop) (Jx:List α→World→Prop) (B0:Nat→Prop) (W:World),Ext w W →
    (∀ pre B V V',J pre B V→Mod (fun k=>¬ B k∧W.heap.size≤k) V V'→J pre B V')→(∀ pre W W',Jx pre W→Ext W W'→Jx pre W')→(∀ pre B W,J pre B W→∀ k,B k→k < W.heap.size) →
    (∀ pre B x W1,J pre B W1→Pre (pre ++ [x])→YieldW P l (encs x) W1 fun e W' =>
      (e = .returned (.bool true)∧∃ B',J (pre ++ [x]) B' W'∧Mod B W1 W'∧∀ k,B' k→B k∨W1.heap.size≤k)∨(e = .returned (.bool false)∧Jx (pre ++ [x]) W')) →
    J [] B0 W→(∀ k,B0 k→¬ Rd k) →
    Calls P gf (#[.func (.yield l) #[] #[]] ++ lb) W fun e W'=>∃ v,e = .returned v∧((∃ xs B,S xs∧J xs B W')∨∃ pre,Jx pre W')
theorem Iter.later {α:Type} {P:Program} {gf:FuncId} {lb:Array Value} {encs:α→Array Value} {S Pre:List α→Prop} {Rd:Nat→Prop} {w w':World} (h:Iter P gf lb encs S Pre Rd w) (hE:Ext w w'):Iter P gf lb encs S Pre Rd w' :=
  fun l J Jx B0 W hW=>h l J Jx B0 W (Ext.trans hE hW)
def RoundQ {α:Type} (I:List α→(Nat→Prop)→World→Prop) (Ix:Code→List α→(Nat→Prop)→World→Prop) (pre:List α) (B:Nat→Prop) (x:α) (W W2:World):Post
  | .normal,_,W3=>∃ B',I (pre ++ [x]) B' W3∧Mod (fun k=>B k∨W.heap.size≤k) W2 W3∧∀ k,B' k→(B k∨W.heap.size≤k)∧k < W3.heap.size
  | .ret,_,W3=>∃ B',Ix .ret (pre ++ [x]) B' W3∧Mod (fun k=>B k∨W.heap.size≤k) W2 W3∧∀ k,B' k→(B k∨W.heap.size≤k)∧k < W3.heap.size
  | .exit id,_,W3=>∃ B',Ix (.exit id) (pre ++ [x]) B' W3∧Mod (fun k=>B k∨W.heap.size≤k) W2 W3∧∀ k,B' k→(B k∨W.heap.size≤k)∧k < W3.heap.size
  | .goto t,_,W3=>∃ B',Ix (.goto t) (pre ++ [x]) B' W3∧Mod (fun k=>B k∨W.heap.size≤k) W2 W3∧∀ k,B' k→(B k∨W.heap.size≤k)∧k < W3.heap.size
  | _,_,_=>False
def Holds (n:Nat) (I:(Nat→Prop)→World→Prop):Prop:=∀ B W W',I B W→Mod (fun k=>¬ B k∧n≤k) W W'→I B W'
section
variable {P:Program} {Q:Post} {w:World} {A:Act} {fl:List (Nat × Value)}
theorem mod_putObj (w:World) (b:Nat) (o:Obj):Mod (· = b) w (w.putObj b o) :=
  ⟨rfl,rfl,rfl,by simp,fun k _ hk=>World.putObj_heap_other (fun e=>hk e)⟩
theorem fr_foldl (l:List (Nat × Value)) (ps:List Nat):∀ (xs:List Value) (fl:List (Nat × Value)) (A:Act),(ps.zip xs).foldl (fun t (p:Nat × Value)=>t.setIfInBounds p.1 p.2) (tmpsOf fl A.tmps) = tmpsOf ((ps.zip xs).reverse ++ fl) A.tmps:=by
  induction ps with
  | nil=>intro xs fl A;simp
  | cons p ps ih =>
    intro xs fl A
    cases xs with
    | nil=>simp
    | cons x xs =>
      simp only [List.zip_cons_cons,List.foldl_cons,List.reverse_cons,List.append_assoc,List.singleton_append]
      have:=ih xs ((p,x) :: fl) A
      simp only [tmpsOf] at this
      exact this
theorem W_range {α : Type} {g : Operand} {ps : List Tmp} {assign body : Code} {gf : FuncId} {lb : Array Value} {encs : α → List Value} {S Pre : List α → Prop} {Rd : Nat → Prop} {fn : Func}
    (hgf:P.funcs[gf]? = some fn) (hcall:callable fn = true) (hseq:Iter P gf lb (fun x=>(encs x).toArray) S Pre Rd w) (hps:∀ x,(encs x).length = ps.length)
    (hg:Is ((fr fl A).eval g) (.func (.func gf) #[] lb))
    (I:List α→(Nat→Prop)→World→Prop) (Ix:Code→List α→(Nat→Prop)→World→Prop) (hI:∀ pre,Holds w.heap.size (I pre)) (hIx:∀ c pre,Holds w.heap.size (Ix c pre))
    (B0:Nat→Prop) (h0:I [] B0 w) (hB0:∀ k,B0 k→k < w.heap.size∧¬ Rd k)
    (round:∀ (l:Nat) pre B x W,w.heap.size≤l→l < W.heap.size→I pre B W→(∀ k,B k→k ≠ l∧k < W.heap.size)→Pre (pre ++ [x]) →
      Wp (some l) P assign (Exit.then (fun a1 W1=>Ext W W1∧∀ W2,Mod (· = l) W1 W2→Wp (some l) P body (RoundQ I Ix pre B x W W2) a1 W2) (fun _ _ _=>False)) (fr ((ps.zip (encs x)).reverse ++ fl) { tmps:=A.tmps,defers:=[] }) W)
    (hdone:∀ (D:Nat) xs B W,w.heap.size≤D→¬ B D→S xs→I xs B W→W.heap[D]? = some (.deferred (some []))→Q .normal (fr fl { tmps:=A.tmps,defers:={ target:=.collected D,args:=#[] } :: A.defers }) W)
    (hstop:∀ (D:Nat) c pre B W,w.heap.size≤D→¬ B D→Ix c pre B W→W.heap[D]? = some (.deferred (some []))→Wp none P c Q (fr fl { tmps:=A.tmps,defers:={ target:=.collected D,args:=#[] } :: A.defers }) W) :
    Wp none P (.rangeFunc g ps.toArray assign body) Q (fr fl A) w:=Wp.intro fun X=>by
  refine wpIn_rangeFunc ?_
  intro fid hfid
  obtain ⟨W,hW⟩:∃ W,w.later X = W:=⟨_,rfl⟩
  have hEW:Ext w W:=hW▸X.2
  rw [hW]
  obtain ⟨rec,hrec⟩:∃ rec:LoopState→Option Code→Loop,rec = fun st pe=>{ state:=st,pending:=pe,fn:=fid,tmps:=(fr fl A).tmps,params:=ps.toArray,assign,body,defers:=W.heap.size }:=⟨_,rfl⟩
  obtain ⟨W1,hW1⟩:∃ W1,(W.alloc (.deferred (some []))).alloc (.loop (rec .ready none)) = W1:=⟨_,rfl⟩
  have hL1:W1.heap[W.heap.size + 1]? = some (.loop (rec .ready none)):=by
    rw [← hW1];have:=World.alloc_heap_new (W.alloc (.deferred (some []))) (.loop (rec .ready none));rwa [World.size_alloc] at this
  have hK1:W1.heap[W.heap.size]? = some (.deferred (some [])):=by
    rw [← hW1];exact (Below.heap_alloc _ _ _ (by simp)).trans (World.alloc_heap_new W _)
  have hE1:Ext w W1:=Ext.trans hEW (by rw [← hW1];exact Ext.trans (Ext.alloc _ _) (Ext.alloc _ _))
  have hwW:w.heap.size≤W.heap.size:=hEW.size
  have hup:∀ {I':(Nat→Prop)→World→Prop},Holds w.heap.size I'→∀ {B:Nat→Prop} {V V':World},I' B V→Ext V V'→I' B V':=fun {I'} hI' {B} {V} {V'} h hE=>hI' B V V' h (Mod.mono hE (fun _ _ h=>h.elim))
  generalize hl:W.heap.size + 1 = l at *
  generalize hD:W.heap.size = D at *
  have hwD:w.heap.size≤D:=by omega
  have hwl:w.heap.size≤l:=by omega
  have hlD:l ≠ D:=by omega
  obtain ⟨d,hd⟩:∃ d:Deferred,d = { target:=.fn (.func gf) lb,args:=#[.func (.yield l) #[] #[]] }:=⟨_,rfl⟩
  refine ⟨l,[{ target:=.collected D,args:=#[] }],W1,d,W1,gf,#[.func (.yield l) #[] #[]] ++ lb,W1,?_,?_,fun _ _=>trivial,?_,fun h=>(by cases h),?_⟩
  · rw [← hW1,hrec,← hl,← hD];exact run_enterLoop_outer _ _ _ _ _
  · rw [hd];simp only [resolve,hg.eq]
    simp [go_sem]
  · rw [hd]
    simp only [callable,Bool.and_eq_true] at hcall
    have h1 : (fn.name == "runtime.NumGoroutine") = false := by have := hcall.1; simpa [bne] using this
    have h2:fn.body.isNone = false:=by cases hb:fn.body <;> simp_all
    have eg:∀ args w,(callFunc gf args).run P w = .ok (.enter gf args) w:=by
      intro args w
      unfold callFunc
      simp only [program,Sem.run_bind,Sem.run,hgf,h1,h2,Result.andThen_ok,Bool.false_eq_true,if_false,Sem.run_pure]
    simp [invoke,go_sem,eg]
  -- the iterator
  refine callsIn_RF (Calls.mono (hseq l
    (fun pre B V=>I pre B V∧V.heap[l]? = some (.loop (rec .ready none))∧V.heap[D]? = some (.deferred (some []))∧∀ k,B k→k ≠ l∧k ≠ D∧k < V.heap.size)
    (fun pre V=>∃ c B,Ix c pre B V∧V.heap[l]? = some (.loop (rec .done (some c)))∧V.heap[D]? = some (.deferred (some []))∧∀ k,B k→k ≠ l∧k ≠ D∧k < V.heap.size)
    B0 W1 hE1 ?_ ?_ ?_ ?_ ⟨hup (hI []) h0 hE1,hL1,hK1,fun k hk=>?_⟩ (fun k hk=>(hB0 k hk).2)) ?_)
  · rintro pre B V V' ⟨h,hl',hD',hB⟩ hE
    have l1:=(Array.getElem?_eq_some_iff.1 hl').1
    have l2:=(Array.getElem?_eq_some_iff.1 hD').1
    have l3:=(Array.getElem?_eq_some_iff.1 hL1).1
    exact ⟨hI pre B V V' h (Mod.mono hE (fun k _ h=>⟨h.1,Nat.le_trans hE1.size h.2⟩)),(hE.block l l1 (fun h=>by have:=h.2;omega)).trans hl',(hE.block D l2 (fun h=>by have:=h.2;omega)).trans hD',fun k hk=>⟨(hB k hk).1,(hB k hk).2.1,Nat.lt_of_lt_of_le (hB k hk).2.2 hE.size⟩⟩
  · rintro pre V V' ⟨c,B,h,hl',hD',hB⟩ hE
    have l1:=(Array.getElem?_eq_some_iff.1 hl').1
    have l2:=(Array.getElem?_eq_some_iff.1 hD').1
    exact ⟨c,B,hup (hIx c pre) h hE,(hE.block l l1 (fun h=>h)).trans hl',(hE.block D l2 (fun h=>h)).trans hD',fun k hk=>⟨(hB k hk).1,(hB k hk).2.1,Nat.lt_of_lt_of_le (hB k hk).2.2 hE.size⟩⟩
  · rintro pre B V ⟨_,_,_,hB⟩ k hk
    exact (hB k hk).2.2
  · -- one round
    rintro pre B x V ⟨hi,hlV,hDV,hB⟩ hpre
    have hlt:l < V.heap.size:=(Array.getElem?_eq_some_iff.1 hlV).1
    have hDt:D < V.heap.size:=(Array.getElem?_eq_some_iff.1 hDV).1
    have hy:=run_yield (P:=P) (args:=(encs x).toArray) hlV (by rw [hrec];simpa using hps x)
    refine ⟨_,_,_,_,hy,?_⟩
    rw [hrec]
    simp only
    have htm:(ps.toArray.zip (encs x).toArray).foldl (fun tmps (p:Nat × Value)=>tmps.setIfInBounds p.1 p.2) (fr fl A).tmps = tmpsOf ((ps.zip (encs x)).reverse ++ fl) A.tmps:=by
      rw [List.zip_toArray,List.foldl_toArray]
      rw [fr_tmps]
      exact fr_foldl [] ps (encs x) fl A
    rw [htm]
    refine roundIn_of_wpIn (F:=Fence.wide) trivial ?_
    rw [fr_mk _ A _ _ rfl]
    refine Go.wpIn_mono ((round l pre B x V hwl hlt hi (fun k hk=>⟨(hB k hk).1,(hB k hk).2.2⟩) hpre).get ⟨V,Ext.refl V⟩) ?_
    rintro e a1 V1 ⟨V0,hE01,hq⟩
    cases e with
    | normal =>
      obtain ⟨hE0,hb⟩:=hq
      have hEV1:Ext V V1:=Ext.trans hE0 hE01
      have hlV1:V1.heap[l]? = some (.loop (rec .ready none)):=(hEV1.block l hlt (fun h=>h)).trans hlV
      have hbr:=run_beginRound (P:=P) hlV1 (by rw [hrec])
      refine ⟨_,hbr,?_⟩
      generalize hV2:V1.putObj l (.loop { rec .ready none with state:=.busy }) = V2 at *
      have hM12:Mod (· = l) V1 V2:=hV2▸mod_putObj V1 l _
      have hlV1':l < V1.heap.size:=Nat.lt_of_lt_of_le hlt hEV1.size
      have hl2:V2.heap[l]? = some (.loop { rec .ready none with state:=.busy }):=hV2▸World.putObj_heap_same hlV1'
      refine Go.wpIn_mono ((hb V2 (Mod.trans hE01 hM12 (fun _ _ h=>h.elim) (fun _ _ h=>h))).get ⟨V2,Ext.refl V2⟩) ?_
      rintro e a3 V3 ⟨V3',hE3,hq⟩
      have fin : ∀ (jump : Option Code) (B' : Nat → Prop) (I' : (Nat → Prop) → World → Prop), Holds w.heap.size I' → I' B' V3' → Mod (fun k => B k ∨ V.heap.size ≤ k) V2 V3' → (∀ k, B' k → (B k ∨ V.heap.size ≤ k) ∧ k < V3'.heap.size) →
          ∃ V4,(Instr.endRound l jump).run P V3 = .ok (.bool jump.isNone) V4∧I' B' V4∧V4.heap[l]? = some (.loop (rec (if jump.isNone then .ready else .done) jump))∧V4.heap[D]? = some (.deferred (some [])) ∧
            (∀ k,B' k→k ≠ l∧k ≠ D∧k < V4.heap.size)∧(jump = none→Mod B V V4)∧∀ k,B' k→B k∨V.heap.size≤k:=by
        intro jump B' I' hI' hI3 hM hB'
        have hnl:¬ (B l∨V.heap.size≤l):=by
          rintro (h|h)
          · exact (hB l h).1 rfl
          · omega
        have hnD:¬ (B D∨V.heap.size≤D):=by
          rintro (h|h)
          · exact (hB D h).2.1 rfl
          · omega
        have s1:=hEV1.size
        have s2:=hM12.size
        have s3:=hM.size
        have s4:=hE3.size
        have hl3':V3'.heap[l]? = some (.loop { rec .ready none with state:=.busy }):=(hM.block l (by omega) hnl).trans hl2
        have hl3:V3.heap[l]? = some (.loop { rec .ready none with state:=.busy }):=(hE3.block l (by omega) (fun h=>h)).trans hl3'
        have hD3:V3.heap[D]? = some (.deferred (some [])) :=
          (hE3.block D (by omega) (fun h=>h)).trans ((hM.block D (by omega) hnD).trans ((hM12.block D (by omega) (fun h=>hlD h.symm)).trans ((hEV1.block D hDt (fun h=>h)).trans hDV)))
        have hend:=run_endRound (P:=P) jump hl3
        have hM34:Mod (· = l) V3 (V3.putObj l (.loop { ({ rec .ready none with state:=.busy }:Loop) with state:=if jump.isNone then .ready else .done,pending:=jump })):=mod_putObj _ _ _
        refine ⟨_,hend,hI' _ _ _ hI3 (Mod.trans hE3 hM34 (fun _ _ h=>h.elim) ?_),?_,(World.putObj_heap_other (fun h=>hlD h.symm)).trans hD3,?_,?_,?_⟩
        · rintro k _ rfl
          exact ⟨fun h=>hnl (hB' _ h).1,hwl⟩
        · rw [World.putObj_heap_same (by omega),hrec]
        · intro k hk
          refine ⟨fun h=>hnl (h▸(hB' k hk).1),fun h=>hnD (h▸(hB' k hk).1),?_⟩
          have:=(hB' k hk).2
          simp;omega
        · rintro rfl
          refine ⟨?_,?_,?_,?_,?_⟩
          · exact hM34.os.trans (hE3.os.trans (hM.os.trans (hM12.os.trans hEV1.os)))
          · exact hM34.tape.trans (hE3.tape.trans (hM.tape.trans (hM12.tape.trans hEV1.tape)))
          · exact hM34.output.trans (hE3.output.trans (hM.output.trans (hM12.output.trans hEV1.output)))
          · simp;omega
          · intro k hk hBk
            by_cases hkl:k = l
            · subst hkl
              rw [World.putObj_heap_same (by omega),hlV,hrec]
              rfl
            · rw [World.putObj_heap_other hkl]
              exact (hE3.block k (by omega) (fun h=>h)).trans ((hM.block k (by omega) (fun h=>h.elim hBk (fun h=>by omega))).trans ((hM12.block k (by omega) hkl).trans (hEV1.block k hk (fun h=>h))))
        · exact fun k hk=>(hB' k hk).1
      cases e with
      | normal =>
        obtain ⟨B',hI3,hM,hB'⟩:=hq
        obtain ⟨V4,hend,h1,h2,h3,h4,h5,h6⟩:=fin none B' _ (hI (pre ++ [x])) hI3 hM hB'
        rw [hrec] at h2
        exact ⟨_,V4,hend,.inl ⟨rfl,B',⟨h1,h2,h3,h4⟩,h5 rfl,h6⟩⟩
      | ret =>
        obtain ⟨B',hI3,hM,hB'⟩:=hq
        obtain ⟨V4,hend,h1,h2,h3,h4,h5,h6⟩:=fin (some .ret) B' _ (hIx .ret (pre ++ [x])) hI3 hM hB'
        rw [hrec] at h2
        exact ⟨_,V4,hend,.inr ⟨rfl,.ret,B',h1,h2,h3,h4⟩⟩
      | exit id =>
        obtain ⟨B',hI3,hM,hB'⟩:=hq
        obtain ⟨V4,hend,h1,h2,h3,h4,h5,h6⟩:=fin (some (.exit id)) B' _ (hIx (.exit id) (pre ++ [x])) hI3 hM hB'
        rw [hrec] at h2
        exact ⟨_,V4,hend,.inr ⟨rfl,.exit id,B',h1,h2,h3,h4⟩⟩
      | goto t =>
        obtain ⟨B',hI3,hM,hB'⟩:=hq
        obtain ⟨V4,hend,h1,h2,h3,h4,h5,h6⟩:=fin (some (.goto t)) B' _ (hIx (.goto t) (pre ++ [x])) hI3 hM hB'
        rw [hrec] at h2
        exact ⟨_,V4,hend,.inr ⟨rfl,.goto t,B',h1,h2,h3,h4⟩⟩
      | panic ch=>exact hq.elim
      | outgrown=>exact hq.elim
    | _=>exact hq.elim
  · have:=(hB0 k hk).1
    exact ⟨by omega,by omega,Nat.lt_of_lt_of_le this hE1.size⟩
  · -- behind it
    rintro e V ⟨v,rfl,hq⟩
    have hact:({ (fr fl A) with defers:=[{ target:=.collected D,args:=#[] }] ++ (fr fl A).defers }:Act) = fr fl { tmps:=A.tmps,defers:={ target:=.collected D,args:=#[] } :: A.defers }:=by
      rw [fr_defers]
      have:=fr_mk fl A A.tmps ({ target:=.collected D,args:=#[] } :: A.defers) rfl
      rw [← this,← fr_tmps];rfl
    rcases hq with ⟨xs,B,hS,hi,hl',hD',hB⟩|⟨pre,c,B,hi,hl',hD',hB⟩
    · have hend:=run_endLoop (P:=P) hl' (by rw [hrec];simp)
      refine ⟨none,_,by rw [hrec] at hend;exact hend,?_⟩
      refine ⟨_,Ext.refl _,?_⟩
      show Q .normal _ _
      rw [hact]
      refine hdone D xs B _ hwD (fun h=>(hB D h).2.1 rfl) hS (hI xs B _ _ hi (Mod.mono (mod_putObj _ _ _) ?_)) ((World.putObj_heap_other (fun h=>hlD h.symm)).trans hD')
      rintro k _ rfl
      exact ⟨fun h=>(hB _ h).1 rfl,hwl⟩
    · have hend:=run_endLoop (P:=P) hl' (by rw [hrec];simp)
      refine ⟨some c,_,by rw [hrec] at hend;exact hend,?_⟩
      show Code.wpIn _ _ _ _ _ _ _
      rw [hact]
      refine (hstop D c pre B _ hwD (fun h=>(hB D h).2.1 rfl) (hIx c pre B _ _ hi (Mod.mono (mod_putObj _ _ _) ?_)) ((World.putObj_heap_other (fun h=>hlD h.symm)).trans hD')).get ⟨_,Ext.refl _⟩
      rintro k _ rfl
      exact ⟨fun h=>(hB _ h).1 rfl,hwl⟩
theorem X_yield {ops : Array Oper} {o : Oper} {rest : List (Oper × Nat)} {l : Nat} {s : Operand} {la : List Operand} {ats : Array TypeId} {lv lv' : List Value} {R : Bool → World → Prop} {d : Nat}
    (hY:∀ x:Later w,YieldW P l lv.toArray (w.later x) fun e W'=>∃ b,e = .returned (.bool b)∧R b W') (h:∀ b W',R b W'→wpX P ops Q rest (fr ((d,.bool b) :: fl) A) W')
    (hop:o.op = .call { callee:=.value s,args:=la.toArray,argTypes:=ats }:=by rfl) (hd:o.dst = some d:=by rfl) (hg:o.guard = none:=by rfl)
    (hs:Is ((fr fl A).eval s) (.func (.yield l) #[] #[]):=by go_simp;exact Is.mk _) (hargs:Is (la.map (fr fl A).eval) lv':=by go_simp;exact Is.mk _) (hlv:lv' = lv:=by rfl):wpX P ops Q ((o,2) :: rest) (fr fl A) w:=by
  refine X_op (fun x=>?_) hg
  unfold OpW
  obtain ⟨fn,tmps,assign,body,hy,hR⟩:=hY x
  rw [run_yieldcall hop hs.eq,hargs.eq,hlv,hy]
  simp only [uponW]
  refine RoundIn.mono hR fun e w' hR'=>?_
  obtain ⟨b,rfl,hb⟩:=hR'
  exact ⟨w',Ext.refl _,by rw [hd,fr_put];exact h b w' hb⟩
theorem after_one {D:Nat} (hd:A.defers = [{ target:=.collected D,args:=#[] }]) (hD:w.heap[D]? = some (.deferred (some []))) (l:List (Nat × Value)):After (fr l A).defers w (w.putObj D (.deferred none)):=by
  rw [fr_defers,hd];exact ⟨D,rfl,hD,rfl⟩
theorem Body_retm {fn : Func} {R : Res} {e : Exit} {t : Tmp} {v : Value} {l : List (Nat × Value)} {D : Nat} (hd : A.defers = [{ target := .collected D, args := #[] }]) (hD : w.heap[D]? = some (.deferred (some []))) (hR : R (.returned v) (w.putObj D (.deferred none))) (hr : fn.results = #[.tmp t] := by rfl) (he : e = .ret ∨ e = .normal := by first | exact .inl rfl | exact .inr rfl)
    (hv:Is ((fr l A).tmps.getD t undef) v:=by go_simp;exact Is.mk _):Body P fn R e (fr l A) w:=by
  unfold Body
  rcases he with rfl|rfl <;> exact ⟨_,after_one hd hD l,v,fun x=>by rw [results_tmp hr,hv.eq],hR⟩
theorem Ext.putNew {w W:World} (h:Ext w W) {D:Nat} (hD:w.heap.size≤D) (o:Obj):Ext w (W.putObj D o) :=
  Mod.trans h (mod_putObj W D o) (fun _ _ h=>h) (fun k hk e=>by subst e;omega)
end
theorem inj_of_nodup {α γ:Type} {g:α→γ}:∀ {l:List α},(l.map g).Nodup→∀ {x y:α},x ∈ l→y ∈ l→g x = g y→x = y
  | [],_,_,_,h,_,_=>by cases h
  | a :: l,hn,x,y,hx,hy,e=>by
    rw [List.map_cons,List.nodup_cons] at hn
    rcases List.mem_cons.1 hx with h1|h1
    · rcases List.mem_cons.1 hy with h2|h2
      · rw [h1,h2]
      · exact absurd (List.mem_map.2 ⟨y,h2,by rw [← e,h1]⟩:g a ∈ l.map g) hn.1
    · rcases List.mem_cons.1 hy with h2|h2
      · exact absurd (List.mem_map.2 ⟨x,h1,by rw [e,h2]⟩:g a ∈ l.map g) hn.1
      · exact inj_of_nodup hn.2 h1 h2 e
theorem nodup_of_map {α γ:Type} (g:α→γ):∀ {l:List α},(l.map g).Nodup→l.Nodup
  | [],_=>List.nodup_nil
  | a :: l,hn=>by
    rw [List.map_cons,List.nodup_cons] at hn
    exact List.nodup_cons.2 ⟨fun h=>hn.1 (List.mem_map.2 ⟨a,h,rfl⟩),nodup_of_map g hn.2⟩
theorem nodup_len {α:Type}:∀ {a b:List α},a.Nodup→(∀ x ∈ a,x ∈ b)→a.length≤b.length
  | [],b,_,_=>Nat.zero_le _
  | x :: a,b,hn,h=>by
    obtain ⟨s,t,rfl⟩:=List.append_of_mem (h x (by simp))
    have hn':=List.nodup_cons.1 hn
    have:=nodup_len (b:=s ++ t) hn'.2 (fun y hy=>by
      have:=h y (by simp [hy])
      rcases List.mem_append.1 this with h1|h1
      · exact List.mem_append.2 (.inl h1)
      · rcases List.mem_cons.1 h1 with h2|h2
        · exact absurd (h2▸hy) hn'.1
        · exact List.mem_append.2 (.inr h2))
    simp at this ⊢;omega
section
variable {κ β:Type} {P:Program} {t kt et:TypeId} {kenc:κ→Value} {venc:β→Value} {w w':World} {m r clock:Nat} {L pre:List (κ × β × Nat)}
structure Going (kenc:κ→Value) (venc:β→Value) (w:World) (r m:Nat) (L:List (κ × β × Nat)) (clock:Nat) (pre:List (κ × β × Nat)):Prop where
  map:MapL kenc venc w m L clock
  it:w.heap[r]? = some (.mapIter (some m) clock (pre.map (·.2.2)).toArray clock)
  sub:∀ x ∈ pre,x ∈ L
  nd:pre.Nodup
theorem MapL.of_heap (h:MapL kenc venc w m L clock) (hb:w'.heap[m]? = w.heap[m]?):MapL kenc venc w' m L clock:=⟨hb.trans h.heap,h.keys,h.borns,h.fresh⟩
theorem MapL.lt (h:MapL kenc venc w m L clock):m < w.heap.size:=(Array.getElem?_eq_some_iff.1 h.heap).1
theorem MapL.mod {F:Nat→Prop} (h:MapL kenc venc w m L clock) (hM:Mod F w w') (hm:¬ F m):MapL kenc venc w' m L clock:=h.of_heap (hM.block m h.lt hm)
theorem MapL.later (h:MapL kenc venc w m L clock) (hE:Ext w w'):MapL kenc venc w' m L clock:=h.mod hE (fun h=>h)
theorem MapL.nodup (h:MapL kenc venc w m L clock):L.Nodup:=nodup_of_map _ h.keys
theorem Going.mod {F:Nat→Prop} (h:Going kenc venc w r m L clock pre) (hM:Mod F w w') (hr:¬ F r) (hm:¬ F m):Going kenc venc w' r m L clock pre :=
  ⟨h.map.mod hM hm,(hM.block r (Array.getElem?_eq_some_iff.1 h.it).1 hr).trans h.it,h.sub,h.nd⟩
theorem Going.later (h:Going kenc venc w r m L clock pre) (hE:Ext w w'):Going kenc venc w' r m L clock pre:=h.mod hE (fun h=>h) (fun h=>h)
theorem Going.lt (h:Going kenc venc w r m L clock pre):r < w.heap.size:=(Array.getElem?_eq_some_iff.1 h.it).1
theorem Going.full (h:Going kenc venc w r m L clock pre) (hall:∀ x ∈ L,x ∈ pre):pre.Perm L:=(List.perm_ext_iff_of_nodup h.nd h.map.nodup).2 fun x=>⟨h.sub x,hall x⟩
theorem Going.len (h:Going kenc venc w r m L clock pre):pre.length≤L.length:=nodup_len h.nd h.sub
theorem Going.step (h : Going kenc venc w r m L clock pre) (ty : TypeId) :
    ((∀ x ∈ L,x ∈ pre)∧(Instr.next (.pointer (some ⟨r,0,none⟩)) false ty).run P w = .ok (.tuple #[.bool false]) w) ∨
    ∃ x w1,x ∈ L∧x ∉ pre∧(Instr.next (.pointer (some ⟨r,0,none⟩)) false ty).run P w = .ok (.tuple #[.bool true,kenc x.1,venc x.2.1]) w1∧Mod (· = r) w w1∧Going kenc venc w1 r m L clock (pre ++ [x]):=by
  have hmem:∀ x ∈ L,¬ (x.2.2 ∈ pre.map (·.2.2))↔x ∉ pre:=fun x hx=>by
    constructor
    · exact fun hn hp=>hn (List.mem_map.2 ⟨x,hp,rfl⟩)
    · intro hn hp
      obtain ⟨y,hy,e⟩:=List.mem_map.1 hp
      have:=inj_of_nodup h.map.borns (h.sub y hy) hx e
      exact hn (this▸hy)
  have hrm:r ≠ m:=by
    rintro rfl
    have:=h.it.symm.trans h.map.heap
    cases this
  rcases run_next_at (P := P) w ty r m clock clock (pre.map (·.2.2)).toArray (L.map (ment kenc venc)).toArray clock h.it h.map.heap (fun x hx => by
      simp only [List.toList_toArray,List.mem_map] at hx
      obtain ⟨y,hy,rfl⟩:=hx
      exact h.map.fresh y hy) (Nat.le_refl _) with ⟨h0,hr⟩|⟨e,he,w1,hw1,hr⟩
  · left
    refine ⟨fun x hx=>?_,hr⟩
    by_cases hp:x ∈ pre
    · exact hp
    · exfalso
      have:ment kenc venc x ∈ (leftOf (L.map (ment kenc venc)).toArray (pre.map (·.2.2)).toArray).toList:=by
        unfold leftOf
        simp only [Array.toList_filter,List.toList_toArray,List.mem_filter]
        refine ⟨List.mem_map.2 ⟨x,hx,rfl⟩,?_⟩
        simpa using (hmem x hx).2 hp
      rw [Array.eq_empty_of_size_eq_zero h0] at this
      simp at this
  · right
    unfold leftOf at he
    simp only [Array.toList_filter,List.toList_toArray,List.mem_filter] at he
    obtain ⟨he1,he2⟩:=he
    obtain ⟨x,hx,rfl⟩:=List.mem_map.1 he1
    have hxp:x ∉ pre:=(hmem x hx).1 (by simpa using he2)
    have hE:Ext w w1:=by rcases hw1 with rfl|rfl;exact Ext.refl _;exact Ext.drew _
    have hM:Mod (· = r) w (w1.setObj r (.mapIter (some m) clock ((pre.map (·.2.2)).toArray.push x.2.2) clock)):=Mod.trans hE (mod_setObj _ _ _) (fun _ _ h=>h.elim) (fun _ _ h=>h)
    refine ⟨x,_,hx,hxp,hr,hM,h.map.mod hM (fun e=>hrm e.symm),?_,?_,?_⟩
    · have:=heap_setObj_same w1 (b:=r) (.mapIter (some m) clock ((pre.map (·.2.2)).toArray.push x.2.2) clock) (Nat.lt_of_lt_of_le h.lt hE.size)
      rw [show (pre ++ [x]).map (·.2.2) = pre.map (·.2.2) ++ [x.2.2] by simp,← List.push_toArray]
      exact this
    · intro y hy
      rcases List.mem_append.1 hy with hy|hy
      · exact h.sub y hy
      · rw [List.mem_singleton.1 hy];exact hx
    · rw [List.nodup_append]
      exact ⟨h.nd,by simp,fun a ha b hb e=>hxp (by rw [List.mem_singleton.1 hb] at e;exact e▸ha)⟩
variable {Q:Post} {A:Act} {fl:List (Nat × Value)} {ops:Array Oper} {o:Oper}
theorem X_range {rest : List (Oper × Nat)} {x : Operand} {d : Nat} (hm : MapL kenc venc w m L clock) (ht : P.underlying t = some (.map kt et))
    (h:∀ (y:Later w) r,w.heap.size≤r→Going kenc venc (w.later y) r m L clock []→wpX P ops Q rest (fr ((d,.pointer (some ⟨r,0,none⟩)) :: fl) A) (w.later y))
    (ho:o.op = .range t x:=by rfl) (hd:o.dst = some d:=by rfl) (hg:o.guard = none:=by rfl) (hx:Is ((fr fl A).eval x) (.map (some m)):=by go_simp;exact Is.mk _):wpX P ops Q ((o,1) :: rest) (fr fl A) w:=by
  refine X_s (fun X K hK=>?_) hd hg
  have hgo:Sem.run P (getObj m) (w.later X) = .ok (.map (L.map (ment kenc venc)).toArray clock) (w.later X):=by simp [getObj,Sem.run,(hm.later (w':=w.later X) X.2).heap]
  have hrun:(Instr.range t (.map (some m))).run P (w.later X) = .ok (.pointer (some ⟨(w.later X).heap.size,0,none⟩)) ((w.later X).alloc (.mapIter (some m) clock #[] clock)):=by
    unfold Instr.range
    simp only [Sem.run_bind,run_underlying ht,Result.andThen_ok,hgo,Sem.run_pure,newObj,Sem.run,World.alloc_eq]
  unfold runV execOp
  simp only [ho,hx.eq,Sem.run_bind,hrun,Result.andThen_ok,Sem.run_pure]
  have hE:Ext (w.later X) ((w.later X).alloc (.mapIter (some m) clock #[] clock)):=Ext.alloc _ _
  refine hK _ _ hE (h ⟨_,Ext.trans X.2 hE⟩ _ X.2.size ⟨hm.later (Ext.trans X.2 hE),?_,by simp,by simp⟩)
  exact heap_alloc_new _ _
theorem X_next {rest : List (Oper × Nat)} {x : Operand} {d : Nat} (hgo : Going kenc venc w r m L clock pre)
    (hno:(∀ x ∈ L,x ∈ pre)→wpX P ops Q rest (fr ((d,.tuple #[.bool false]) :: fl) A) w)
    (hyes:∀ x W',x ∈ L→x ∉ pre→Mod (· = r) w W'→Going kenc venc W' r m L clock (pre ++ [x])→wpX P ops Q rest (fr ((d,.tuple #[.bool true,kenc x.1,venc x.2.1]) :: fl) A) W')
    (ho:o.op = .next x false:=by rfl) (hd:o.dst = some d:=by rfl) (hg:o.guard = none:=by rfl) (hx:Is ((fr fl A).eval x) (.pointer (some ⟨r,0,none⟩)):=by go_simp;exact Is.mk _):wpX P ops Q ((o,2) :: rest) (fr fl A) w:=by
  refine X_op (fun X=>?_) hg
  have hgo':Going kenc venc (w.later X) r m L clock pre:=hgo.later X.2
  unfold OpW execOp
  simp only [ho,hx.eq,Sem.run_bind]
  rcases hgo'.step (P:=P) o.type with ⟨hall,hr⟩|⟨y,w1,hy,hyp,hr,hM,hG⟩
  · rw [hr]
    simp only [Result.andThen_ok,Sem.run_pure,uponW]
    exact ⟨w,X.2,by rw [hd,fr_put];exact hno hall⟩
  · rw [hr]
    simp only [Result.andThen_ok,Sem.run_pure,uponW]
    exact ⟨w1,Ext.refl _,by rw [hd,fr_put];exact hyes y w1 hy hyp (Mod.trans X.2 hM (fun _ _ h=>h.elim) (fun _ _ h=>h)) hG⟩
theorem X_entry {rest : List (Oper × Nat)} {x : Operand} {d : Nat} {y : κ × β × Nat} (hgo : Going kenc venc w r m L clock (pre ++ [y]))
    (h:wpX P ops Q rest (fr ((d,.tuple #[kenc y.1,venc y.2.1]) :: fl) A) w)
    (ho:o.op = .entry x:=by rfl) (hd:o.dst = some d:=by rfl) (hg:o.guard = none:=by rfl) (hx:Is ((fr fl A).eval x) (.pointer (some ⟨r,0,none⟩)):=by go_simp;exact Is.mk _):wpX P ops Q ((o,0) :: rest) (fr fl A) w:=by
  refine X_q h hd hg (fun X=>?_)
  have hgo':Going kenc venc (w.later X) r m L clock (pre ++ [y]):=hgo.later X.2
  have:=run_entry_at (P:=P) (w.later X) r m clock (pre.map (·.2.2)).toArray (L.map (ment kenc venc)).toArray clock (ment kenc venc y) (by rw [hgo'.it];simp) hgo'.map.heap
    (by rw [List.toList_toArray];exact List.mem_map.2 ⟨y,hgo.sub y (by simp),rfl⟩) (by simpa [Function.comp_def] using hgo.map.borns)
  unfold Oper.quietAt execOp
  simp only [ho,hx.eq,Sem.run_bind,this,Result.andThen_ok,Sem.run_pure,Oper.quietUpon]
  exact ⟨trivial,trivial⟩
end
end Go.Ws
