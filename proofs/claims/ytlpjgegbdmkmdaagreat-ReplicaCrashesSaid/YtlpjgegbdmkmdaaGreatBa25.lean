/- Lemmas for the statements of this layer (joined texts); no condition. -/
import Derived.Test.YtlpjgegbdmkmdaaGreatBa09
import Derived.Test.YtlpjgegbdmkmdaaGreatBa10
import Derived.Test.YtlpjgegbdmkmdaaGreatBa12
import Derived.Test.YtlpjgegbdmkmdaaGreatBa14
import Derived.Test.YtlpjgegbdmkmdaaGreatBa16
import Derived.Test.YtlpjgegbdmkmdaaGreatBa20
import Derived.Test.YtlpjgegbdmkmdaaGreatBa24
namespace Go.Ws
open Go Go.RowKit Go.Proofs
set_option maxHeartbeats 2000000
set_option maxRecDepth 100000
set_option linter.unusedVariables false
set_option linter.unusedSimpArgs false

/-! ### What a call does -/
def RepS.propMay (s : RepS) (l : List Int) : Bool := brokersB l && decide (s.self ∈ l)
def RepS.inStep (s : RepS) (l : List Int) : Bool := l.all fun b => decide (b ∈ s.isr) || decide (gmax s.high s.beg ≤ s.known b.toNat)
def RepS.propNo (s : RepS) (l : List Int) : Int := if s.propMay l = false then 2 else if s.role ≠ 3 then 211 else if s.inStep l = false then 213 else 0
/-- Two rising lists of brokers as one. -/
def joinB (a b : List Int) : List Int := [0, 1, 2, 3].filter fun x => decide (x ∈ a) || decide (x ∈ b)
def RepS.prop (s : RepS) (l : List Int) : RepS := if s.propNo l = 0 then { s with counts := joinB s.counts l } else s
def RepS.step (s : RepS) (a : ActD) : RepS :=
  if a.kind = 1 then (s.learn a.view).1 else if a.kind = 2 then s.app a.ent else if a.kind = 3 then s.flush else if a.kind = 5 then s.serve a.fetch a.n
  else if a.kind = 6 then s.take a.reply else if a.kind = 7 then s.prop a.list else if a.kind = 8 then (s.crash a.n).1 else s
/-- What holds of each replica, and of its version. -/
structure RepS.Fine (s : RepS) : Prop where
  good : s.Good
  ver : 0 ≤ s.version ∧ s.version ≤ 2147483647
section
variable {N N' F G : Nat → Prop} {w0 w w' W : World} {uL uI uC u : Value} {s s' : RepS} {b : Nat}
theorem RdN.wide {α : Type} {enc : α → List Value} {k : Nat} {l : List α} (h : RdN N enc k w u l) (hN : ∀ k, N' k → N k ∨ w.heap.size ≤ k) : RdN N' enc k w u l :=
  ⟨h.rd, fun b hb hn => (hN b hn).elim (h.nb b hb) fun hs => by
    obtain ⟨A, c, rfl, -, -, h4⟩ := h.rd
    rcases h4 with ⟨rfl, -⟩ | ⟨b', o, rfl, hlt, -⟩
    · cases hb
    · cases hb; exact Nat.not_lt.2 hs hlt⟩
theorem RdN.mod {α : Type} {enc : α → List Value} {k : Nat} {l : List α} (h : RdN N enc k w u l) (hM : Mod G w w') (hG : ∀ k, G k → N k) : RdN N enc k w' u l :=
  ⟨h.rd.mod hM (fun b hb hg => h.nb b hb (hG b hg)), h.nb⟩
theorem RdN.less {α : Type} {enc : α → List Value} {k : Nat} {l : List α} (h : RdN N enc k w u l) (hN : ∀ k, N' k → N k) : RdN N' enc k w u l := ⟨h.rd, fun b hb hn => h.nb b hb (hN b hn)⟩
theorem VR.wide (h : VR N w uL uI uC s) (hN : ∀ k, N' k → N k ∨ w.heap.size ≤ k) : VR N' w uL uI uC s := ⟨h.rl.wide hN, h.ri.wide hN, h.rc.wide hN⟩
theorem VR.mod (h : VR N w uL uI uC s) (hM : Mod G w w') (hG : ∀ k, G k → N k) : VR N w' uL uI uC s := ⟨h.rl.mod hM hG, h.ri.mod hM hG, h.rc.mod hM hG⟩
theorem VR.less (h : VR N w uL uI uC s) (hN : ∀ k, N' k → N k) : VR N' w uL uI uC s := ⟨h.rl.less hN, h.ri.less hN, h.rc.less hN⟩
theorem ActR.wide {a : ActD} (h : ActR N w uL uI uC a) (hN : ∀ k, N' k → N k ∨ w.heap.size ≤ k) : ActR N' w uL uI uC a := ⟨h.ri.wide hN, h.re.wide hN, h.rl.wide hN⟩
theorem ActR.mod {a : ActD} (h : ActR N w uL uI uC a) (hM : Mod G w w') (hG : ∀ k, G k → N k) : ActR N w' uL uI uC a := ⟨h.ri.mod hM hG, h.re.mod hM hG, h.rl.mod hM hG⟩
theorem ActR.at {a : ActD} (h : ActR N w uL uI uC a) (s : RepS) : ActR N w uL uI uC (a.atS s) := by
  obtain ⟨-, -, -, h1, h2, h3⟩ := atS_kind a s
  exact ⟨by rw [h2]; exact h.ri, by rw [h3]; exact h.re, by rw [h1]; exact h.rl⟩
/-- What a call leaves: both replicas, a step further. -/
def DoesR (w0 w : World) (b : Nat) (F X : Nat → Prop) (s' : RepS) (r : Value) (w' : World) : Prop :=
  ∃ v', r = .tuple #[v', .bool true] ∧ Mod F w w' ∧ ∃ F', HR w0 w' b F' s' ∧ FV (fun k => F' k ∨ X k) w' v' s' ∧ ∀ k, F' k → F k ∨ w.heap.size ≤ k
theorem does_end {W1 W3 W4 W5 : World} {b6 : Nat} {X : Nat → Prop} (h : HR w0 W b F s) (hE1 : Ext W W1) (hE : Ext W1 W3) (hM : Mod F W3 W4) (hR : Rep W4 b (fun k => F k ∨ W3.heap.size ≤ k) s')
    (hS : Mod (· = b6) W4 W5) (h6 : W.heap.size ≤ b6) (h61 : b6 < W1.heap.size) (hv : VR (fun k => F k ∨ X k ∨ k = b6) W1 uL uI uC s') : DoesR w0 W b F X s' (.tuple #[s'.v uL uI uC, .bool true]) W5 := by
  have hs1 := hE1.size
  have hs3 := hE.size
  have hs4 := hM.size
  have hs0 := h.ext.size
  have h3 := (h.later hE1).later hE
  have h4 := h3.step hM hR
  have hn6 : ∀ k, ((F k ∨ W3.heap.size ≤ k) ∧ k < W4.heap.size) → ¬ k = b6 := by
    rintro k ⟨hk | hk, -⟩ rfl
    · have := (h.hi k hk).2; omega
    · omega
  have h5 := h4.beside hS (fun k hk => by subst hk; omega) hn6
  refine ⟨_, rfl, ?_, _, h5, ⟨_, _, _, rfl, ?_⟩, ?_⟩
  · refine Mod.trans (Mod.trans (Ext.trans hE1 hE) hM (H := F) (fun _ _ h => h.elim) (fun _ _ h => h)) hS (fun _ _ h => h) (fun k hk e => by subst e; omega)
  · have v3 : VR (fun k => F k ∨ X k ∨ k = b6 ∨ W3.heap.size ≤ k) W3 uL uI uC s' := (hv.later hE).wide (fun k hk => by
      rcases hk with h | h | h | h
      · exact .inl (.inl h)
      · exact .inl (.inr (.inl h))
      · exact .inl (.inr (.inr h))
      · exact .inr h)
    refine ((v3.mod hM (fun k hk => .inl hk)).mod hS (fun k hk => .inr (.inr (.inl hk)))).less (fun k hk => ?_)
    rcases hk with ⟨h | h, -⟩ | h
    · exact .inl h
    · exact .inr (.inr (.inr h))
    · exact .inr (.inl h)
  · rintro k ⟨hk | hk, -⟩
    · exact .inl hk
    · exact .inr (by omega)
end
/-- What a call of the program leaves. -/
def ProgR (F : Nat → Prop) (b : Nat) (s' : RepS) (R0 : Value → Prop) (w : World) (r : Value) (w' : World) : Prop := R0 r ∧ Mod F w w' ∧ Rep w' b (fun k => F k ∨ w.heap.size ≤ k) s'
theorem prog_ret {P : Program} {f : FuncId} {args : Array Value} {w : World} {F G : Nat → Prop} {b : Nat} {s' : RepS} {R0 : Value → Prop} (x : Later w)
    (h : Ret P f args (w.later x) (fun r w' => R0 r ∧ Mod F (w.later x) w' ∧ Rep w' b (fun k => F k ∨ (w.later x).heap.size ≤ k) s')) (hFG : ∀ k, F k → G k) :
    Ret P f args (w.later x) (fun r w' => ProgR F b s' R0 w r w' ∧ Mod G (w.later x) w') :=
  Ret.mono h fun v w' hR => ⟨⟨hR.1, Mod.trans x.2 hR.2.1 (fun _ _ h => h.elim) (fun _ _ h => h), hR.2.2.mono (fun k hk => hk.imp id (fun h => Nat.le_trans x.2.size h))⟩, hR.2.1.mono (fun k _ h => hFG k h)⟩
theorem good_prop {s : RepS} (h : s.Good) (l : List Int) : (s.prop l).Good := by
  unfold RepS.prop
  split
  · refine ⟨h.ok, h.self, h.least, h.role, h.epoch, h.fl, h.hi, h.isr, ?_⟩
    show brokersB (joinB s.counts l) = true
    unfold joinB
    simp only [List.filter]
    split <;> split <;> split <;> split <;> rfl
  · exact h
end Go.Ws
namespace Go.Ws
open Go Go.RowKit Go.Proofs
set_option maxHeartbeats 4000000
set_option maxRecDepth 100000
set_option linter.unusedVariables false
set_option linter.unusedSimpArgs false

theorem does1_calls {w0 W : World} {b : Nat} {F X : Nat → Prop} {s : RepS} {uL uI uC vI vE vL : Value} {a : ActD} (h : HR w0 W b F s) (hg : s.Fine) (hX : ∀ k, X k → k < W.heap.size) (hv : VR (fun k => F k ∨ X k) W uL uI uC s) (ha : ActR (fun k => F k ∨ X k) W vI vE vL a) (hk : a.kind = 1) :
    Ret Tryz.prog 16 #[.pointer (some ⟨b, 0, none⟩), s.v uL uI uC, a.v vI vE vL] W fun r W' => DoesR w0 W b F X (s.step (a.atS s)) r W' := by
  have HH := Lib.hid h
  have HG := Lib.hid hg
  have HXW := Lib.hid hX
  clear hX
  have HVR := Lib.hid hv
  have HAC := Lib.hid (ha.at s)
  have NEAR : Hid (∀ W', Ext W W' → Ret Tryz.prog 35 #[a.v vI vE vL, s.v uL uI uC] W' fun r w' => Ext W' w' ∧ r = (a.atS s).v vI vE vL) := Lib.hid (fun W' hE => near_calls (hv.later hE) hg.good hg.ver (ha.later hE))
  have hka : (a.atS s).kind = 1 := (atS_kind a s).1.trans hk
  have ht : s.step (a.atS s) = (s.learn (a.atS s).view).1 := by unfold RepS.step; simp [hka]
  rw [ht]
  clear ht
  obtain ⟨A1, c1, rfl, -⟩ := hv.rl.rd.ent
  obtain ⟨A2, c2, rfl, -⟩ := hv.ri.rd.int
  obtain ⟨A3, c3, rfl, -⟩ := hv.rc.rd.int
  clear h hg hv ha hk
  generalize a.atS s = a' at *
  obtain ⟨A4, c4, rfl, -⟩ := HAC.out.ri.int
  obtain ⟨A5, c5, rfl, -⟩ := HAC.out.re.ent
  obtain ⟨A6, c6, rfl, -⟩ := HAC.out.rl.int
  refine Fn_of Tryz.func16 rfl (Nat.le_of_ble_eq_true rfl) ?_; intro A hd hA; simp only [ix, Nat.reduceAdd]; replace hA : A.tmps.size = 268 := hA
  (repeat' (first | refine W_seqk (fun K hK => ?_) | refine W_seqr ?_ | fail)); (first | (refine X_var (fun yn b4 hn1 hn2 hn3 hn4 hn5 => ?_)) | (refine X_s (fun x K hK => ?_); go_simp; refine hK _ _ (Ext.alloc _ _) ?_; clear hK K; refine X_al x ?_; generalize (World.later _ x).heap.size = b4; intro yn hn1 hn2 hn3 hn4 hn5; clear x)); have HBb4 := Lib.hid (Blk.new hn5.out); have HEb4 := Lib.hid yn.ext; have hlb4 : (World.heap W).size ≤ b4 := hn1; generalize World.later W yn = W0 at *; clear hn1 hn2 hn3 hn4 hn5 yn
  (skip); (first | (refine X_var (fun yn b5 hn1 hn2 hn3 hn4 hn5 => ?_)) | (refine X_s (fun x K hK => ?_); go_simp; refine hK _ _ (Ext.alloc _ _) ?_; clear hK K; refine X_al x ?_; generalize (World.later _ x).heap.size = b5; intro yn hn1 hn2 hn3 hn4 hn5; clear x)); have HBb5 := Lib.hid (Blk.new hn5.out); have HEb5 := Lib.hid yn.ext; have hlb5 : (World.heap W0).size ≤ b5 := hn1; generalize World.later W0 yn = W1 at *; clear hn1 hn2 hn3 hn4 hn5 yn
  (skip); (first | (refine X_var (fun yn b6 hn1 hn2 hn3 hn4 hn5 => ?_)) | (refine X_s (fun x K hK => ?_); go_simp; refine hK _ _ (Ext.alloc _ _) ?_; clear hK K; refine X_al x ?_; generalize (World.later _ x).heap.size = b6; intro yn hn1 hn2 hn3 hn4 hn5; clear x)); have HBb6 := Lib.hid (Blk.new hn5.out); have HEb6 := Lib.hid yn.ext; have hlb6 : (World.heap W1).size ≤ b6 := hn1; generalize World.later W1 yn = W2 at *; clear hn1 hn2 hn3 hn4 hn5 yn
  have HBS := Lib.hid ((fbox2 HBb4.out).later (Ext.trans HEb5.out HEb6.out))
  have HBA : Hid (Blk W2 b5 51 27 (aenc a (.slice A4 a'.view.isr.length c4) (.slice A5 a'.reply.entries.length c5) (.slice A6 a'.list.length c6))) := Lib.hid ((HBb5.out.later HEb6.out).congr (fun k hk => rfl))
  have HBO := HBb6
  have HE := Lib.hid (Ext.trans (Ext.trans HEb4.out HEb5.out) HEb6.out)
  have hbb : b4 < b5 := by have := HBb4.out.lt; omega
  have hbb2 : b5 < b6 := by have := HBb5.out.lt; omega
  have hs0 := HEb4.out.size
  have hs1 := HEb5.out.size
  have h6W : W.heap.size ≤ b6 := by omega
  clear HBb4 HBb5 HBb6 HEb4 HEb5 HEb6
  have HFW : Hid (∀ k, F k → k < W.heap.size) := Lib.hid (fun k hk => (HH.out.hi k hk).2)
  have HVN := Lib.hid (HVR.out.wide (N' := fun k => F k ∨ X k ∨ k = b6) (fun k hk => hk.elim (fun h => .inl (.inl h)) (fun h => h.elim (fun h => .inl (.inr h)) (fun e => .inr (by subst e; exact h6W)))))
  have HAN := Lib.hid (HAC.out.wide (N' := fun k => F k ∨ X k ∨ k = b6) (fun k hk => hk.elim (fun h => .inl (.inl h)) (fun h => h.elim (fun h => .inl (.inr h)) (fun e => .inr (by subst e; exact h6W)))))
  clear HVR HAC
  have hal := HBA.out.lt
  have hsl := HBS.out.lt
  repeat' (first | refine X_q ?_ | refine X_nil ?_ | refine W_seqk (fun K hK => ?_) | refine W_seqr ?_ | go_step)
  refine X_aload HBA.out ?_ (hu := Tryz.underlying51)
  skip
  refine X_fload HBS.out ?_ (hu := Tryz.underlying33)
  skip
  refine X_ret Tryz.func35 (NEAR.out _ HE.out) (fun r w1 hR => ?_)
  obtain ⟨hE1, rfl⟩ := hR
  replace HBS := Lib.hid (HBS.out.later hE1)
  replace HBA := Lib.hid (HBA.out.later hE1)
  replace HBO := Lib.hid (HBO.out.later hE1)
  replace HE := Lib.hid (Ext.trans HE.out hE1)
  clear hE1 NEAR hal hsl
  have hal := HBA.out.lt
  skip
  refine X_store (off := 0) HBA.out (fun W1 hM1 hB1 => ?_); replace HE := Lib.hid (Ext.fresh HE.out hM1 (fun k hk => by subst hk; omega)); replace HBS := Lib.hid (HBS.out.mod hM1 (fun h => by omega)); replace HBO := Lib.hid (HBO.out.mod hM1 (fun h => by omega)); replace HBA := Lib.hid hB1; clear hM1 hB1
  replace HBA := Lib.hid (HBA.out.congr (g' := aenc a' (.slice A4 a'.view.isr.length c4) (.slice A5 a'.reply.entries.length c5) (.slice A6 a'.list.length c6)) (all27 ⟨rfl, rfl, rfl, rfl, rfl, rfl, rfl, rfl, rfl, rfl, rfl, rfl, rfl, rfl, rfl, rfl, rfl, rfl, rfl, rfl, rfl, rfl, rfl, rfl, rfl, rfl, rfl⟩))
  clear hal
  obtain ⟨hlt, d0, d1, d2, d3, d4, d5, d6, d7, d8, d9, d10⟩ := fcells HBS.out
  have hal := HBA.out.lt
  have e0 := HBA.out.cell (k := 0) (by omega)
  change World.cell? _ _ = some (.int .i64 a'.kind) at e0
  have e3 := HBA.out.cell (k := 3) (by omega)
  change World.cell? _ _ = some (.int .i64 a'.view.leader) at e3
  have e4 := HBA.out.cell (k := 4) (by omega)
  change World.cell? _ _ = some (.int .i64 a'.view.epoch) at e4
  have e5 := HBA.out.cell (k := 5) (by omega)
  change World.cell? _ _ = some (.int .i64 a'.view.version) at e5
  have e6 := HBA.out.cell (k := 6) (by omega)
  change World.cell? _ _ = some (.slice A4 a'.view.isr.length c4) at e6
  rw [hka] at e0
  have hbol := HBO.out.lt
  have hEW := HE.out.size
  have HGG := Lib.hid HG.out.good
  repeat' (first | refine X_q ?_ | refine X_nil ?_ | refine W_seqk (fun K hK => ?_) | refine W_seqr ?_ | refine W_block ?_ | refine W_tt ?_ | go_step)
  refine X_fload HBS.out ?_ (hu := Tryz.underlying33)
  repeat' (first | refine X_q ?_ | fail)
  refine X_ret Tryz.func36 (learn11_calls (N := fun k => F k ∨ X k ∨ k = b6) (x := a'.view) (HVN.out.later HE.out) HGG.out.bks HGG.out.role ⟨_, rfl, (HAN.out.later HE.out).ri.rd⟩ (fun p q r u hu k hk => by cases hu; exact (HAN.out.later HE.out).ri.nb k hk)) (fun r w1 hR => ?_)
  obtain ⟨hE1, v1, rfl, oL, oI, oC, rfl, hVO⟩ := hR
  obtain ⟨B1, x1, rfl, -⟩ := hVO.rl.ent
  obtain ⟨B2, x2, rfl, -⟩ := hVO.ri.int
  obtain ⟨B3, x3, rfl, -⟩ := hVO.rc.int
  have HE1 := Lib.hid (Ext.trans HE.out hE1)
  have HVO := Lib.hid hVO
  replace HBS := Lib.hid (HBS.out.later hE1)
  replace HBA := Lib.hid (HBA.out.later hE1)
  replace HBO := Lib.hid (HBO.out.later hE1)
  clear hE1 hVO HE hbol hEW e0 e3 e4 e5 e6 hal
  clear hlt d0 d1 d2 d3 d4 d5 d6 d7 d8 d9 d10
  have HE := Lib.hid (Ext.refl w1)
  have hbol := HBO.out.lt
  have hEW := HE1.out.size
  have h61 := HBO.out.lt
  have hal := HBA.out.lt
  have e3 := HBA.out.cell (k := 3) (by omega)
  change World.cell? _ _ = some (.int .i64 a'.view.leader) at e3
  have e4 := HBA.out.cell (k := 4) (by omega)
  change World.cell? _ _ = some (.int .i64 a'.view.epoch) at e4
  have e5 := HBA.out.cell (k := 5) (by omega)
  change World.cell? _ _ = some (.int .i64 a'.view.version) at e5
  have e6 := HBA.out.cell (k := 6) (by omega)
  change World.cell? _ _ = some (.slice A4 a'.view.isr.length c4) at e6
  (repeat' (first | refine X_q ?_ | fail)); (first | (refine X_var (fun yn b8 hn1 hn2 hn3 hn4 hn5 => ?_)) | (refine X_s (fun x K hK => ?_); go_simp; refine hK _ _ (Ext.alloc _ _) ?_; clear hK K; refine X_al x ?_; generalize (World.later _ x).heap.size = b8; intro yn hn1 hn2 hn3 hn4 hn5; clear x)); have HBb8 := Lib.hid (Blk.new hn5.out); have HEb8 := Lib.hid yn.ext; have hlb8 : (World.heap w1).size ≤ b8 := hn1; generalize World.later w1 yn = W8 at *; clear hn1 hn2 hn3 hn4 hn5 yn
  have HBT := Lib.hid (fbox2 HBb8.out)
  replace HE := Lib.hid (HEb8.out)
  replace HBS := Lib.hid (HBS.out.later HEb8.out)
  replace HBA := Lib.hid (HBA.out.later HEb8.out)
  replace HBO := Lib.hid (HBO.out.later HEb8.out)
  clear HBb8 HEb8
  clear hbol
  clear hal e3 e4 e5 e6

  have hal := HBA.out.lt
  have e3 := HBA.out.cell (k := 3) (by omega)
  change World.cell? _ _ = some (.int .i64 a'.view.leader) at e3
  have e4 := HBA.out.cell (k := 4) (by omega)
  change World.cell? _ _ = some (.int .i64 a'.view.epoch) at e4
  have e5 := HBA.out.cell (k := 5) (by omega)
  change World.cell? _ _ = some (.int .i64 a'.view.version) at e5
  have e6 := HBA.out.cell (k := 6) (by omega)
  change World.cell? _ _ = some (.slice A4 a'.view.isr.length c4) at e6
  have hbol := HBO.out.lt
  have h8l := HBT.out.lt
  repeat' (first | refine X_q ?_ | refine X_nil ?_ | refine W_seqk (fun K hK => ?_) | go_step)
  obtain ⟨G, hG⟩ : ∃ G : Nat → Prop, G = (fun k => F k ∨ k = b6) := ⟨_, rfl⟩
  have HGo : Hid (G b6) := Lib.hid (by subst hG; exact .inr rfl)
  have HFG : Hid (∀ k, F k → G k) := Lib.hid (fun k hk => by subst hG; exact .inl hk)
  have hG4 : ¬ G b4 := (by subst hG; rintro (h | h); (have := HFW.out _ h; omega); omega)
  have hG5 : ¬ G b5 := (by subst hG; rintro (h | h); (have := HFW.out _ h; omega); omega)
  have hG8 : ¬ G b8 := (by subst hG; rintro (h | h); (have := HFW.out _ h; omega); omega)
  clear hG
  refine W_drawG G [(0, 0), (1, 0), (2, 0), (3, 3), (5, 0), (4, 1), (6, 0), (7, 2), (8, 0)] (by kernel_rfl) (by kernel_rfl) ?_
  refine Y_fload HBT.out hG8 ?_ (hu := Tryz.underlying33)
  repeat' (first | refine Y_q ?_ | refine Y_r ?_ | fail)
  refine Y_ret Tryz.func20 (R := ProgR F b ((s.learn a'.view).1) (· = .int .i64 ((s.learn a'.view).2)) _) (fun x => prog_ret x (learn_calls (x := a'.view) ((((HH.out.later HE1.out).later HE.out).later x.2).rep) HGG.out.ne ⟨_, rfl, (((HAN.out.later HE1.out).later HE.out).later x.2).ri.rd⟩ (fun p q r u hu k hk h => by cases hu; exact HAN.out.ri.nb k hk (.inl h))) HFG.out) (fun r w4 hR => ?_)
  obtain ⟨rfl, hM, hRp⟩ := hR
  have HMc := Lib.hid hM
  have HRc := Lib.hid hRp
  have HEC := HE
  have HBO4 := Lib.hid (HBO.out.mod hM (fun h => by have := HFW.out _ h; omega))
  clear hM hRp HBT HBA HBS
  repeat' (first | refine Y_q ?_ | fail)
  refine Y_store (off := 0) HBO4.out HGo.out (fun W5 hM5 hG5x hB5 => ?_)
  have HM5 := Lib.hid hM5
  have HB5 := Lib.hid (fput hB5)
  clear hM5 hG5x hB5
  repeat' (first | refine Y_q ?_ | refine Y_nil ?_)
  repeat' (first | refine W_ret ?_ | go_step)
  exact Body_retcellv (cs := RepS.cs ((s.learn a'.view).1) _ _ _) hd (does_end HH.out HE1.out HEC.out HMc.out HRc.out HM5.out h6W h61 HVO.out) HB5.out (fun k hk => cs_fenc hk) Tryz.underlying33
end Go.Ws
namespace Go.Ws
open Go Go.RowKit Go.Proofs
set_option maxHeartbeats 4000000
set_option maxRecDepth 100000
set_option linter.unusedVariables false
set_option linter.unusedSimpArgs false

theorem does2_calls {w0 W : World} {b : Nat} {F X : Nat → Prop} {s : RepS} {uL uI uC vI vE vL : Value} {a : ActD} (h : HR w0 W b F s) (hg : s.Fine) (hX : ∀ k, X k → k < W.heap.size) (hv : VR (fun k => F k ∨ X k) W uL uI uC s) (ha : ActR (fun k => F k ∨ X k) W vI vE vL a) (hk : a.kind = 2) :
    Ret Tryz.prog 16 #[.pointer (some ⟨b, 0, none⟩), s.v uL uI uC, a.v vI vE vL] W fun r W' => DoesR w0 W b F X (s.step (a.atS s)) r W' := by
  have HH := Lib.hid h
  have HG := Lib.hid hg
  have HXW := Lib.hid hX
  clear hX
  have HVR := Lib.hid hv
  have HAC := Lib.hid (ha.at s)
  have NEAR : Hid (∀ W', Ext W W' → Ret Tryz.prog 35 #[a.v vI vE vL, s.v uL uI uC] W' fun r w' => Ext W' w' ∧ r = (a.atS s).v vI vE vL) := Lib.hid (fun W' hE => near_calls (hv.later hE) hg.good hg.ver (ha.later hE))
  have hka : (a.atS s).kind = 2 := (atS_kind a s).1.trans hk
  have ht : s.step (a.atS s) = s.app (a.atS s).ent := by unfold RepS.step; simp [hka]
  rw [ht]
  clear ht
  obtain ⟨A1, c1, rfl, -⟩ := hv.rl.rd.ent
  obtain ⟨A2, c2, rfl, -⟩ := hv.ri.rd.int
  obtain ⟨A3, c3, rfl, -⟩ := hv.rc.rd.int
  clear h hg hv ha hk
  generalize a.atS s = a' at *
  obtain ⟨A4, c4, rfl, -⟩ := HAC.out.ri.int
  obtain ⟨A5, c5, rfl, -⟩ := HAC.out.re.ent
  obtain ⟨A6, c6, rfl, -⟩ := HAC.out.rl.int
  refine Fn_of Tryz.func16 rfl (Nat.le_of_ble_eq_true rfl) ?_; intro A hd hA; simp only [ix, Nat.reduceAdd]; replace hA : A.tmps.size = 268 := hA
  (repeat' (first | refine W_seqk (fun K hK => ?_) | refine W_seqr ?_ | fail)); (first | (refine X_var (fun yn b4 hn1 hn2 hn3 hn4 hn5 => ?_)) | (refine X_s (fun x K hK => ?_); go_simp; refine hK _ _ (Ext.alloc _ _) ?_; clear hK K; refine X_al x ?_; generalize (World.later _ x).heap.size = b4; intro yn hn1 hn2 hn3 hn4 hn5; clear x)); have HBb4 := Lib.hid (Blk.new hn5.out); have HEb4 := Lib.hid yn.ext; have hlb4 : (World.heap W).size ≤ b4 := hn1; generalize World.later W yn = W0 at *; clear hn1 hn2 hn3 hn4 hn5 yn
  (skip); (first | (refine X_var (fun yn b5 hn1 hn2 hn3 hn4 hn5 => ?_)) | (refine X_s (fun x K hK => ?_); go_simp; refine hK _ _ (Ext.alloc _ _) ?_; clear hK K; refine X_al x ?_; generalize (World.later _ x).heap.size = b5; intro yn hn1 hn2 hn3 hn4 hn5; clear x)); have HBb5 := Lib.hid (Blk.new hn5.out); have HEb5 := Lib.hid yn.ext; have hlb5 : (World.heap W0).size ≤ b5 := hn1; generalize World.later W0 yn = W1 at *; clear hn1 hn2 hn3 hn4 hn5 yn
  (skip); (first | (refine X_var (fun yn b6 hn1 hn2 hn3 hn4 hn5 => ?_)) | (refine X_s (fun x K hK => ?_); go_simp; refine hK _ _ (Ext.alloc _ _) ?_; clear hK K; refine X_al x ?_; generalize (World.later _ x).heap.size = b6; intro yn hn1 hn2 hn3 hn4 hn5; clear x)); have HBb6 := Lib.hid (Blk.new hn5.out); have HEb6 := Lib.hid yn.ext; have hlb6 : (World.heap W1).size ≤ b6 := hn1; generalize World.later W1 yn = W2 at *; clear hn1 hn2 hn3 hn4 hn5 yn
  have HBS := Lib.hid ((fbox2 HBb4.out).later (Ext.trans HEb5.out HEb6.out))
  have HBA : Hid (Blk W2 b5 51 27 (aenc a (.slice A4 a'.view.isr.length c4) (.slice A5 a'.reply.entries.length c5) (.slice A6 a'.list.length c6))) := Lib.hid ((HBb5.out.later HEb6.out).congr (fun k hk => rfl))
  have HBO := HBb6
  have HE := Lib.hid (Ext.trans (Ext.trans HEb4.out HEb5.out) HEb6.out)
  have hbb : b4 < b5 := by have := HBb4.out.lt; omega
  have hbb2 : b5 < b6 := by have := HBb5.out.lt; omega
  have hs0 := HEb4.out.size
  have hs1 := HEb5.out.size
  have h6W : W.heap.size ≤ b6 := by omega
  clear HBb4 HBb5 HBb6 HEb4 HEb5 HEb6
  have HFW : Hid (∀ k, F k → k < W.heap.size) := Lib.hid (fun k hk => (HH.out.hi k hk).2)
  have HVN := Lib.hid (HVR.out.wide (N' := fun k => F k ∨ X k ∨ k = b6) (fun k hk => hk.elim (fun h => .inl (.inl h)) (fun h => h.elim (fun h => .inl (.inr h)) (fun e => .inr (by subst e; exact h6W)))))
  have HAN := Lib.hid (HAC.out.wide (N' := fun k => F k ∨ X k ∨ k = b6) (fun k hk => hk.elim (fun h => .inl (.inl h)) (fun h => h.elim (fun h => .inl (.inr h)) (fun e => .inr (by subst e; exact h6W)))))
  clear HVR HAC
  have hal := HBA.out.lt
  have hsl := HBS.out.lt
  repeat' (first | refine X_q ?_ | refine X_nil ?_ | refine W_seqk (fun K hK => ?_) | refine W_seqr ?_ | go_step)
  refine X_aload HBA.out ?_ (hu := Tryz.underlying51)
  skip
  refine X_fload HBS.out ?_ (hu := Tryz.underlying33)
  skip
  refine X_ret Tryz.func35 (NEAR.out _ HE.out) (fun r w1 hR => ?_)
  obtain ⟨hE1, rfl⟩ := hR
  replace HBS := Lib.hid (HBS.out.later hE1)
  replace HBA := Lib.hid (HBA.out.later hE1)
  replace HBO := Lib.hid (HBO.out.later hE1)
  replace HE := Lib.hid (Ext.trans HE.out hE1)
  clear hE1 NEAR hal hsl
  have hal := HBA.out.lt
  skip
  refine X_store (off := 0) HBA.out (fun W1 hM1 hB1 => ?_); replace HE := Lib.hid (Ext.fresh HE.out hM1 (fun k hk => by subst hk; omega)); replace HBS := Lib.hid (HBS.out.mod hM1 (fun h => by omega)); replace HBO := Lib.hid (HBO.out.mod hM1 (fun h => by omega)); replace HBA := Lib.hid hB1; clear hM1 hB1
  replace HBA := Lib.hid (HBA.out.congr (g' := aenc a' (.slice A4 a'.view.isr.length c4) (.slice A5 a'.reply.entries.length c5) (.slice A6 a'.list.length c6)) (all27 ⟨rfl, rfl, rfl, rfl, rfl, rfl, rfl, rfl, rfl, rfl, rfl, rfl, rfl, rfl, rfl, rfl, rfl, rfl, rfl, rfl, rfl, rfl, rfl, rfl, rfl, rfl, rfl⟩))
  clear hal
  obtain ⟨hlt, d0, d1, d2, d3, d4, d5, d6, d7, d8, d9, d10⟩ := fcells HBS.out
  have hal := HBA.out.lt
  have e0 := HBA.out.cell (k := 0) (by omega)
  change World.cell? _ _ = some (.int .i64 a'.kind) at e0
  have e7 := HBA.out.cell (k := 7) (by omega)
  change World.cell? _ _ = some (.int .i64 a'.ent.ep) at e7
  have e8 := HBA.out.cell (k := 8) (by omega)
  change World.cell? _ _ = some (.int .i64 a'.ent.id) at e8
  have e9 := HBA.out.cell (k := 9) (by omega)
  change World.cell? _ _ = some (.int .i64 a'.ent.num) at e9
  have e10 := HBA.out.cell (k := 10) (by omega)
  change World.cell? _ _ = some (.int .i64 a'.ent.seq) at e10
  have e11 := HBA.out.cell (k := 11) (by omega)
  change World.cell? _ _ = some (.int .i64 a'.ent.kind) at e11
  have e12 := HBA.out.cell (k := 12) (by omega)
  change World.cell? _ _ = some (.int .i64 a'.ent.val) at e12
  rw [hka] at e0
  have hbol := HBO.out.lt
  have hEW := HE.out.size
  have HGG := Lib.hid HG.out.good
  repeat' (first | refine X_q ?_ | refine X_nil ?_ | refine W_seqk (fun K hK => ?_) | refine W_seqr ?_ | refine W_block ?_ | refine W_tt ?_ | refine W_ff ?_ | go_step)
  refine X_fload HBS.out ?_ (hu := Tryz.underlying33)
  repeat' (first | refine X_q ?_ | fail)
  refine X_ret Tryz.func37 (append11_calls (N := fun k => F k ∨ X k ∨ k = b6) (e := a'.ent) (fun k hk => hk.elim (fun h => by have := HFW.out k h; omega) (fun h => h.elim (fun h => by have := HXW.out k h; omega) (fun h => by omega))) (HVN.out.later HE.out) HGG.out.len (ofNo_all _ HGG.out.ok).1) (fun r w1 hR => ?_)
  obtain ⟨hE1, v1, rfl, oL, oI, oC, rfl, hVO⟩ := hR
  obtain ⟨B1, x1, rfl, -⟩ := hVO.rl.ent
  obtain ⟨B2, x2, rfl, -⟩ := hVO.ri.int
  obtain ⟨B3, x3, rfl, -⟩ := hVO.rc.int
  have HE1 := Lib.hid (Ext.trans HE.out hE1)
  have HVO := Lib.hid hVO
  replace HBS := Lib.hid (HBS.out.later hE1)
  replace HBA := Lib.hid (HBA.out.later hE1)
  replace HBO := Lib.hid (HBO.out.later hE1)
  clear hE1 hVO HE hbol hEW e0 e7 e8 e9 e10 e11 e12 hal
  clear hlt d0 d1 d2 d3 d4 d5 d6 d7 d8 d9 d10
  have HE := Lib.hid (Ext.refl w1)
  have hbol := HBO.out.lt
  have hEW := HE1.out.size
  have h61 := HBO.out.lt
  have hal := HBA.out.lt
  have e7 := HBA.out.cell (k := 7) (by omega)
  change World.cell? _ _ = some (.int .i64 a'.ent.ep) at e7
  have e8 := HBA.out.cell (k := 8) (by omega)
  change World.cell? _ _ = some (.int .i64 a'.ent.id) at e8
  have e9 := HBA.out.cell (k := 9) (by omega)
  change World.cell? _ _ = some (.int .i64 a'.ent.num) at e9
  have e10 := HBA.out.cell (k := 10) (by omega)
  change World.cell? _ _ = some (.int .i64 a'.ent.seq) at e10
  have e11 := HBA.out.cell (k := 11) (by omega)
  change World.cell? _ _ = some (.int .i64 a'.ent.kind) at e11
  have e12 := HBA.out.cell (k := 12) (by omega)
  change World.cell? _ _ = some (.int .i64 a'.ent.val) at e12
  (repeat' (first | refine X_q ?_ | fail)); (first | (refine X_var (fun yn b8 hn1 hn2 hn3 hn4 hn5 => ?_)) | (refine X_s (fun x K hK => ?_); go_simp; refine hK _ _ (Ext.alloc _ _) ?_; clear hK K; refine X_al x ?_; generalize (World.later _ x).heap.size = b8; intro yn hn1 hn2 hn3 hn4 hn5; clear x)); have HBb8 := Lib.hid (Blk.new hn5.out); have HEb8 := Lib.hid yn.ext; have hlb8 : (World.heap w1).size ≤ b8 := hn1; generalize World.later w1 yn = W8 at *; clear hn1 hn2 hn3 hn4 hn5 yn
  have HBT := Lib.hid (fbox2 HBb8.out)
  replace HE := Lib.hid (HEb8.out)
  replace HBA := Lib.hid (HBA.out.later HEb8.out)
  replace HBO := Lib.hid (HBO.out.later HEb8.out)
  clear HBb8 HEb8 HBS hbol
  clear hal e7 e8 e9 e10 e11 e12
  have hal := HBA.out.lt
  have e7 := HBA.out.cell (k := 7) (by omega)
  change World.cell? _ _ = some (.int .i64 a'.ent.ep) at e7
  have e8 := HBA.out.cell (k := 8) (by omega)
  change World.cell? _ _ = some (.int .i64 a'.ent.id) at e8
  have e9 := HBA.out.cell (k := 9) (by omega)
  change World.cell? _ _ = some (.int .i64 a'.ent.num) at e9
  have e10 := HBA.out.cell (k := 10) (by omega)
  change World.cell? _ _ = some (.int .i64 a'.ent.seq) at e10
  have e11 := HBA.out.cell (k := 11) (by omega)
  change World.cell? _ _ = some (.int .i64 a'.ent.kind) at e11
  have e12 := HBA.out.cell (k := 12) (by omega)
  change World.cell? _ _ = some (.int .i64 a'.ent.val) at e12
  have hbol := HBO.out.lt
  have h8l := HBT.out.lt
  repeat' (first | refine X_q ?_ | refine X_nil ?_ | refine W_seqk (fun K hK => ?_) | refine W_seqr ?_ | go_step)
  refine X_ret Tryz.func21 (append_rep (e := a'.ent) (((HH.out.later HE1.out).later HE.out).rep) HGG.out.ne HGG.out.ok HGG.out.len) (fun r w4 hR => ?_)
  obtain ⟨rfl, hM, hRp⟩ := hR
  have HMc := Lib.hid hM
  have HRc := Lib.hid hRp
  have HBO4 := Lib.hid (HBO.out.mod hM (fun h => by have := HFW.out _ h; omega))
  have hbol4 := HBO4.out.lt
  have hs4 := hM.size
  replace HBT := Lib.hid (HBT.out.mod hM (fun h => by have := HFW.out _ h; omega))
  clear hM hRp h8l
  have h8l := HBT.out.lt
  repeat' (first | refine X_q ?_ | refine X_nil ?_ | refine W_seqk (fun K hK => ?_) | refine W_seqr ?_ | go_step)
  refine X_fload HBT.out ?_ (hu := Tryz.underlying33)
  repeat' (first | refine X_gt ?_ | refine X_q ?_ | fail)
  refine X_store (off := 0) HBO4.out (fun W5 hM5 hB5 => ?_)
  have HM5 := Lib.hid hM5
  have HB5 := Lib.hid (fput hB5)
  clear hM5 hB5
  repeat' (first | refine X_q ?_ | refine X_nil ?_ | refine W_ret ?_ | go_step)
  exact Body_retcellv (cs := RepS.cs (s.app a'.ent) _ _ _) hd (does_end HH.out HE1.out HE.out HMc.out HRc.out HM5.out h6W h61 HVO.out) HB5.out (fun k hk => cs_fenc hk) Tryz.underlying33
end Go.Ws
namespace Go.Ws
open Go Go.RowKit Go.Proofs
set_option maxHeartbeats 4000000
set_option maxRecDepth 100000
set_option linter.unusedVariables false
set_option linter.unusedSimpArgs false

theorem does3_calls {w0 W : World} {b : Nat} {F X : Nat → Prop} {s : RepS} {uL uI uC vI vE vL : Value} {a : ActD} (h : HR w0 W b F s) (hg : s.Fine) (hX : ∀ k, X k → k < W.heap.size) (hv : VR (fun k => F k ∨ X k) W uL uI uC s) (ha : ActR (fun k => F k ∨ X k) W vI vE vL a) (hk : a.kind = 3) :
    Ret Tryz.prog 16 #[.pointer (some ⟨b, 0, none⟩), s.v uL uI uC, a.v vI vE vL] W fun r W' => DoesR w0 W b F X (s.step (a.atS s)) r W' := by
  have HH := Lib.hid h
  have HG := Lib.hid hg
  have HXW := Lib.hid hX
  clear hX
  have HVR := Lib.hid hv
  have HAC := Lib.hid (ha.at s)
  have NEAR : Hid (∀ W', Ext W W' → Ret Tryz.prog 35 #[a.v vI vE vL, s.v uL uI uC] W' fun r w' => Ext W' w' ∧ r = (a.atS s).v vI vE vL) := Lib.hid (fun W' hE => near_calls (hv.later hE) hg.good hg.ver (ha.later hE))
  have hka : (a.atS s).kind = 3 := (atS_kind a s).1.trans hk
  have ht : s.step (a.atS s) = s.flush := by unfold RepS.step; simp [hka]
  rw [ht]
  clear ht
  obtain ⟨A1, c1, rfl, -⟩ := hv.rl.rd.ent
  obtain ⟨A2, c2, rfl, -⟩ := hv.ri.rd.int
  obtain ⟨A3, c3, rfl, -⟩ := hv.rc.rd.int
  clear h hg hv ha hk
  generalize a.atS s = a' at *
  obtain ⟨A4, c4, rfl, -⟩ := HAC.out.ri.int
  obtain ⟨A5, c5, rfl, -⟩ := HAC.out.re.ent
  obtain ⟨A6, c6, rfl, -⟩ := HAC.out.rl.int
  refine Fn_of Tryz.func16 rfl (Nat.le_of_ble_eq_true rfl) ?_; intro A hd hA; simp only [ix, Nat.reduceAdd]; replace hA : A.tmps.size = 268 := hA
  (repeat' (first | refine W_seqk (fun K hK => ?_) | refine W_seqr ?_ | fail)); (first | (refine X_var (fun yn b4 hn1 hn2 hn3 hn4 hn5 => ?_)) | (refine X_s (fun x K hK => ?_); go_simp; refine hK _ _ (Ext.alloc _ _) ?_; clear hK K; refine X_al x ?_; generalize (World.later _ x).heap.size = b4; intro yn hn1 hn2 hn3 hn4 hn5; clear x)); have HBb4 := Lib.hid (Blk.new hn5.out); have HEb4 := Lib.hid yn.ext; have hlb4 : (World.heap W).size ≤ b4 := hn1; generalize World.later W yn = W0 at *; clear hn1 hn2 hn3 hn4 hn5 yn
  (skip); (first | (refine X_var (fun yn b5 hn1 hn2 hn3 hn4 hn5 => ?_)) | (refine X_s (fun x K hK => ?_); go_simp; refine hK _ _ (Ext.alloc _ _) ?_; clear hK K; refine X_al x ?_; generalize (World.later _ x).heap.size = b5; intro yn hn1 hn2 hn3 hn4 hn5; clear x)); have HBb5 := Lib.hid (Blk.new hn5.out); have HEb5 := Lib.hid yn.ext; have hlb5 : (World.heap W0).size ≤ b5 := hn1; generalize World.later W0 yn = W1 at *; clear hn1 hn2 hn3 hn4 hn5 yn
  (skip); (first | (refine X_var (fun yn b6 hn1 hn2 hn3 hn4 hn5 => ?_)) | (refine X_s (fun x K hK => ?_); go_simp; refine hK _ _ (Ext.alloc _ _) ?_; clear hK K; refine X_al x ?_; generalize (World.later _ x).heap.size = b6; intro yn hn1 hn2 hn3 hn4 hn5; clear x)); have HBb6 := Lib.hid (Blk.new hn5.out); have HEb6 := Lib.hid yn.ext; have hlb6 : (World.heap W1).size ≤ b6 := hn1; generalize World.later W1 yn = W2 at *; clear hn1 hn2 hn3 hn4 hn5 yn
  have HBS := Lib.hid ((fbox2 HBb4.out).later (Ext.trans HEb5.out HEb6.out))
  have HBA : Hid (Blk W2 b5 51 27 (aenc a (.slice A4 a'.view.isr.length c4) (.slice A5 a'.reply.entries.length c5) (.slice A6 a'.list.length c6))) := Lib.hid ((HBb5.out.later HEb6.out).congr (fun k hk => rfl))
  have HBO := HBb6
  have HE := Lib.hid (Ext.trans (Ext.trans HEb4.out HEb5.out) HEb6.out)
  have hbb : b4 < b5 := by have := HBb4.out.lt; omega
  have hbb2 : b5 < b6 := by have := HBb5.out.lt; omega
  have hs0 := HEb4.out.size
  have hs1 := HEb5.out.size
  have h6W : W.heap.size ≤ b6 := by omega
  clear HBb4 HBb5 HBb6 HEb4 HEb5 HEb6
  have HFW : Hid (∀ k, F k → k < W.heap.size) := Lib.hid (fun k hk => (HH.out.hi k hk).2)
  have HVN := Lib.hid (HVR.out.wide (N' := fun k => F k ∨ X k ∨ k = b6) (fun k hk => hk.elim (fun h => .inl (.inl h)) (fun h => h.elim (fun h => .inl (.inr h)) (fun e => .inr (by subst e; exact h6W)))))
  have HAN := Lib.hid (HAC.out.wide (N' := fun k => F k ∨ X k ∨ k = b6) (fun k hk => hk.elim (fun h => .inl (.inl h)) (fun h => h.elim (fun h => .inl (.inr h)) (fun e => .inr (by subst e; exact h6W)))))
  clear HVR HAC
  have hal := HBA.out.lt
  have hsl := HBS.out.lt
  repeat' (first | refine X_q ?_ | refine X_nil ?_ | refine W_seqk (fun K hK => ?_) | refine W_seqr ?_ | go_step)
  refine X_aload HBA.out ?_ (hu := Tryz.underlying51)
  skip
  refine X_fload HBS.out ?_ (hu := Tryz.underlying33)
  skip
  refine X_ret Tryz.func35 (NEAR.out _ HE.out) (fun r w1 hR => ?_)
  obtain ⟨hE1, rfl⟩ := hR
  replace HBS := Lib.hid (HBS.out.later hE1)
  replace HBA := Lib.hid (HBA.out.later hE1)
  replace HBO := Lib.hid (HBO.out.later hE1)
  replace HE := Lib.hid (Ext.trans HE.out hE1)
  clear hE1 NEAR hal hsl
  have hal := HBA.out.lt
  skip
  refine X_store (off := 0) HBA.out (fun W1 hM1 hB1 => ?_); replace HE := Lib.hid (Ext.fresh HE.out hM1 (fun k hk => by subst hk; omega)); replace HBS := Lib.hid (HBS.out.mod hM1 (fun h => by omega)); replace HBO := Lib.hid (HBO.out.mod hM1 (fun h => by omega)); replace HBA := Lib.hid hB1; clear hM1 hB1
  replace HBA := Lib.hid (HBA.out.congr (g' := aenc a' (.slice A4 a'.view.isr.length c4) (.slice A5 a'.reply.entries.length c5) (.slice A6 a'.list.length c6)) (all27 ⟨rfl, rfl, rfl, rfl, rfl, rfl, rfl, rfl, rfl, rfl, rfl, rfl, rfl, rfl, rfl, rfl, rfl, rfl, rfl, rfl, rfl, rfl, rfl, rfl, rfl, rfl, rfl⟩))
  clear hal
  obtain ⟨hlt, d0, d1, d2, d3, d4, d5, d6, d7, d8, d9, d10⟩ := fcells HBS.out
  have hal := HBA.out.lt
  have e0 := HBA.out.cell (k := 0) (by omega)
  change World.cell? _ _ = some (.int .i64 a'.kind) at e0
  rw [hka] at e0
  have hbol := HBO.out.lt
  have hEW := HE.out.size
  have HGG := Lib.hid HG.out.good
  repeat' (first | refine X_q ?_ | refine X_nil ?_ | refine W_seqk (fun K hK => ?_) | refine W_seqr ?_ | refine W_block ?_ | refine W_tt ?_ | refine W_ff ?_ | go_step)
  refine X_fload HBS.out ?_ (hu := Tryz.underlying33)
  skip
  refine X_ret Tryz.func38 (flush11_calls (N := fun k => F k ∨ X k ∨ k = b6) (HVN.out.later HE.out) HGG.out.bks) (fun r w1 hR => ?_)
  obtain ⟨hE1, oL, oI, oC, rfl, hVO⟩ := hR
  obtain ⟨B1, x1, rfl, -⟩ := hVO.rl.ent
  obtain ⟨B2, x2, rfl, -⟩ := hVO.ri.int
  obtain ⟨B3, x3, rfl, -⟩ := hVO.rc.int
  have HE1 := Lib.hid (Ext.trans HE.out hE1)
  have HVO := Lib.hid hVO
  replace HBS := Lib.hid (HBS.out.later hE1)
  replace HBA := Lib.hid (HBA.out.later hE1)
  replace HBO := Lib.hid (HBO.out.later hE1)
  clear hE1 hVO HE hbol hEW e0 hal
  clear hlt d0 d1 d2 d3 d4 d5 d6 d7 d8 d9 d10
  have HE := Lib.hid (Ext.refl w1)
  have hbol := HBO.out.lt
  have hEW := HE1.out.size
  have h61 := HBO.out.lt
  repeat' (first | refine X_q ?_ | fail)
  refine X_ret Tryz.func26 (flush_calls ((HH.out.later HE1.out).rep) HGG.out.ne HGG.out.bks) (fun r w4 hR => ?_)
  replace hR := And.intro hR.1 (And.intro hR.2.1 (hR.2.2.mono (G := fun k => F k ∨ w1.heap.size ≤ k) (fun k hk => .inl hk)))
  obtain ⟨rfl, hM, hRp⟩ := hR
  have HMc := Lib.hid hM
  have HRc := Lib.hid hRp
  have HBO4 := Lib.hid (HBO.out.mod hM (fun h => by have := HFW.out _ h; omega))
  have hbol4 := HBO4.out.lt
  have hs4 := hM.size
  clear hM hRp
  repeat' (first | refine X_q ?_ | fail)
  refine X_store (off := 0) HBO4.out (fun W5 hM5 hB5 => ?_)
  have HM5 := Lib.hid hM5
  have HB5 := Lib.hid (fput hB5)
  clear hM5 hB5
  repeat' (first | refine X_q ?_ | refine X_nil ?_ | refine W_ret ?_ | go_step)
  exact Body_retcellv (cs := RepS.cs (s.flush) _ _ _) hd (does_end HH.out HE1.out HE.out HMc.out HRc.out HM5.out h6W h61 HVO.out) HB5.out (fun k hk => cs_fenc hk) Tryz.underlying33
end Go.Ws
namespace Go.Ws
open Go Go.RowKit Go.Proofs
set_option maxHeartbeats 4000000
set_option maxRecDepth 100000
set_option linter.unusedVariables false
set_option linter.unusedSimpArgs false

theorem does4_calls {w0 W : World} {b : Nat} {F X : Nat → Prop} {s : RepS} {uL uI uC vI vE vL : Value} {a : ActD} (h : HR w0 W b F s) (hg : s.Fine) (hX : ∀ k, X k → k < W.heap.size) (hv : VR (fun k => F k ∨ X k) W uL uI uC s) (ha : ActR (fun k => F k ∨ X k) W vI vE vL a) (hk : a.kind = 4) :
    Ret Tryz.prog 16 #[.pointer (some ⟨b, 0, none⟩), s.v uL uI uC, a.v vI vE vL] W fun r W' => DoesR w0 W b F X (s.step (a.atS s)) r W' := by
  have HH := Lib.hid h
  have HG := Lib.hid hg
  have HXW := Lib.hid hX
  clear hX
  have HVR := Lib.hid hv
  have HAC := Lib.hid (ha.at s)
  have NEAR : Hid (∀ W', Ext W W' → Ret Tryz.prog 35 #[a.v vI vE vL, s.v uL uI uC] W' fun r w' => Ext W' w' ∧ r = (a.atS s).v vI vE vL) := Lib.hid (fun W' hE => near_calls (hv.later hE) hg.good hg.ver (ha.later hE))
  have hka : (a.atS s).kind = 4 := (atS_kind a s).1.trans hk
  have ht : s.step (a.atS s) = s := by unfold RepS.step; simp [hka]
  rw [ht]
  clear ht
  obtain ⟨A1, c1, rfl, -⟩ := hv.rl.rd.ent
  obtain ⟨A2, c2, rfl, -⟩ := hv.ri.rd.int
  obtain ⟨A3, c3, rfl, -⟩ := hv.rc.rd.int
  clear h hg hv ha hk
  generalize a.atS s = a' at *
  obtain ⟨A4, c4, rfl, -⟩ := HAC.out.ri.int
  obtain ⟨A5, c5, rfl, -⟩ := HAC.out.re.ent
  obtain ⟨A6, c6, rfl, -⟩ := HAC.out.rl.int
  refine Fn_of Tryz.func16 rfl (Nat.le_of_ble_eq_true rfl) ?_; intro A hd hA; simp only [ix, Nat.reduceAdd]; replace hA : A.tmps.size = 268 := hA
  (repeat' (first | refine W_seqk (fun K hK => ?_) | refine W_seqr ?_ | fail)); (first | (refine X_var (fun yn b4 hn1 hn2 hn3 hn4 hn5 => ?_)) | (refine X_s (fun x K hK => ?_); go_simp; refine hK _ _ (Ext.alloc _ _) ?_; clear hK K; refine X_al x ?_; generalize (World.later _ x).heap.size = b4; intro yn hn1 hn2 hn3 hn4 hn5; clear x)); have HBb4 := Lib.hid (Blk.new hn5.out); have HEb4 := Lib.hid yn.ext; have hlb4 : (World.heap W).size ≤ b4 := hn1; generalize World.later W yn = W0 at *; clear hn1 hn2 hn3 hn4 hn5 yn
  (skip); (first | (refine X_var (fun yn b5 hn1 hn2 hn3 hn4 hn5 => ?_)) | (refine X_s (fun x K hK => ?_); go_simp; refine hK _ _ (Ext.alloc _ _) ?_; clear hK K; refine X_al x ?_; generalize (World.later _ x).heap.size = b5; intro yn hn1 hn2 hn3 hn4 hn5; clear x)); have HBb5 := Lib.hid (Blk.new hn5.out); have HEb5 := Lib.hid yn.ext; have hlb5 : (World.heap W0).size ≤ b5 := hn1; generalize World.later W0 yn = W1 at *; clear hn1 hn2 hn3 hn4 hn5 yn
  (skip); (first | (refine X_var (fun yn b6 hn1 hn2 hn3 hn4 hn5 => ?_)) | (refine X_s (fun x K hK => ?_); go_simp; refine hK _ _ (Ext.alloc _ _) ?_; clear hK K; refine X_al x ?_; generalize (World.later _ x).heap.size = b6; intro yn hn1 hn2 hn3 hn4 hn5; clear x)); have HBb6 := Lib.hid (Blk.new hn5.out); have HEb6 := Lib.hid yn.ext; have hlb6 : (World.heap W1).size ≤ b6 := hn1; generalize World.later W1 yn = W2 at *; clear hn1 hn2 hn3 hn4 hn5 yn
  have HBS := Lib.hid ((fbox2 HBb4.out).later (Ext.trans HEb5.out HEb6.out))
  have HBA : Hid (Blk W2 b5 51 27 (aenc a (.slice A4 a'.view.isr.length c4) (.slice A5 a'.reply.entries.length c5) (.slice A6 a'.list.length c6))) := Lib.hid ((HBb5.out.later HEb6.out).congr (fun k hk => rfl))
  have HBO := HBb6
  have HE := Lib.hid (Ext.trans (Ext.trans HEb4.out HEb5.out) HEb6.out)
  have hbb : b4 < b5 := by have := HBb4.out.lt; omega
  have hbb2 : b5 < b6 := by have := HBb5.out.lt; omega
  have hs0 := HEb4.out.size
  have hs1 := HEb5.out.size
  have h6W : W.heap.size ≤ b6 := by omega
  clear HBb4 HBb5 HBb6 HEb4 HEb5 HEb6
  have HFW : Hid (∀ k, F k → k < W.heap.size) := Lib.hid (fun k hk => (HH.out.hi k hk).2)
  have HVN := Lib.hid (HVR.out.wide (N' := fun k => F k ∨ X k ∨ k = b6) (fun k hk => hk.elim (fun h => .inl (.inl h)) (fun h => h.elim (fun h => .inl (.inr h)) (fun e => .inr (by subst e; exact h6W)))))
  have HAN := Lib.hid (HAC.out.wide (N' := fun k => F k ∨ X k ∨ k = b6) (fun k hk => hk.elim (fun h => .inl (.inl h)) (fun h => h.elim (fun h => .inl (.inr h)) (fun e => .inr (by subst e; exact h6W)))))
  clear HVR HAC
  have hal := HBA.out.lt
  have hsl := HBS.out.lt
  repeat' (first | refine X_q ?_ | refine X_nil ?_ | refine W_seqk (fun K hK => ?_) | refine W_seqr ?_ | go_step)
  refine X_aload HBA.out ?_ (hu := Tryz.underlying51)
  skip
  refine X_fload HBS.out ?_ (hu := Tryz.underlying33)
  skip
  refine X_ret Tryz.func35 (NEAR.out _ HE.out) (fun r w1 hR => ?_)
  obtain ⟨hE1, rfl⟩ := hR
  replace HBS := Lib.hid (HBS.out.later hE1)
  replace HBA := Lib.hid (HBA.out.later hE1)
  replace HBO := Lib.hid (HBO.out.later hE1)
  replace HE := Lib.hid (Ext.trans HE.out hE1)
  clear hE1 NEAR hal hsl
  have hal := HBA.out.lt
  skip
  refine X_store (off := 0) HBA.out (fun W1 hM1 hB1 => ?_); replace HE := Lib.hid (Ext.fresh HE.out hM1 (fun k hk => by subst hk; omega)); replace HBS := Lib.hid (HBS.out.mod hM1 (fun h => by omega)); replace HBO := Lib.hid (HBO.out.mod hM1 (fun h => by omega)); replace HBA := Lib.hid hB1; clear hM1 hB1
  replace HBA := Lib.hid (HBA.out.congr (g' := aenc a' (.slice A4 a'.view.isr.length c4) (.slice A5 a'.reply.entries.length c5) (.slice A6 a'.list.length c6)) (all27 ⟨rfl, rfl, rfl, rfl, rfl, rfl, rfl, rfl, rfl, rfl, rfl, rfl, rfl, rfl, rfl, rfl, rfl, rfl, rfl, rfl, rfl, rfl, rfl, rfl, rfl, rfl, rfl⟩))
  clear hal
  obtain ⟨hlt, d0, d1, d2, d3, d4, d5, d6, d7, d8, d9, d10⟩ := fcells HBS.out
  have hal := HBA.out.lt
  have e0 := HBA.out.cell (k := 0) (by omega)
  change World.cell? _ _ = some (.int .i64 a'.kind) at e0
  rw [hka] at e0
  have hbol := HBO.out.lt
  have hEW := HE.out.size
  have HGG := Lib.hid HG.out.good
  repeat' (first | refine X_q ?_ | refine X_nil ?_ | refine W_seqk (fun K hK => ?_) | refine W_seqr ?_ | refine W_block ?_ | refine W_tt ?_ | refine W_ff ?_ | go_step)
  by_cases hr : s.role = 2
  · have HR2 := Lib.hid hr
    have HASK : Hid (∀ W', Ext W W' → Pure Tryz.prog 39 #[s.v (.slice A1 s.log.length c1) (.slice A2 s.isr.length c2) (.slice A3 s.counts.length c3)] W' (.tuple #[s.asks.v, .int .i64 0])) := Lib.hid (fun W' hE => by
      have := ask11_calls (HVN.out.later hE)
      rw [if_pos hr, if_pos hr] at this
      exact this)
    clear hr
    refine X_fload HBS.out ?_ (hu := Tryz.underlying33)
    skip
    refine X_pure Tryz.func39 (HASK.out _ HE.out) ?_
    have HE1 := HE
    have HVO := Lib.hid (HVN.out.later HE.out)
    replace HE := Lib.hid (Ext.refl W1)
    have h61 := HBO.out.lt
    clear HASK
    (repeat' (first | refine X_q ?_ | fail)); (first | (refine X_var (fun yn b15 hn1 hn2 hn3 hn4 hn5 => ?_)) | (refine X_s (fun x K hK => ?_); go_simp; refine hK _ _ (Ext.alloc _ _) ?_; clear hK K; refine X_al x ?_; generalize (World.later _ x).heap.size = b15; intro yn hn1 hn2 hn3 hn4 hn5; clear x)); have HBb15 := Lib.hid (Blk.new hn5.out); have HEb15 := Lib.hid yn.ext; have hlb15 : (World.heap W1).size ≤ b15 := hn1; generalize World.later W1 yn = W8 at *; clear hn1 hn2 hn3 hn4 hn5 yn
    have HBF := HBb15
    replace HE := HEb15
    replace HBS := Lib.hid (HBS.out.later HEb15.out)
    replace HBA := Lib.hid (HBA.out.later HEb15.out)
    replace HBO := Lib.hid (HBO.out.later HEb15.out)
    clear HBb15 HEb15 hbol e0 hal
    clear hlt d0 d1 d2 d3 d4 d5 d6 d7 d8 d9 d10
    have hbol := HBO.out.lt
    repeat' (first | refine X_q ?_ | refine X_nil ?_ | refine W_seqk (fun K hK => ?_) | refine W_seqr ?_ | go_step)
    refine X_ret Tryz.func22 (ask_ok (((HH.out.later HE1.out).later HE.out).rep) HGG.out.ne HGG.out.may HR2.out) (fun r w4 hR => ?_)
    obtain ⟨rfl, hE9⟩ := hR
    obtain ⟨hM, hRp⟩ : Mod F _ _ ∧ Rep _ b (fun k => F k ∨ W8.heap.size ≤ k) s := ⟨hE9.mono (fun _ _ h => h.elim), ((((HH.out.later HE1.out).later HE.out).later hE9).rep).mono (fun k hk => .inl hk)⟩
    have HMc := Lib.hid hM
    have HRc := Lib.hid hRp
    have HEC := HE
    clear hM hRp
    replace HBS := Lib.hid (HBS.out.later hE9)
    replace HBF := Lib.hid (HBF.out.later hE9)
    replace HBO := Lib.hid (HBO.out.later hE9)
    clear hE9 hbol
    (repeat' (first | refine X_q ?_ | fail)); (first | (refine X_var (fun yn b17 hn1 hn2 hn3 hn4 hn5 => ?_)) | (refine X_s (fun x K hK => ?_); go_simp; refine hK _ _ (Ext.alloc _ _) ?_; clear hK K; refine X_al x ?_; generalize (World.later _ x).heap.size = b17; intro yn hn1 hn2 hn3 hn4 hn5; clear x)); have HBb17 := Lib.hid (Blk.new hn5.out); have HEb17 := Lib.hid yn.ext; have hlb17 : (World.heap w4).size ≤ b17 := hn1; generalize World.later w4 yn = W9 at *; clear hn1 hn2 hn3 hn4 hn5 yn
    have HBF2 := HBb17
    have HM4 := HEb17
    replace HBS := Lib.hid (HBS.out.later HEb17.out)
    replace HBF := Lib.hid (HBF.out.later HEb17.out)
    replace HBO4 := Lib.hid (HBO.out.later HEb17.out)
    clear HBb17 HEb17
    have hbol := HBO4.out.lt
    have hfl := HBF.out.lt
    have hfl2 := HBF2.out.lt
    have hsl := HBS.out.lt
    have f0 := HBF.out.cell (k := 0) (by simp)
    have f1 := HBF.out.cell (k := 1) (by simp)
    have f2 := HBF.out.cell (k := 2) (by simp)
    have f3 := HBF.out.cell (k := 3) (by simp)
    have f4 := HBF.out.cell (k := 4) (by simp)
    simp at f0 f1 f2 f3 f4
    have g0 := HBF2.out.cell (k := 0) (by simp)
    have g1 := HBF2.out.cell (k := 1) (by simp)
    have g2 := HBF2.out.cell (k := 2) (by simp)
    have g3 := HBF2.out.cell (k := 3) (by simp)
    have g4 := HBF2.out.cell (k := 4) (by simp)
    simp at g0 g1 g2 g3 g4
    repeat' (first | refine X_q ?_ | refine X_nil ?_ | refine W_seqk (fun K hK => ?_) | go_step)
    obtain ⟨G, hG⟩ : ∃ G : Nat → Prop, G = (fun k => k = b6) := ⟨_, rfl⟩; have HGo : Hid (G b6) := Lib.hid (by subst hG; rfl); have hGb4 : ¬ G b4 := (by subst hG; show ¬ b4 = b6; omega); clear hG
    refine W_drawG G [(0, 3), (1, 3), (2, 3), (3, 0), (4, 0), (5, 0), (6, 0), (7, 0), (8, 0), (9, 2), (10, 0)] (by kernel_rfl) (by kernel_rfl) ?_
    (first | refine Y_floadr HBS.out ?_ (hu := Tryz.underlying33) | refine Y_fload HBS.out hGb4 ?_ (hu := Tryz.underlying33))
    repeat' (first | refine Y_gt ?_ | refine Y_q ?_ | refine Y_r ?_ | fail)
    refine Y_store (off := 0) HBO4.out HGo.out (fun W5 hM5 hG5x hB5 => ?_)
    have HM5 := Lib.hid hM5
    have HB5 := Lib.hid (fput hB5)
    clear hM5 hG5x hB5
    repeat' (first | refine Y_q ?_ | refine Y_nil ?_)
    repeat' (first | refine W_ret ?_ | go_step)
    have HM6 := Lib.hid (Mod.trans (H := (· = b6)) HM4.out HM5.out (fun _ _ h => h.elim) (fun _ _ h => h))
    exact Body_retcellv (cs := RepS.cs (s) _ _ _) hd (does_end HH.out HE1.out HEC.out HMc.out HRc.out HM6.out h6W h61 HVO.out) HB5.out (fun k hk => cs_fenc hk) Tryz.underlying33
  · have HR2 := Lib.hid hr
    have HASK : Hid (∀ W', Ext W W' → Pure Tryz.prog 39 #[s.v (.slice A1 s.log.length c1) (.slice A2 s.isr.length c2) (.slice A3 s.counts.length c3)] W' (.tuple #[(Fetch.mk 0 0 0 0 0).v, .int .i64 211])) := Lib.hid (fun W' hE => by
      have := ask11_calls (HVN.out.later hE)
      rw [if_neg hr, if_neg hr] at this
      exact this)
    clear hr
    refine X_fload HBS.out ?_ (hu := Tryz.underlying33)
    skip
    refine X_pure Tryz.func39 (HASK.out _ HE.out) ?_
    have HE1 := HE
    have HVO := Lib.hid (HVN.out.later HE.out)
    replace HE := Lib.hid (Ext.refl W1)
    have h61 := HBO.out.lt
    clear HASK
    (repeat' (first | refine X_q ?_ | fail)); (first | (refine X_var (fun yn b15 hn1 hn2 hn3 hn4 hn5 => ?_)) | (refine X_s (fun x K hK => ?_); go_simp; refine hK _ _ (Ext.alloc _ _) ?_; clear hK K; refine X_al x ?_; generalize (World.later _ x).heap.size = b15; intro yn hn1 hn2 hn3 hn4 hn5; clear x)); have HBb15 := Lib.hid (Blk.new hn5.out); have HEb15 := Lib.hid yn.ext; have hlb15 : (World.heap W1).size ≤ b15 := hn1; generalize World.later W1 yn = W8 at *; clear hn1 hn2 hn3 hn4 hn5 yn
    have HBF := HBb15
    replace HE := HEb15
    replace HBS := Lib.hid (HBS.out.later HEb15.out)
    replace HBA := Lib.hid (HBA.out.later HEb15.out)
    replace HBO := Lib.hid (HBO.out.later HEb15.out)
    clear HBb15 HEb15 hbol e0 hal
    clear hlt d0 d1 d2 d3 d4 d5 d6 d7 d8 d9 d10
    have hbol := HBO.out.lt
    repeat' (first | refine X_q ?_ | refine X_nil ?_ | refine W_seqk (fun K hK => ?_) | refine W_seqr ?_ | go_step)
    refine X_ret Tryz.func22 (ask_no (((HH.out.later HE1.out).later HE.out).rep) HGG.out.ne HR2.out) (fun r w4 hR => ?_)
    obtain ⟨rfl, hE9⟩ := hR
    obtain ⟨hM, hRp⟩ : Mod F _ _ ∧ Rep _ b (fun k => F k ∨ W8.heap.size ≤ k) s := ⟨hE9.mono (fun _ _ h => h.elim), ((((HH.out.later HE1.out).later HE.out).later hE9).rep).mono (fun k hk => .inl hk)⟩
    have HMc := Lib.hid hM
    have HRc := Lib.hid hRp
    have HEC := HE
    clear hM hRp
    replace HBS := Lib.hid (HBS.out.later hE9)
    replace HBF := Lib.hid (HBF.out.later hE9)
    replace HBO := Lib.hid (HBO.out.later hE9)
    clear hE9 hbol
    (repeat' (first | refine X_q ?_ | fail)); (first | (refine X_var (fun yn b17 hn1 hn2 hn3 hn4 hn5 => ?_)) | (refine X_s (fun x K hK => ?_); go_simp; refine hK _ _ (Ext.alloc _ _) ?_; clear hK K; refine X_al x ?_; generalize (World.later _ x).heap.size = b17; intro yn hn1 hn2 hn3 hn4 hn5; clear x)); have HBb17 := Lib.hid (Blk.new hn5.out); have HEb17 := Lib.hid yn.ext; have hlb17 : (World.heap w4).size ≤ b17 := hn1; generalize World.later w4 yn = W9 at *; clear hn1 hn2 hn3 hn4 hn5 yn
    have HBF2 := HBb17
    have HM4 := HEb17
    replace HBS := Lib.hid (HBS.out.later HEb17.out)
    replace HBF := Lib.hid (HBF.out.later HEb17.out)
    replace HBO4 := Lib.hid (HBO.out.later HEb17.out)
    clear HBb17 HEb17
    have hbol := HBO4.out.lt
    have hfl := HBF.out.lt
    have hfl2 := HBF2.out.lt
    have hsl := HBS.out.lt
    have f0 := HBF.out.cell (k := 0) (by simp)
    have f1 := HBF.out.cell (k := 1) (by simp)
    have f2 := HBF.out.cell (k := 2) (by simp)
    have f3 := HBF.out.cell (k := 3) (by simp)
    have f4 := HBF.out.cell (k := 4) (by simp)
    simp at f0 f1 f2 f3 f4
    have g0 := HBF2.out.cell (k := 0) (by simp)
    have g1 := HBF2.out.cell (k := 1) (by simp)
    have g2 := HBF2.out.cell (k := 2) (by simp)
    have g3 := HBF2.out.cell (k := 3) (by simp)
    have g4 := HBF2.out.cell (k := 4) (by simp)
    simp at g0 g1 g2 g3 g4
    repeat' (first | refine X_q ?_ | refine X_nil ?_ | refine W_seqk (fun K hK => ?_) | go_step)
    obtain ⟨G, hG⟩ : ∃ G : Nat → Prop, G = (fun k => k = b6) := ⟨_, rfl⟩; have HGo : Hid (G b6) := Lib.hid (by subst hG; rfl); have hGb4 : ¬ G b4 := (by subst hG; show ¬ b4 = b6; omega); clear hG
    refine W_drawG G [(0, 3), (1, 3), (2, 3), (3, 0), (4, 0), (5, 0), (6, 0), (7, 0), (8, 0), (9, 2), (10, 0)] (by kernel_rfl) (by kernel_rfl) ?_
    (first | refine Y_floadr HBS.out ?_ (hu := Tryz.underlying33) | refine Y_fload HBS.out hGb4 ?_ (hu := Tryz.underlying33))
    repeat' (first | refine Y_gt ?_ | refine Y_q ?_ | refine Y_r ?_ | fail)
    refine Y_store (off := 0) HBO4.out HGo.out (fun W5 hM5 hG5x hB5 => ?_)
    have HM5 := Lib.hid hM5
    have HB5 := Lib.hid (fput hB5)
    clear hM5 hG5x hB5
    repeat' (first | refine Y_q ?_ | refine Y_nil ?_)
    repeat' (first | refine W_ret ?_ | go_step)
    have HM6 := Lib.hid (Mod.trans (H := (· = b6)) HM4.out HM5.out (fun _ _ h => h.elim) (fun _ _ h => h))
    exact Body_retcellv (cs := RepS.cs (s) _ _ _) hd (does_end HH.out HE1.out HEC.out HMc.out HRc.out HM6.out h6W h61 HVO.out) HB5.out (fun k hk => cs_fenc hk) Tryz.underlying33
end Go.Ws
