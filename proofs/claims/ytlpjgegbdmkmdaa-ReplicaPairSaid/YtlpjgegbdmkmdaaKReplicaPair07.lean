/- Lemmas for the statement ReplicaPair (joined texts); no condition. -/
import Derived.Test.YtlpjgegbdmkmdaaKReplicaPair06
namespace Go.Ws
open Go Go.RowKit
set_option maxHeartbeats 1000000
set_option linter.unusedVariables false
set_option linter.unusedSimpArgs false

/-! ### A region that draws its order and that may change the blocks in G: what it reads lies outside of G -/
def LaterG (G : Nat → Prop) (w : World) : Type := { w' : World // Mod G w w' }
def _root_.Go.World.laterG (w : World) {G : Nat → Prop} (x : LaterG G w) : World := x.1
theorem Mod.transG {G : Nat → Prop} {a b c : World} (h : Mod G a b) (k : Mod G b c) : Mod G a c := Mod.trans h k (fun _ _ h => h) (fun _ _ h => h)
theorem Mod.ext {G : Nat → Prop} {a b c : World} (h : Mod G a b) (k : Ext b c) : Mod G a c := Mod.trans h k (fun _ _ h => h) (fun _ _ h => h.elim)
@[simp, go_sem] theorem heap_laterG {G : Nat → Prop} (w : World) (x : LaterG G w) (k : Nat) (h : k < w.heap.size) (hG : ¬ G k) : (w.laterG x).heap[k]? = w.heap[k]? := x.2.block k h hG
@[simp, go_sem] theorem cell?_laterG {G : Nat → Prop} (w : World) (x : LaterG G w) (b o : Nat) (h : b < w.heap.size) (hG : ¬ G b) : (w.laterG x).cell? ⟨b, o, none⟩ = w.cell? ⟨b, o, none⟩ :=
  World.cell?_of_block (w := w) (x.2.block b h hG)
@[simp, go_sem] theorem frozen?_laterG {G : Nat → Prop} (w : World) (x : LaterG G w) (b o : Nat) (h : b < w.heap.size) (hG : ¬ G b) : (w.laterG x).frozen? ⟨b, o, none⟩ = w.frozen? ⟨b, o, none⟩ :=
  World.frozen?_of_block (w := w) (x.2.block b h hG)
@[simp, go_sem] theorem lt_laterG {G : Nat → Prop} (w : World) (x : LaterG G w) (b : Nat) (h : b < w.heap.size) : b < (w.laterG x).heap.size := Nat.lt_of_lt_of_le h x.2.size
section
variable {P : Program} {md : Region.Mode} {ops : Array Oper} {Q : Exit → Act → World → Prop} {G : Nat → Prop}
def YieldsG (G : Nat → Prop) (P : Program) (ops : Array Oper) (o : Oper) (v : Value) (a : Act) (w : World) : Prop :=
  (Region.wanted o (yielded ops a.tmps) = true ∧ ∀ x : LaterG G w, o.quietAt P a (Ext (w.laterG x)) (w.laterG x) v) ∨
  (Region.wanted o (yielded ops a.tmps) = false ∧ v = undef)
theorem YieldsG.q {o : Oper} {v : Value} {a : Act} {w W : World} (h : YieldsG G P ops o v a w) (hM : Mod G w W) : YieldsQ P ops o v a W := by
  rcases h with ⟨h1, h2⟩ | h
  · exact .inl ⟨h1, fun x => h2 ⟨W.later x, hM.ext x.2⟩⟩
  · exact .inr h
theorem YieldsG.up {o : Oper} {v : Value} {a : Act} {w W : World} (h : YieldsG G P ops o v a w) (hM : Mod G w W) : YieldsG G P ops o v a W := by
  rcases h with ⟨h1, h2⟩ | h
  · exact .inl ⟨h1, fun x => h2 ⟨W.laterG x, hM.transG x.2⟩⟩
  · exact .inr h
theorem YieldsG.of_same {o : Oper} {v : Value} {a a' : Act} {w : World} (hy : YieldsG G P ops o v a w) (he : execOp a'.eval o = execOp a.eval o)
    (hw : Region.wanted o (yielded ops a'.tmps) = Region.wanted o (yielded ops a.tmps)) : YieldsG G P ops o v a' w := by
  unfold YieldsG Oper.quietAt at *
  rw [he, hw]
  exact hy
def wpSG (P : Program) (md : Region.Mode) (ops : Array Oper) (hard : Nat → Bool) (G : Nat → Prop) (Q : Exit → Act → World → Prop) : Nat → Array Bool → Act → World → Prop
  | 0, listed, a, w => Region.ready md ops listed = [] ∧ ∀ x : Later w, Q .normal a (w.later x)
  | f + 1, listed, a, w => ∀ x : Later w, Region.ready md ops listed ≠ [] ∧
      ∀ j ∈ Region.ready md ops listed, softOp P ops j (fun a' w' => Mod (fun k => hard j = true ∧ G k) (w.later x) w' ∧ wpSG P md ops hard G Q f (listed.setIfInBounds j true) a' w') a (w.later x)
theorem wpSG.later {hard : Nat → Bool} {f : Nat} {listed : Array Bool} {a : Act} {w w' : World} (h : wpSG P md ops hard G Q f listed a w) (hE : Ext w w') : wpSG P md ops hard G Q f listed a w' := by
  cases f with
  | zero => exact ⟨h.1, fun x => h.2 ⟨w'.later x, Ext.trans hE x.2⟩⟩
  | succ f => exact fun x => h ⟨w'.later x, Ext.trans hE x.2⟩
theorem wpAny_of_wpSG {ρ : Option Nat} {n : Nat} (hn : ρ = none ∨ (∀ (i : Nat) (o : Oper), ops[i]? = some o → noDefer o = true)) {hard : Nat → Bool} : ∀ (f : Nat) (listed : Array Bool) (a : Act) (w : World), wpSG P md ops hard G Q f listed a w → wpAnyIn (RF ρ) n P md ops Q f listed a w
  | 0, listed, a, w, h => ⟨h.1, h.2 ⟨w, Ext.refl w⟩⟩
  | f + 1, listed, a, w, h => by
    obtain ⟨h0, h1⟩ := h ⟨w, Ext.refl w⟩
    refine ⟨fun h => absurd h h0, fun j hj => ?_⟩
    exact wpOpIn_of_soft (hn.imp id (fun h => h j)) (softOp_mono (fun a' w' h => wpAny_of_wpSG hn f _ a' w' h.2) (h1 j hj))
theorem Mod.hardG {hard : Nat → Bool} {j : Nat} {G : Nat → Prop} {a b : World} (h : Mod (fun k => hard j = true ∧ G k) a b) : Mod G a b := h.mono (fun _ _ h => h.2)
theorem Mod.hardE {hard : Nat → Bool} {j : Nat} {G : Nat → Prop} {a b : World} (h : Mod (fun k => hard j = true ∧ G k) a b) (hj : hard j = false) : Ext a b := h.mono (fun _ _ h => by rw [hj] at h; cases h.1)
theorem wpSG_first {hard : Nat → Bool} {i : Nat} {oi : Oper} {v : Value} (hi : ops[i]? = some oi) (hsel : ∀ (j : Nat) (o : Oper) cs b, ops[j]? = some o → o.op ≠ .select cs b) :
    ∀ (f : Nat) (listed : Array Bool) (a : Act) (w : World),
      (∀ j oj, ops[j]? = some oj → j ≠ i → listed.getD j true = false → (∀ e ∈ oj.after, Region.binds md e = true → e.on ≠ i) → oi.apart ops oj = true) →
      i ∈ Region.ready md ops listed → YieldsG G P ops oi v a w →
      wpSG P md ops hard G Q f (listed.setIfInBounds i true) (a.put oi.dst v) w → wpSG P md ops hard G Q (f + 1) listed a w := by
  intro f
  induction f with
  | zero =>
    intro listed a w _ hr hy H x
    refine ⟨fun h => (by rw [h] at hr; cases hr), fun j hj => ?_⟩
    by_cases hji : j = i
    · subst hji
      exact (hy.q x.2.mod).softOp hi fun w' hw' => ⟨hw'.mod, H.later (Ext.trans x.2 hw')⟩
    · have := ready_mono hj hji
      rw [H.1] at this
      cases this
  | succ f ih =>
    intro listed a w hfree hr hy H x
    refine ⟨fun h => (by rw [h] at hr; cases hr), fun j hj => ?_⟩
    by_cases hji : j = i
    · subst hji
      exact (hy.q x.2.mod).softOp hi fun w' hw' => ⟨hw'.mod, H.later (Ext.trans x.2 hw')⟩
    · have hiun := (mem_ready.1 hr).1
      have h1 := (H x).2 j (ready_mono hj hji)
      obtain ⟨hjun, oj, hoj, hall⟩ := mem_ready.1 hj
      have hnot : ∀ e ∈ oj.after, Region.binds md e = true → e.on ≠ i := fun e he hb heq => by
        have h1 := hall e he hb
        rw [heq, getD_both hiun] at h1
        cases h1
      have hfree' : ∀ k ok, ops[k]? = some ok → k ≠ i → (listed.setIfInBounds j true).getD k true = false →
          (∀ e ∈ ok.after, Region.binds md e = true → e.on ≠ i) → oi.apart ops ok = true := fun k ok hk hki hun hno => by
        refine hfree k ok hk hki ?_ hno
        by_cases hjk : j = k
        · subst hjk; exact hjun
        · rw [getD_set_ne true hjk] at hun; exact hun
      have h2 := softOp_put hoj (hfree j oj hoj hji hjun hnot) (fun cs b => hsel i oi cs b hi) (fun cs b => hsel j oj cs b hoj) h1
      refine softOp_mono (fun a' w' h3 => ?_) h2
      obtain ⟨⟨he, hw⟩, hM, h4⟩ := h3
      refine ⟨hM, ih _ a' w' hfree' (ready_mono hr (Ne.symm hji)) ((hy.of_same he hw).up (Mod.trans x.2 hM.hardG (fun _ _ h => h.elim) (fun _ _ h => h))) ?_⟩
      rw [Array.setIfInBounds_comm _ _ hji]
      exact h4
theorem wpSG_firstQ {hard : Nat → Bool} {i : Nat} {oi : Oper} {v : Value} (hi : ops[i]? = some oi) (hsel : ∀ (j : Nat) (o : Oper) cs b, ops[j]? = some o → o.op ≠ .select cs b)
    (hreach : ∀ j, hard j = true → Reach md ops i j ∨ Reach md ops j i) :
    ∀ (f : Nat) (listed : Array Bool) (a : Act) (w : World), Closed md ops listed →
      (∀ j oj, ops[j]? = some oj → j ≠ i → listed.getD j true = false → (∀ e ∈ oj.after, Region.binds md e = true → e.on ≠ i) → oi.apart ops oj = true) →
      i ∈ Region.ready md ops listed → YieldsQ P ops oi v a w →
      wpSG P md ops hard G Q f (listed.setIfInBounds i true) (a.put oi.dst v) w → wpSG P md ops hard G Q (f + 1) listed a w := by
  intro f
  induction f with
  | zero =>
    intro listed a w hc _ hr hy H x
    refine ⟨fun h => (by rw [h] at hr; cases hr), fun j hj => ?_⟩
    by_cases hji : j = i
    · subst hji
      exact (hy.later x.2).softOp hi fun w' hw' => ⟨hw'.mod, H.later (Ext.trans x.2 hw')⟩
    · have := ready_mono hj hji
      rw [H.1] at this
      cases this
  | succ f ih =>
    intro listed a w hc hfree hr hy H x
    refine ⟨fun h => (by rw [h] at hr; cases hr), fun j hj => ?_⟩
    by_cases hji : j = i
    · subst hji
      exact (hy.later x.2).softOp hi fun w' hw' => ⟨hw'.mod, H.later (Ext.trans x.2 hw')⟩
    · have hiun := (mem_ready.1 hr).1
      have hjun' := (mem_ready.1 hj).1
      have h1 := (H x).2 j (ready_mono hj hji)
      obtain ⟨hjun, oj, hoj, hall⟩ := mem_ready.1 hj
      have hjh : hard j = false := by
        cases hjh : hard j with
        | false => rfl
        | true =>
          exfalso
          rcases hreach j hjh with h | h
          · have := h.listed hc (.inr hj)
            rw [getD_both hiun] at this; cases this
          · have := h.listed hc (.inr hr)
            rw [getD_both hjun'] at this; cases this
      have hnot : ∀ e ∈ oj.after, Region.binds md e = true → e.on ≠ i := fun e he hb heq => by
        have h1 := hall e he hb
        rw [heq, getD_both hiun] at h1
        cases h1
      have hfree' : ∀ k ok, ops[k]? = some ok → k ≠ i → (listed.setIfInBounds j true).getD k true = false →
          (∀ e ∈ ok.after, Region.binds md e = true → e.on ≠ i) → oi.apart ops ok = true := fun k ok hk hki hun hno => by
        refine hfree k ok hk hki ?_ hno
        by_cases hjk : j = k
        · subst hjk; exact hjun
        · rw [getD_set_ne true hjk] at hun; exact hun
      have h2 := softOp_put hoj (hfree j oj hoj hji hjun hnot) (fun cs b => hsel i oi cs b hi) (fun cs b => hsel j oj cs b hoj) h1
      refine softOp_mono (fun a' w' h3 => ?_) h2
      obtain ⟨⟨he, hw⟩, hM, h4⟩ := h3
      refine ⟨hM, ih _ a' w' (hc.set hj) hfree' (ready_mono hr (Ne.symm hji)) ((hy.of_same he hw).later (Ext.trans x.2 (hM.hardE hjh))) ?_⟩
      rw [Array.setIfInBounds_comm _ _ hji]
      exact h4
def mixG (md : Region.Mode) (ops : Array Oper) : List (Nat × Nat) → Array Bool → Bool
  | [], listed => (Region.ready md ops listed).isEmpty
  | (i, k) :: rest, listed =>
    (match k with
     | 0 => (Region.ready md ops listed).contains i && Region.free md ops listed i
     | 3 => (Region.ready md ops listed).contains i && Region.free md ops listed i
     | _ => decide (Region.ready md ops listed = [i])) && mixG md ops rest (listed.setIfInBounds i true)
end
section
variable {P : Program} {Q : Post} {w : World} {a : Act} {G : Nat → Prop} {ops : Array Oper}
/-- The walk. -/
def wpY (G : Nat → Prop) (P : Program) (ops : Array Oper) (Q : Post) : List (Oper × Nat) → Act → World → Prop
  | [], a, w => Q .normal a w
  | (o, 0) :: rest, a, w => ∃ v, YieldsG G P ops o v a w ∧ wpY G P ops Q rest (a.put o.dst v) w
  | (o, 3) :: rest, a, w => ∃ v, YieldsQ P ops o v a w ∧ wpY G P ops Q rest (a.put o.dst v) w
  | (o, _) :: rest, a, w => ∀ x : Later w, if Region.wanted o (yielded ops a.tmps) = true
      then OpW P o a (w.later x) (fun a' w' => Mod G (w.later x) w' ∧ ∃ w0, Ext w0 w' ∧ wpY G P ops Q rest a' w0) (fun _ _ _ => False)
      else ∃ w0, Ext w0 (w.later x) ∧ wpY G P ops Q rest (a.put o.dst undef) w0
/-- Is it neither a quiet operation nor one that is listed with another kind? -/
def hardK (k : Nat) : Bool := k == 1 || k == 2
theorem wpSG_of_wpY {hard : Nat → Bool} (hsel : Region.noSelect ops = true) :
    ∀ (l : List (Oper × Nat)) (σ : List (Nat × Nat)) (listed : Array Bool) (a : Act) (w : World), Closed .any ops listed → (∀ p ∈ l.zip σ, ops[p.2.1]? = some p.1.1 ∧ p.1.2 = p.2.2) → l.length = σ.length → mixG .any ops σ listed = true →
      (∀ p ∈ σ, p.2 ≤ 3 ∧ (p.2 = 1 ∨ p.2 = 2 → hard p.1 = true) ∧ (p.2 = 3 → ∀ j, hard j = true → Reach .any ops p.1 j ∨ Reach .any ops j p.1)) →
      wpY G P ops Q l a w → wpSG P .any ops hard G (UpQ Q) σ.length listed a w
  | [], [], listed, a, w, _, _, _, hB, _, h => ⟨by simpa [mixG] using hB, fun x => ⟨w, x.2, h⟩⟩
  | [], _ :: _, _, _, _, _, _, hl, _, _, _ => by cases hl
  | _ :: _, [], _, _, _, _, _, hl, _, _, _ => by cases hl
  | (o, k) :: rest, (i, k') :: σ, listed, a, w, hc, hz, hl, hB, hh, h => by
    have h0 := hz ((o, k), (i, k')) (by simp)
    obtain ⟨ho, rfl⟩ : ops[i]? = some o ∧ k = k' := h0
    have hz' : ∀ p ∈ rest.zip σ, ops[p.2.1]? = some p.1.1 ∧ p.1.2 = p.2.2 := fun p hp => hz p (by simp [hp])
    have hl' : rest.length = σ.length := by simpa using hl
    have hh' := fun p hp => hh p (List.mem_cons_of_mem _ hp)
    obtain ⟨hk3, hk12, hk33⟩ := hh (i, k) (by simp)
    match k, hk3, hk12, hk33, hB, h with
    | 0, hk3, hk12, hk33, hB, h =>
      simp only [mixG, Bool.and_eq_true] at hB
      obtain ⟨⟨hr, hf⟩, hB'⟩ := hB
      obtain ⟨v, hy, hr2⟩ := h
      have hr' : i ∈ Region.ready .any ops listed := by simpa using hr
      exact wpSG_first ho (Region.noSelect_spec hsel) σ.length listed a w (Region.free_spec ho hf) hr' hy (wpSG_of_wpY hsel rest σ _ _ _ (hc.set hr') hz' hl' hB' hh' hr2)
    | 3, hk3, hk12, hk33, hB, h =>
      simp only [mixG, Bool.and_eq_true] at hB
      obtain ⟨⟨hr, hf⟩, hB'⟩ := hB
      obtain ⟨v, hy, hr2⟩ := h
      have hr' : i ∈ Region.ready .any ops listed := by simpa using hr
      exact wpSG_firstQ ho (Region.noSelect_spec hsel) (hk33 rfl) σ.length listed a w hc (Region.free_spec ho hf) hr' hy (wpSG_of_wpY hsel rest σ _ _ _ (hc.set hr') hz' hl' hB' hh' hr2)
    | 1, hk3, hk12, hk33, hB, h =>
      simp only [mixG, Bool.and_eq_true, decide_eq_true_eq] at hB
      intro x
      refine ⟨fun h0 => (by rw [hB.1] at h0; cases h0), fun j hj => ?_⟩
      have hj' := hj
      rw [hB.1] at hj'
      obtain rfl : j = i := by simpa using hj'
      have hjh := hk12 (.inl rfl)
      have := h x
      unfold softOp
      simp only [ho]
      split
      · rename_i hw; rw [if_pos hw] at this
        exact this.mono (fun a' w' ⟨hM, w0, hE0, h0⟩ => ⟨hM.mono (fun _ _ h => ⟨hjh, h⟩), (wpSG_of_wpY hsel rest σ _ _ _ (hc.set hj) hz' hl' hB.2 hh' h0).later hE0⟩) (fun _ _ _ h => h)
      · rename_i hw; rw [if_neg hw] at this
        obtain ⟨w0, hE0, h0⟩ := this
        exact ⟨Mod.refl _ _, (wpSG_of_wpY hsel rest σ _ _ _ (hc.set hj) hz' hl' hB.2 hh' h0).later hE0⟩
    | 2, hk3, hk12, hk33, hB, h =>
      simp only [mixG, Bool.and_eq_true, decide_eq_true_eq] at hB
      intro x
      refine ⟨fun h0 => (by rw [hB.1] at h0; cases h0), fun j hj => ?_⟩
      have hj' := hj
      rw [hB.1] at hj'
      obtain rfl : j = i := by simpa using hj'
      have hjh := hk12 (.inr rfl)
      have := h x
      unfold softOp
      simp only [ho]
      split
      · rename_i hw; rw [if_pos hw] at this
        exact this.mono (fun a' w' ⟨hM, w0, hE0, h0⟩ => ⟨hM.mono (fun _ _ h => ⟨hjh, h⟩), (wpSG_of_wpY hsel rest σ _ _ _ (hc.set hj) hz' hl' hB.2 hh' h0).later hE0⟩) (fun _ _ _ h => h)
      · rename_i hw; rw [if_neg hw] at this
        obtain ⟨w0, hE0, h0⟩ := this
        exact ⟨Mod.refl _ _, (wpSG_of_wpY hsel rest σ _ _ _ (hc.set hj) hz' hl' hB.2 hh' h0).later hE0⟩
    | k + 4, hk3, _, _, _, _ => simp at hk3
def relG (ops : Array Oper) (σ : List (Nat × Nat)) : Bool :=
  σ.all fun p => decide (p.2 ≤ 3) && (!(decide (p.2 = 3)) || σ.all fun q => !(hardK q.2) || ((Region.before ops).getD q.1 0).testBit p.1 || ((Region.before ops).getD p.1 0).testBit q.1)
def okG (ops : Array Oper) (σ : List (Nat × Nat)) : Bool := Region.noSelect ops && decide (σ.length = ops.size) && (σ.all fun p => decide (p.1 < ops.size)) && relG ops σ && mixG .any ops σ (Array.replicate ops.size false)
/-- A region that draws its order, and may change the blocks in G. -/
theorem W_drawG {ρ : Option Nat} {id : Nat} {l : List Oper} (G : Nat → Prop) (σ : List (Nat × Nat)) (hm : P.follows .mixedOrders = true) (hB : okG l.toArray σ = true)
    (h : wpY G P l.toArray Q (σ.map fun p => (l.getD p.1 default, p.2)) a w) (hnd : calmIn ρ l := by first | exact .inl rfl | exact .inr (by kernel_rfl)) : Wp ρ P (.region id l.toArray true) Q a w := Wp.intro fun x => by
  simp only [okG, Bool.and_eq_true, decide_eq_true_eq] at hB
  obtain ⟨⟨⟨⟨hsel, hlen⟩, hlt⟩, hrel⟩, hmix⟩ := hB
  refine wpIn_region_any hm ?_
  have hz : ∀ p ∈ (σ.map fun p => (l.getD p.1 default, p.2)).zip σ, l.toArray[p.2.1]? = some p.1.1 ∧ p.1.2 = p.2.2 := by
    intro p hp
    have : ∀ (τ : List (Nat × Nat)), (∀ q ∈ τ, q.1 < l.toArray.size) → p ∈ (τ.map fun q => (l.getD q.1 default, q.2)).zip τ → l.toArray[p.2.1]? = some p.1.1 ∧ p.1.2 = p.2.2 := by
      intro τ
      induction τ with
      | nil => intro _ h; simp at h
      | cons q τ ih =>
        intro hq h
        simp only [List.map_cons, List.zip_cons_cons, List.mem_cons] at h
        rcases h with rfl | h
        · have := hq q (by simp)
          simp only [List.size_toArray] at this
          refine ⟨?_, rfl⟩
          simp [this]
        · exact ih (fun r hr => hq r (by simp [hr])) h
    exact this σ (fun q hq => by have := List.all_eq_true.1 hlt q hq; simpa using this) hp
  have hh : ∀ p ∈ σ, p.2 ≤ 3 ∧ (p.2 = 1 ∨ p.2 = 2 → (σ.any fun q => hardK q.2 && q.1 == p.1) = true) ∧ (p.2 = 3 → ∀ j, (σ.any fun q => hardK q.2 && q.1 == j) = true → Reach .any l.toArray p.1 j ∨ Reach .any l.toArray j p.1) := by
    intro p hp
    have h1 := List.all_eq_true.1 hrel p hp
    simp only [Bool.and_eq_true, decide_eq_true_eq] at h1
    refine ⟨h1.1, fun h => List.any_eq_true.2 ⟨p, hp, by rcases h with h | h <;> simp [h, hardK]⟩, fun h j hj => ?_⟩
    obtain ⟨q, hq, hq2⟩ := List.any_eq_true.1 hj
    simp only [Bool.and_eq_true, beq_iff_eq] at hq2
    obtain ⟨hq2, rfl⟩ := hq2
    have h2 := h1.2
    simp only [h, decide_true, Bool.not_true, Bool.false_or] at h2
    have h3 := List.all_eq_true.1 h2 q hq
    simp only [hq2, Bool.not_true, Bool.false_or, Bool.or_eq_true] at h3
    exact h3.imp (before_reach l.toArray p.1 q.1) (before_reach l.toArray q.1 p.1)
  have h2 := (wpSG_of_wpY (G := G) (hard := fun j => σ.any fun q => hardK q.2 && q.1 == j) hsel _ σ (Array.replicate l.toArray.size false) a w (fun j oj _ hl => (by rw [getD_replicate_false] at hl; cases hl)) hz (by simp) hmix hh h).later (Ext.trans x.2 (Ext.drew (w.later x)))
  have h3 := wpAny_of_wpSG (ρ := ρ) (n := 0) hnd.get _ _ _ _ h2
  rw [hlen] at h3
  exact h3

/-- .. whose last operation panics. -/
def wpTG (P : Program) (ops : Array Oper) (G : Nat → Prop) (last : Nat) (Z : Act → World → Prop) : Nat → Array Bool → Act → World → Prop
  | 0, listed, a, w => Region.ready .any ops listed = [last] ∧ ∀ x : Later w, Z a (w.later x)
  | f + 1, listed, a, w => ∀ x : Later w, Region.ready .any ops listed ≠ [] ∧
      ∀ j ∈ Region.ready .any ops listed, softOp P ops j (fun a' w' => Mod G (w.later x) w' ∧ wpTG P ops G last Z f (listed.setIfInBounds j true) a' w') a (w.later x)
section
variable {last : Nat} {Z : Act → World → Prop}
theorem wpTG.later {f : Nat} {listed : Array Bool} {a : Act} {w w' : World} (h : wpTG P ops G last Z f listed a w) (hE : Ext w w') : wpTG P ops G last Z f listed a w' := by
  cases f with
  | zero => exact ⟨h.1, fun x => h.2 ⟨w'.later x, Ext.trans hE x.2⟩⟩
  | succ f => exact fun x => h ⟨w'.later x, Ext.trans hE x.2⟩
theorem wpAny_of_wpTG {Q : Exit → Act → World → Prop} (hdie : ∀ a w K, Z a w → wpOpIn (RF none) 0 P ops Q last K a w) : ∀ (f : Nat) (listed : Array Bool) (a : Act) (w : World), wpTG P ops G last Z f listed a w → wpAnyIn (RF none) 0 P .any ops Q (f + 1) listed a w
  | 0, listed, a, w, h => by
    obtain ⟨h0, h1⟩ := h
    refine ⟨(fun h => by rw [h0] at h; cases h), fun j hj => ?_⟩
    rw [h0, List.mem_singleton] at hj
    subst hj
    exact hdie _ _ _ (h1 ⟨w, Ext.refl w⟩)
  | f + 1, listed, a, w, h => by
    obtain ⟨h0, h1⟩ := h ⟨w, Ext.refl w⟩
    refine ⟨fun h => absurd h h0, fun j hj => ?_⟩
    exact wpOpIn_of_soft (.inl rfl) (softOp_mono (fun a' w' h => wpAny_of_wpTG hdie f _ a' w' h.2) (h1 j hj))
theorem wpTG_first {i : Nat} {oi : Oper} {v : Value} (hi : ops[i]? = some oi) (hsel : ∀ (j : Nat) (o : Oper) cs b, ops[j]? = some o → o.op ≠ .select cs b) (hreach : Reach .any ops i last) :
    ∀ (f : Nat) (listed : Array Bool) (a : Act) (w : World), Closed .any ops listed →
      (∀ j oj, ops[j]? = some oj → j ≠ i → listed.getD j true = false → (∀ e ∈ oj.after, Region.binds .any e = true → e.on ≠ i) → oi.apart ops oj = true) →
      i ∈ Region.ready .any ops listed → YieldsG G P ops oi v a w →
      wpTG P ops G last Z f (listed.setIfInBounds i true) (a.put oi.dst v) w → wpTG P ops G last Z (f + 1) listed a w := by
  intro f
  induction f with
  | zero =>
    intro listed a w hc _ hr hy H x
    refine ⟨fun h => (by rw [h] at hr; cases hr), fun j hj => ?_⟩
    by_cases hji : j = i
    · subst hji
      exact (hy.q x.2.mod).softOp hi fun w' hw' => ⟨hw'.mod, H.later (Ext.trans x.2 hw')⟩
    · have h1 := ready_mono hj hji
      rw [H.1, List.mem_singleton] at h1
      subst h1
      have hiun := (mem_ready.1 hr).1
      have := hreach.listed hc (.inr hj)
      rw [getD_both hiun] at this
      cases this
  | succ f ih =>
    intro listed a w hc hfree hr hy H x
    refine ⟨fun h => (by rw [h] at hr; cases hr), fun j hj => ?_⟩
    by_cases hji : j = i
    · subst hji
      exact (hy.q x.2.mod).softOp hi fun w' hw' => ⟨hw'.mod, H.later (Ext.trans x.2 hw')⟩
    · have hiun := (mem_ready.1 hr).1
      have h1 := (H x).2 j (ready_mono hj hji)
      obtain ⟨hjun, oj, hoj, hall⟩ := mem_ready.1 hj
      have hnot : ∀ e ∈ oj.after, Region.binds .any e = true → e.on ≠ i := fun e he hb heq => by
        have h1 := hall e he hb
        rw [heq, getD_both hiun] at h1
        cases h1
      have hfree' : ∀ k ok, ops[k]? = some ok → k ≠ i → (listed.setIfInBounds j true).getD k true = false →
          (∀ e ∈ ok.after, Region.binds .any e = true → e.on ≠ i) → oi.apart ops ok = true := fun k ok hk hki hun hno => by
        refine hfree k ok hk hki ?_ hno
        by_cases hjk : j = k
        · subst hjk; exact hjun
        · rw [getD_set_ne true hjk] at hun; exact hun
      have h2 := softOp_put hoj (hfree j oj hoj hji hjun hnot) (fun cs b => hsel i oi cs b hi) (fun cs b => hsel j oj cs b hoj) h1
      refine softOp_mono (fun a' w' h3 => ?_) h2
      obtain ⟨⟨he, hw⟩, hM, h4⟩ := h3
      refine ⟨hM, ih _ a' w' (hc.set hj) hfree' (ready_mono hr (Ne.symm hji)) ((hy.of_same he hw).up (Mod.trans x.2 hM (fun _ _ h => h.elim) (fun _ _ h => h))) ?_⟩
      rw [Array.setIfInBounds_comm _ _ hji]
      exact h4
def mixTG (ops : Array Oper) (last : Nat) : List (Nat × Nat) → Array Bool → Bool
  | [], listed => decide (Region.ready .any ops listed = [last])
  | (i, k) :: rest, listed =>
    (match k with
     | 0 => (Region.ready .any ops listed).contains i && Region.free .any ops listed i
     | 1 => decide (Region.ready .any ops listed = [i])
     | 2 => decide (Region.ready .any ops listed = [i])
     | _ => false) && mixTG ops last rest (listed.setIfInBounds i true)
theorem wpTG_of_wpY {Q : Post} (hsel : Region.noSelect ops = true) (hQ : ∀ a w, Q .normal a w → ∀ x : Later w, Z a (w.later x)) :
    ∀ (l : List (Oper × Nat)) (σ : List (Nat × Nat)) (listed : Array Bool) (a : Act) (w : World), Closed .any ops listed → (∀ p ∈ l.zip σ, ops[p.2.1]? = some p.1.1 ∧ p.1.2 = p.2.2) → l.length = σ.length → mixTG ops last σ listed = true → (∀ p ∈ σ, Reach .any ops p.1 last) →
      wpY G P ops Q l a w → wpTG P ops G last Z σ.length listed a w
  | [], [], listed, a, w, _, _, _, hB, _, h => ⟨by simpa [mixTG] using hB, fun x => hQ _ _ h x⟩
  | [], _ :: _, _, _, _, _, _, hl, _, _, _ => by cases hl
  | _ :: _, [], _, _, _, _, _, hl, _, _, _ => by cases hl
  | (o, k) :: rest, (i, k') :: σ, listed, a, w, hc, hz, hl, hB, hh, h => by
    have h0 := hz ((o, k), (i, k')) (by simp)
    obtain ⟨ho, rfl⟩ : ops[i]? = some o ∧ k = k' := h0
    have hz' : ∀ p ∈ rest.zip σ, ops[p.2.1]? = some p.1.1 ∧ p.1.2 = p.2.2 := fun p hp => hz p (by simp [hp])
    have hl' : rest.length = σ.length := by simpa using hl
    have hh' : ∀ p ∈ σ, Reach .any ops p.1 last := fun p hp => hh p (by simp [hp])
    match k with
    | 0 =>
      simp only [mixTG, Bool.and_eq_true] at hB
      obtain ⟨⟨hr, hf⟩, hB'⟩ := hB
      obtain ⟨v, hy, hr2⟩ := h
      have hr' : i ∈ Region.ready .any ops listed := by simpa using hr
      exact wpTG_first ho (Region.noSelect_spec hsel) (hh (i, 0) (by simp)) σ.length listed a w hc (Region.free_spec ho hf) hr' hy (wpTG_of_wpY hsel hQ rest σ _ _ _ (hc.set hr') hz' hl' hB' hh' hr2)
    | 1 =>
      simp only [mixTG, Bool.and_eq_true, decide_eq_true_eq] at hB
      intro x
      refine ⟨fun h0 => (by rw [hB.1] at h0; cases h0), fun j hj => ?_⟩
      have hj' := hj
      rw [hB.1] at hj'
      obtain rfl : j = i := by simpa using hj'
      have := h x
      unfold softOp
      simp only [ho]
      split
      · rename_i hw; rw [if_pos hw] at this
        exact this.mono (fun a' w' ⟨hM, w0, hE0, h0⟩ => ⟨hM, (wpTG_of_wpY hsel hQ rest σ _ _ _ (hc.set hj) hz' hl' hB.2 hh' h0).later hE0⟩) (fun _ _ _ h => h)
      · rename_i hw; rw [if_neg hw] at this
        obtain ⟨w0, hE0, h0⟩ := this
        exact ⟨Mod.refl _ _, (wpTG_of_wpY hsel hQ rest σ _ _ _ (hc.set hj) hz' hl' hB.2 hh' h0).later hE0⟩
    | 2 =>
      simp only [mixTG, Bool.and_eq_true, decide_eq_true_eq] at hB
      intro x
      refine ⟨fun h0 => (by rw [hB.1] at h0; cases h0), fun j hj => ?_⟩
      have hj' := hj
      rw [hB.1] at hj'
      obtain rfl : j = i := by simpa using hj'
      have := h x
      unfold softOp
      simp only [ho]
      split
      · rename_i hw; rw [if_pos hw] at this
        exact this.mono (fun a' w' ⟨hM, w0, hE0, h0⟩ => ⟨hM, (wpTG_of_wpY hsel hQ rest σ _ _ _ (hc.set hj) hz' hl' hB.2 hh' h0).later hE0⟩) (fun _ _ _ h => h)
      · rename_i hw; rw [if_neg hw] at this
        obtain ⟨w0, hE0, h0⟩ := this
        exact ⟨Mod.refl _ _, (wpTG_of_wpY hsel hQ rest σ _ _ _ (hc.set hj) hz' hl' hB.2 hh' h0).later hE0⟩
    | k + 3 => simp [mixTG] at hB
end
def dieGOk (ops : Array Oper) (σ : List (Nat × Nat)) (last : Nat) : Bool :=
  Region.noSelect ops && decide (σ.length + 1 = ops.size) && (σ.all fun p => ((Region.before ops).getD last 0).testBit p.1 && decide (p.1 < ops.size)) && mixTG ops last σ (Array.replicate ops.size false)
theorem zip_get {l : List Oper} (σ : List (Nat × Nat)) (hlt : ∀ q ∈ σ, q.1 < l.toArray.size) : ∀ p ∈ (σ.map fun p => (l.getD p.1 default, p.2)).zip σ, l.toArray[p.2.1]? = some p.1.1 ∧ p.1.2 = p.2.2 := by
  intro p hp
  have : ∀ (τ : List (Nat × Nat)), (∀ q ∈ τ, q.1 < l.toArray.size) → p ∈ (τ.map fun q => (l.getD q.1 default, q.2)).zip τ → l.toArray[p.2.1]? = some p.1.1 ∧ p.1.2 = p.2.2 := by
    intro τ
    induction τ with
    | nil => intro _ h; simp at h
    | cons q τ ih =>
      intro hq h
      simp only [List.map_cons, List.zip_cons_cons, List.mem_cons] at h
      rcases h with rfl | h
      · have := hq q (by simp)
        simp only [List.size_toArray] at this
        refine ⟨?_, rfl⟩
        simp [this]
      · exact ih (fun r hr => hq r (by simp [hr])) h
  exact this σ hlt hp
theorem W_dieG {id : Nat} {l : List Oper} (G : Nat → Prop) (σ : List (Nat × Nat)) (last : Nat) (hm : P.follows .mixedOrders = true) (hB : dieGOk l.toArray σ last = true)
    (h : wpY G P l.toArray (fun _ a w => Dies P l.toArray last Q a w) (σ.map fun p => (l.getD p.1 default, p.2)) a w) : Wp none P (.region id l.toArray true) Q a w := Wp.intro fun x => by
  simp only [dieGOk, Bool.and_eq_true, decide_eq_true_eq] at hB
  obtain ⟨⟨⟨hsel, hlen⟩, hreach⟩, hmix⟩ := hB
  refine wpIn_region_any hm ?_
  have hz := zip_get (l := l) σ (fun q hq => by have := List.all_eq_true.1 hreach q hq; simp only [Bool.and_eq_true, decide_eq_true_eq] at this; exact this.2)
  have h2 := wpTG_of_wpY (P := P) (ops := l.toArray) (G := G) (last := last) (Z := fun a w => ∃ w0, Ext w0 w ∧ Dies P l.toArray last Q a w0) hsel (fun a w h x => ⟨w, x.2, h⟩) _ σ (Array.replicate l.toArray.size false) a w (fun j oj _ hl => (by rw [getD_replicate_false] at hl; cases hl)) hz (by simp) hmix (fun p hp => before_reach l.toArray p.1 last (by have := List.all_eq_true.1 hreach p hp; simp only [Bool.and_eq_true] at this; exact this.1)) h
  have h3 := wpAny_of_wpTG (Q := UpQ Q) (fun a w K hZ => by
    obtain ⟨w0, hE, o, ho, hw, hd⟩ := hZ
    unfold wpOpIn
    simp only [ho, hw, if_true]
    have hd' := hd ⟨w, hE⟩
    exact opIn_of_W (.inl rfl) (hd'.mono (fun _ _ h => h.elim) (fun _ _ _ h => h))) _ _ _ _ (h2.later (Ext.trans x.2 (Ext.drew (w.later x))))
  rw [hlen] at h3
  exact h3

/-! ### Steps -/
variable {o : Oper} {A : Act} {fl : List (Nat × Value)}
theorem Y_nil (h : Q .normal a w) : wpY G P ops Q [] a w := h
theorem Y_q {rest : List (Oper × Nat)} {v : Value} {d : Nat} (h : wpY G P ops Q rest (fr ((d, v) :: fl) A) w) (hd : o.dst = some d := by rfl) (hg : o.guard = none := by rfl)
    (hv : ∀ x : LaterG G w, o.quietAt P (fr fl A) (Ext (w.laterG x)) (w.laterG x) v := by intro x; go_simp; (try go_bits); exact rfl) : wpY G P ops Q ((o, 0) :: rest) (fr fl A) w :=
  ⟨v, .inl ⟨by simp [Region.wanted, hg], hv⟩, by rw [hd, fr_put]; exact h⟩
theorem Y_g {rest : List (Oper × Nat)} {v : Value} {d : Nat} {j t : Nat} {want g : Bool} (h : wpY G P ops Q rest (fr ((d, gv g v) :: fl) A) w) (hd : o.dst = some d := by rfl) (hg : o.guard = some (j, want) := by rfl) (ht : (ops[j]?).bind (·.dst) = some t := by rfl)
    (hgg : Is (gw ((fr fl A).tmps.getD t undef) want) g := by go_simp; exact Is.mk _)
    (hv : g = true → ∀ x : LaterG G w, o.quietAt P (fr fl A) (Ext (w.laterG x)) (w.laterG x) v := by intro hb x; (try simp only [Bool.and_eq_true, Bool.not_eq_true', Bool.or_eq_true, Bool.or_eq_false_iff] at hb); go_simp; (try go_bits); exact rfl) : wpY G P ops Q ((o, 0) :: rest) (fr fl A) w := by
  refine ⟨gv g v, ?_, by rw [hd, fr_put]; exact h⟩
  cases hc : g with
  | true => exact .inl ⟨by rw [wanted_gw hg ht, hgg.eq, hc], by rw [gv_true]; exact hv hc⟩
  | false => exact .inr ⟨by rw [wanted_gw hg ht, hgg.eq, hc], gv_false v⟩
theorem Y_gf {rest : List (Oper × Nat)} {d : Nat} {j t m : Nat} {want : Bool} (h : wpY G P ops Q rest (fr ((d, undef) :: fl) A) w) (hd : o.dst = some d := by rfl) (hg : o.guard = some (j, want) := by rfl) (ht : (ops[j]?).bind (·.dst) = some t := by rfl)
    (hgg : Is (gw ((fr fl A).tmps.getD t undef) want) false := by go_simp; exact Is.mk _) : wpY G P ops Q ((o, m) :: rest) (fr fl A) w := by
  match m with
  | 0 => exact ⟨undef, .inr ⟨by rw [wanted_gw hg ht, hgg.eq], rfl⟩, by rw [hd, fr_put]; exact h⟩
  | 3 => exact ⟨undef, .inr ⟨by rw [wanted_gw hg ht, hgg.eq], rfl⟩, by rw [hd, fr_put]; exact h⟩
  | 1 =>
    intro x
    rw [wanted_gw hg ht, hgg.eq]
    exact ⟨w, x.2, by rw [hd, fr_put]; exact h⟩
  | 2 =>
    intro x
    rw [wanted_gw hg ht, hgg.eq]
    exact ⟨w, x.2, by rw [hd, fr_put]; exact h⟩
  | m + 4 =>
    intro x
    rw [wanted_gw hg ht, hgg.eq]
    exact ⟨w, x.2, by rw [hd, fr_put]; exact h⟩
/-- A guard that says so. -/
theorem Y_gt {rest : List (Oper × Nat)} {dst : Option Tmp} {op : Op} {type : TypeId} {pos : String} {after : Array Edge} {j t k : Nat} {want : Bool}
    (h : wpY G P ops Q ((⟨dst, op, type, pos, after, none⟩, k) :: rest) (fr fl A) w) (ht : (ops[j]?).bind (·.dst) = some t := by rfl)
    (hgg : Is (gw ((fr fl A).tmps.getD t undef) want) true := by go_simp; exact Is.mk _) : wpY G P ops Q ((⟨dst, op, type, pos, after, some (j, want)⟩, k) :: rest) (fr fl A) w := by
  have hw : Region.wanted (⟨dst, op, type, pos, after, some (j, want)⟩ : Oper) (yielded ops (fr fl A).tmps) = true := by rw [wanted_gw rfl ht, hgg.eq]
  have hw' : Region.wanted (⟨dst, op, type, pos, after, none⟩ : Oper) (yielded ops (fr fl A).tmps) = true := by simp [Region.wanted]
  match k with
  | 0 =>
    obtain ⟨v, hy, hr⟩ := h
    refine ⟨v, .inl ⟨hw, ?_⟩, hr⟩
    rcases hy with ⟨_, hv⟩ | ⟨hn, _⟩
    · exact hv
    · rw [hw'] at hn; cases hn
  | 3 =>
    obtain ⟨v, hy, hr⟩ := h
    refine ⟨v, .inl ⟨hw, ?_⟩, hr⟩
    rcases hy with ⟨_, hv⟩ | ⟨hn, _⟩
    · exact hv
    · rw [hw'] at hn; cases hn
  | 1 =>
    intro x
    have := h x
    rw [if_pos hw'] at this
    rw [if_pos hw]
    exact this
  | 2 =>
    intro x
    have := h x
    rw [if_pos hw'] at this
    rw [if_pos hw]
    exact this
  | k + 4 =>
    intro x
    have := h x
    rw [if_pos hw'] at this
    rw [if_pos hw]
    exact this
/-- An operation that reads what may change here, but not beside it. -/
theorem Y_r {rest : List (Oper × Nat)} {v : Value} {d : Nat} (h : wpY G P ops Q rest (fr ((d, v) :: fl) A) w) (hd : o.dst = some d := by rfl) (hg : o.guard = none := by rfl)
    (hv : ∀ x : Later w, o.quietAt P (fr fl A) (Ext (w.later x)) (w.later x) v := by intro x; go_simp; (try go_bits); exact rfl) : wpY G P ops Q ((o, 3) :: rest) (fr fl A) w :=
  ⟨v, .inl ⟨by simp [Region.wanted, hg], hv⟩, by rw [hd, fr_put]; exact h⟩
theorem Y_op {rest : List (Oper × Nat)} {k : Nat} (hk : k = 1 ∨ k = 2) (h : ∀ x : Later w, OpW P o (fr fl A) (w.later x) (fun a' w' => Mod G (w.later x) w' ∧ ∃ w0, Ext w0 w' ∧ wpY G P ops Q rest a' w0) (fun _ _ _ => False)) (hg : o.guard = none := by rfl) : wpY G P ops Q ((o, k) :: rest) (fr fl A) w := by
  rcases hk with rfl | rfl <;> (intro x; rw [if_pos (by simp [Region.wanted, hg])]; exact h x)
/-- A store into a block. -/
theorem Y_store {b n : Nat} {E : TypeId} {g : Nat → Value} {rest : List (Oper × Nat)} {x y : Operand} {t : TypeId} {off : Nat} {v : Value} (hb : Blk w b E n g) (hGb : G b)
    (h : ∀ W', Mod (· = b) w W' → Mod G w W' → Blk W' b E n (put g off v.cells.toList) → wpY G P ops Q rest (fr fl A) W')
    (ho : o.op = .store t x y := by rfl) (hd : o.dst = none := by rfl) (hg : o.guard = none := by rfl)
    (hx : Is ((fr fl A).eval x) (.pointer (some ⟨b, off, none⟩)) := by go_simp; exact Is.mk _) (hy : Is ((fr fl A).eval y) v := by go_simp; exact Is.mk _)
    (hi : (P.info? t).map (·.size) = some v.cells.size := by kernel_rfl) (hoff : off + v.cells.size ≤ n := by simp [Value.cells] <;> omega) (h1 : v.cells.all (·.oneCell') = true := by simp [Value.cells, Value.oneCell']) :
    wpY G P ops Q ((o, 2) :: rest) (fr fl A) w := by
  refine Y_op (.inr rfl) (fun X => ?_) hg
  obtain ⟨W', hr, hM, hB⟩ := run_store_blk (P := P) (w := w.later X) (hb.later X.2) t off v hi hoff h1
  have hMG : Mod G (w.later X) W' := hM.mono (fun k _ hk => by subst hk; exact hGb)
  have hrun : runV P o (fr fl A) (w.later X) (fun v' w' => v' = undef ∧ w' = W') := by
    unfold runV execOp
    simp only [ho, hx.eq, hy.eq, Sem.run_bind, hr, Result.andThen_ok, Sem.run_pure]
    exact ⟨rfl, rfl⟩
  refine wp_of_runV hrun fun v' w' hk => ?_
  obtain ⟨rfl, rfl⟩ := hk
  exact ⟨hMG, _, Ext.refl _, by rw [hd]; exact h _ (Mod.trans X.2 hM (fun _ _ h => h.elim) (fun _ _ h => h)) (Mod.trans X.2 hMG (fun _ _ h => h.elim) (fun _ _ h => h)) hB⟩
/-- A call, by its contract. -/
theorem Y_ret {rest : List (Oper × Nat)} {k : Nat} {f : FuncId} {fn : Func} {la : List Operand} {ats : Array TypeId} {lv lv' : List Value} {R : Value → World → Prop} {d : Nat} (hf : P.funcs[f]? = some fn)
    (hc' : ∀ x : Later w, Ret P f lv.toArray (w.later x) (fun v w' => R v w' ∧ Mod G (w.later x) w')) (h : ∀ v w', R v w' → wpY G P ops Q rest (fr ((d, v) :: fl) A) w') (hd : o.dst = some d := by rfl) (hop : o.op = .call { callee := .value (.func f), args := la.toArray, argTypes := ats } := by rfl) (hn : callable fn = true := by kernel_rfl)
    (hg : o.guard = none := by rfl) (hargs : Is (la.map (fr fl A).eval) lv' := by go_simp; exact Is.mk _) (hlv : lv' = lv := by rfl) (hk : k = 1 ∨ k = 2 := by first | exact .inl rfl | exact .inr rfl) : wpY G P ops Q ((o, k) :: rest) (fr fl A) w := by
  refine Y_op hk (fun x => ?_) hg
  unfold OpW
  rw [run_call hf hn hop, hargs.eq, hlv]
  simp only [uponW]
  refine Calls.mono (Fn.calls (hc' x)) fun e w' hR => ?_
  obtain ⟨w0, hE, hR⟩ := hR
  cases e with
  | returned v => exact ⟨hR.2.ext hE, w0, hE, by rw [hd, fr_put]; exact h v w0 hR.1⟩
  | panicked c => exact hR.elim
  | outgrown => exact hR.elim
theorem Y_pure {rest : List (Oper × Nat)} {k : Nat} {f : FuncId} {fn : Func} {la : List Operand} {ats : Array TypeId} {lv lv' : List Value} {v : Value} {d : Nat} (hf : P.funcs[f]? = some fn)
    (hc : ∀ x : Later w, Pure P f lv.toArray (w.later x) v) (h : wpY G P ops Q rest (fr ((d, v) :: fl) A) w) (hd : o.dst = some d := by rfl) (hop : o.op = .call { callee := .value (.func f), args := la.toArray, argTypes := ats } := by rfl) (hn : callable fn = true := by kernel_rfl)
    (hg : o.guard = none := by rfl) (hargs : Is (la.map (fr fl A).eval) lv' := by go_simp; exact Is.mk _) (hlv : lv' = lv := by rfl) (hk : k = 1 ∨ k = 2 := by first | exact .inl rfl | exact .inr rfl) : wpY G P ops Q ((o, k) :: rest) (fr fl A) w := by
  refine Y_op hk (fun x => ?_) hg
  unfold OpW
  rw [run_call hf hn hop, hargs.eq, hlv]
  simp only [uponW]
  refine Calls.mono (Fn.calls (hc x)) fun e w' hR => ?_
  obtain ⟨w0, hE, hR⟩ := hR
  cases e with
  | returned v' => obtain ⟨rfl, hE0⟩ := hR; exact ⟨(Ext.trans hE0 hE).mod, w, Ext.trans x.2 (Ext.trans hE0 hE), by rw [hd, fr_put]; exact h⟩
  | panicked c => exact hR.elim
  | outgrown => exact hR.elim
end
attribute [irreducible] wpY
end Go.Ws
namespace Go.Ws
open Go Go.RowKit Go.Proofs
set_option maxHeartbeats 2000000
set_option maxRecDepth 100000
set_option linter.unusedVariables false
set_option linter.unusedSimpArgs false
set_option pp.deepTerms true
set_option pp.maxSteps 100000000

theorem eqlSlE (a : Option Addr) (n c : Nat) (w : World) : (binOp .eql 46 (.slice a n c) (.slice none 0 0)).run Try.prog w = .ok (.bool a.isNone) w := by
  cases a <;> rfl
theorem cloneE_calls {w : World} {v : Value} {l : List Ent} (hl : RdE w v l) (hn : l.length ≤ 1000000) : Ret Try.prog 33 #[v] w fun v' w' => Ext w w' ∧ OwnE w' v' l ∧ ∀ b, v'.ownBlock = some b → w.heap.size ≤ b := by
  have hl0 := Lib.hid hl
  obtain ⟨A0, c, rfl, hc, hcm, HA⟩ := hl
  clear HA
  cases A0 with
  | none =>
    have hl1 : l = [] := by
      obtain ⟨A', c', h1, _, _, h4⟩ := hl0.out
      cases h1
      rcases h4 with ⟨_, h⟩ | ⟨b, o, h, _⟩
      · exact h
      · cases h
    subst hl1
    have g := fun w => eqlSlE none 0 c w
    refine Fn_of Try.func33 rfl (Nat.le_of_ble_eq_true rfl) ?_; intro A hd hA; simp only [ix, Nat.reduceAdd]; replace hA : A.tmps.size = 8 := hA
    repeat' (first | refine X_d (fun vb hvb => ?_) | refine X_dg (fun vb hvb => ?_) | refine X_q ?_ | refine X_g ?_ | refine X_gf ?_ | refine X_niln ?_ | refine X_nil ?_ | (refine X_var (fun yn bn hn1 hn2 hn3 hn4 hn5 => ?_)) | refine W_seqk (fun K hK => ?_) | refine W_seqr ?_ | refine W_draw (by kernel_rfl) (by kernel_rfl) ?_ | refine W_ret ?_ | refine W_skip ?_ | refine W_block ?_ | refine W_exit ?_ | (refine X_s (fun x K hK => ?_); go_simp; refine hK _ _ (Ext.alloc _ _) ?_; clear hK K; refine X_al x ?_; generalize (World.later _ x).heap.size = bn; intro yn hn1 hn2 hn3 hn4 hn5; clear x) | refine W_tt ?_ | refine W_ff ?_ | refine W_test (fun hc => ?_) (fun hc => ?_) | go_step)
    exact Body_ret hd ⟨by simp, Own.nil _, by intro b hb; cases hb⟩
  | some a =>
    have g := fun w => eqlSlE (some a) l.length c w
    refine Fn_of Try.func33 rfl (Nat.le_of_ble_eq_true rfl) ?_; intro A hd hA; simp only [ix, Nat.reduceAdd]; replace hA : A.tmps.size = 8 := hA
    repeat' (first | refine X_d (fun vb hvb => ?_) | refine X_dg (fun vb hvb => ?_) | refine X_q ?_ | refine X_g ?_ | refine X_gf ?_ | refine X_niln ?_ | refine X_nil ?_ | (refine X_var (fun yn bn hn1 hn2 hn3 hn4 hn5 => ?_)) | refine W_seqk (fun K hK => ?_) | refine W_seqr ?_ | refine W_draw (by kernel_rfl) (by kernel_rfl) ?_ | refine W_ret ?_ | refine W_skip ?_ | refine W_block ?_ | refine W_exit ?_ | (refine X_s (fun x K hK => ?_); go_simp; refine hK _ _ (Ext.alloc _ _) ?_; clear hK K; refine X_al x ?_; generalize (World.later _ x).heap.size = bn; intro yn hn1 hn2 hn3 hn4 hn5; clear x) | refine W_tt ?_ | refine W_ff ?_ | refine W_test (fun hc => ?_) (fun hc => ?_) | go_step)
    refine X_append (xs := []) elemEnt (Own.empty hn5.out) (hl0.out.later (by simp)) (by simp; omega) (by unfold maxLen; simp; omega) (fun v' W' hM hO hF _ => ?_)
    repeat' (first | refine X_d (fun vb hvb => ?_) | refine X_dg (fun vb hvb => ?_) | refine X_q ?_ | refine X_g ?_ | refine X_gf ?_ | refine X_niln ?_ | refine X_nil ?_ | (refine X_var (fun yn bn hn1 hn2 hn3 hn4 hn5 => ?_)) | refine W_seqk (fun K hK => ?_) | refine W_seqr ?_ | refine W_draw (by kernel_rfl) (by kernel_rfl) ?_ | refine W_ret ?_ | refine W_skip ?_ | refine W_block ?_ | refine W_exit ?_ | (refine X_s (fun x K hK => ?_); go_simp; refine hK _ _ (Ext.alloc _ _) ?_; clear hK K; refine X_al x ?_; generalize (World.later _ x).heap.size = bn; intro yn hn1 hn2 hn3 hn4 hn5; clear x) | refine W_tt ?_ | refine W_ff ?_ | refine W_test (fun hc => ?_) (fun hc => ?_) | go_step)
    refine Body_ret hd ⟨Ext.fresh yn.2 hM (fun b hb => by cases hb; exact hn1), hO, fun b hb => ?_⟩
    have hs : w.heap.size ≤ (w.later yn).heap.size := yn.2.size
    rcases hF with h | ⟨g, h, hg⟩
    · rw [h] at hb; cases hb; exact hn1
    · rw [h] at hb; cases hb; omega
theorem log_calls {w : World} {b : Nat} {F : Nat → Prop} {s : RepS} (h : Rep w b F s) (hs : s.least ≠ 0) (hn : s.log.length ≤ 1000000) : Ret Try.prog 14 #[.pointer (some ⟨b, 0, none⟩)] w fun v' w' => Ext w w' ∧ OwnE w' v' s.log ∧ ∀ b, v'.ownBlock = some b → w.heap.size ≤ b := by
  have HP := Lib.hid h
  obtain ⟨uL, uI, uC, h, hf⟩ := h.ex
  have H := Lib.hid h
  obtain ⟨hlt, -, -, -, -, -, -, -, -, d12, -, -⟩ := h.cells
  obtain ⟨A1, c1, rfl, -⟩ := h.rdL.ent
  clear h hf
  refine Fn_of Try.func14 rfl (Nat.le_of_ble_eq_true rfl) ?_; intro A hd hA; simp only [ix, Nat.reduceAdd]; replace hA : A.tmps.size = 10 := hA
  repeat' (first | refine X_pure Try.func21 (none_of (HP.out.later (by simp)) hs) ?_ | refine X_gpure Try.func21 (fun _ => none_of (HP.out.later (by simp)) hs) ?_ | refine X_gt ?_ | refine X_q ?_ | refine X_g ?_ | refine X_gf ?_ | refine X_niln ?_ | refine X_nil ?_ | (refine X_var (fun yn bn hn1 hn2 hn3 hn4 hn5 => ?_)) | refine W_seqk (fun K hK => ?_) | refine W_seqr ?_ | refine W_ret ?_ | refine W_skip ?_ | refine W_block ?_ | refine W_exit ?_ | (refine X_s (fun x K hK => ?_); go_simp; refine hK _ _ (Ext.alloc _ _) ?_; clear hK K; refine X_al x ?_; generalize (World.later _ x).heap.size = bn; intro yn hn1 hn2 hn3 hn4 hn5; clear x) | refine W_tt ?_ | refine W_ff ?_ | refine W_test (fun hc => ?_) (fun hc => ?_) | go_step)
  refine X_ret Try.func33 (cloneE_calls H.out.rdL hn) (fun r w1 hR => ?_)
  repeat' (first | refine X_gt ?_ | refine X_q ?_ | refine X_g ?_ | refine X_gf ?_ | refine X_niln ?_ | refine X_nil ?_ | (refine X_var (fun yn bn hn1 hn2 hn3 hn4 hn5 => ?_)) | refine W_seqk (fun K hK => ?_) | refine W_seqr ?_ | refine W_ret ?_ | refine W_skip ?_ | refine W_block ?_ | refine W_exit ?_ | (refine X_s (fun x K hK => ?_); go_simp; refine hK _ _ (Ext.alloc _ _) ?_; clear hK K; refine X_al x ?_; generalize (World.later _ x).heap.size = bn; intro yn hn1 hn2 hn3 hn4 hn5; clear x) | refine W_tt ?_ | refine W_ff ?_ | refine W_test (fun hc => ?_) (fun hc => ?_) | go_step)
  exact Body_ret hd hR
theorem log_nil_calls {w : World} : Pure Try.prog 14 #[.pointer none] w (.slice none 0 0) := by
  refine Fn_of Try.func14 rfl (Nat.le_of_ble_eq_true rfl) ?_; intro A hd hA; simp only [ix, Nat.reduceAdd]; replace hA : A.tmps.size = 10 := hA
  repeat' (first | refine X_pure Try.func21 (isnone_nil) ?_ | refine X_gpure Try.func21 (fun _ => isnone_nil) ?_ | refine X_gt ?_ | refine X_q ?_ | refine X_g ?_ | refine X_gf ?_ | refine X_niln ?_ | refine X_nil ?_ | (refine X_var (fun yn bn hn1 hn2 hn3 hn4 hn5 => ?_)) | refine W_seqk (fun K hK => ?_) | refine W_seqr ?_ | refine W_ret ?_ | refine W_skip ?_ | refine W_block ?_ | refine W_exit ?_ | (refine X_s (fun x K hK => ?_); go_simp; refine hK _ _ (Ext.alloc _ _) ?_; clear hK K; refine X_al x ?_; generalize (World.later _ x).heap.size = bn; intro yn hn1 hn2 hn3 hn4 hn5; clear x) | refine W_tt ?_ | refine W_ff ?_ | refine W_test (fun hc => ?_) (fun hc => ?_) | go_step)
  exact Body_ret hd ⟨rfl, by simp⟩
/-- What it asks. -/
structure Fetch where
  src : Int
  epoch : Int
  offset : Int
  last : Int
  flushed : Int
abbrev Fetch.cs (f : Fetch) : List Value := [.int .i64 f.src, .int .i64 f.epoch, .int .i64 f.offset, .int .i64 f.last, .int .i64 f.flushed]
abbrev Fetch.v (f : Fetch) : Value := .agg #[.int .i64 f.src, .int .i64 f.epoch, .int .i64 f.offset, .int .i64 f.last, .int .i64 f.flushed]
def RepS.asks (s : RepS) : Fetch := ⟨s.self, s.epoch, s.log.length, lastE s.log, s.flushed⟩
theorem ask_ok {w : World} {b : Nat} {F : Nat → Prop} {s : RepS} (h : Rep w b F s) (hs : s.least ≠ 0) (hm : mayE s.log = true) (hr : s.role = 2) : Ret Try.prog 11 #[.pointer (some ⟨b, 0, none⟩)] w fun v w' => v = .tuple #[s.asks.v, .int .i64 0] ∧ Ext w w' := by
  have HP := Lib.hid h
  obtain ⟨uL, uI, uC, h, hf⟩ := h.ex
  have H := Lib.hid h
  obtain ⟨hlt, -, -, -, -, d8, -, d10, d11, d12, d13, -⟩ := h.cells
  obtain ⟨A1, c1, rfl, -⟩ := h.rdL.ent
  clear h hf
  have hrb : (s.role == 2) = true := by simp [hr]
  refine Fn_ofD Try.func11 rfl (Nat.le_of_ble_eq_true rfl) ?_; intro A hd hA; simp only [ix, Nat.reduceAdd]; replace hA : A.tmps.size = 38 := hA
  repeat' (first | refine X_gt ?_ | refine X_q ?_ | refine X_g ?_ | refine X_gf ?_ | refine X_niln ?_ | refine X_nil ?_ | (refine X_var (fun yn bn hn1 hn2 hn3 hn4 hn5 => ?_)) | refine W_seqk (fun K hK => ?_) | refine W_seqr ?_ | refine W_ret ?_ | refine W_skip ?_ | refine W_block ?_ | refine W_exit ?_ | (refine X_s (fun x K hK => ?_); go_simp; refine hK _ _ (Ext.alloc _ _) ?_; clear hK K; refine X_al x ?_; generalize (World.later _ x).heap.size = bn; intro yn hn1 hn2 hn3 hn4 hn5; clear x) | refine W_tt ?_ | refine W_ff ?_ | refine W_test (fun hc => ?_) (fun hc => ?_) | go_step)
  rename_i bv yv p1 p2 p3 p4 p5
  refine X_defc (be := bn) hd hA (fun W hE => by unfold execOp caughtD; go_simp) ?_; have hbe := Lib.hid (Blk.one hn5.out); clear hd hA A; intro A hd hA
  have hbv := Lib.hid (Blk.new p5.out)
  repeat' (first | refine X_pure Try.func21 (none_of (HP.out.later (by simp)) hs) ?_ | refine X_gpure Try.func21 (fun _ => none_of (HP.out.later (by simp)) hs) ?_ | refine X_pure Try.func20 (must_ok _) ?_ | refine X_gpure Try.func20 (fun _ => must_ok _) ?_ | refine X_gt ?_ | refine X_q ?_ | refine X_g ?_ | refine X_gf ?_ | refine X_niln ?_ | refine X_nil ?_ | (refine X_var (fun yn bn hn1 hn2 hn3 hn4 hn5 => ?_)) | refine W_seqk (fun K hK => ?_) | refine W_seqr ?_ | refine W_ret ?_ | refine W_skip ?_ | refine W_block ?_ | refine W_exit ?_ | (refine X_s (fun x K hK => ?_); go_simp; refine hK _ _ (Ext.alloc _ _) ?_; clear hK K; refine X_al x ?_; generalize (World.later _ x).heap.size = bn; intro yn hn1 hn2 hn3 hn4 hn5; clear x) | refine W_tt ?_ | refine W_ff ?_ | refine W_test (fun hc => ?_) (fun hc => ?_) | go_step)
  have hne : bv ≠ bn := by have := hbv.out.lt; omega
  obtain ⟨G, hG⟩ : ∃ G : Nat → Prop, G = (fun k => k = bv ∨ k = bn) := ⟨_, rfl⟩
  have hGb : ¬ G b := by subst hG; simp; omega
  have HGv : Hid (G bv) := Lib.hid (by subst hG; exact .inl rfl)
  have HGn : Hid (G bn) := Lib.hid (by subst hG; exact .inr rfl)
  have HGw : Hid (∀ k, G k → w.heap.size ≤ k) := Lib.hid (by subst hG; intro k hk; rcases hk with rfl | rfl <;> omega)
  clear hG
  have HE := Lib.hid (by simp : Ext w ((w.later yv).later yn))
  have HX := Lib.hid (hbv.out.later yn.2)
  clear hbv
  refine W_drawG G [(0, 0), (1, 0), (2, 0), (3, 0), (4, 0), (5, 0), (6, 0), (7, 0), (8, 0), (9, 0), (10, 0), (11, 0), (12, 0), (13, 0), (15, 0), (16, 0), (17, 0), (18, 0), (14, 1), (19, 2), (20, 0), (21, 2), (22, 0), (23, 2), (24, 0), (25, 2), (26, 0), (27, 2), (28, 0), (29, 2), (30, 2)] (by kernel_rfl) (by kernel_rfl) ?_
  repeat' (first | refine Y_pure Try.func30 (fun x => rlast_calls (HP.out.later (by simp)) hm) ?_ | refine Y_gt ?_ | refine Y_gf ?_ | refine Y_q ?_ | refine Y_r ?_ | refine Y_nil ?_)
  refine Y_store (off := 0) HX.out HGv.out (fun W1 hM hG1 hB => ?_)
  have HBE := Lib.hid (hbe.out.mod hM (fun h => hne h.symm)); have HX := Lib.hid hB; have HMG := Lib.hid hG1; clear hM hB hG1 hbe
  repeat' (first | refine Y_gt ?_ | refine Y_gf ?_ | refine Y_q ?_ | refine Y_r ?_ | refine Y_nil ?_)
  refine Y_store (off := 0) HX.out HGv.out (fun W2 hM hG1 hB => ?_)
  have HBE := Lib.hid (HBE.out.mod hM (fun h => hne h.symm)); have HX := Lib.hid hB; have HMG := Lib.hid (HMG.out.transG hG1); clear hM hB hG1
  repeat' (first | refine Y_gt ?_ | refine Y_gf ?_ | refine Y_q ?_ | refine Y_r ?_ | refine Y_nil ?_)
  refine Y_store (off := 1) HX.out HGv.out (fun W3 hM hG1 hB => ?_)
  have HBE := Lib.hid (HBE.out.mod hM (fun h => hne h.symm)); have HX := Lib.hid hB; have HMG := Lib.hid (HMG.out.transG hG1); clear hM hB hG1
  repeat' (first | refine Y_gt ?_ | refine Y_gf ?_ | refine Y_q ?_ | refine Y_r ?_ | refine Y_nil ?_)
  refine Y_store (off := 2) HX.out HGv.out (fun W4 hM hG1 hB => ?_)
  have HBE := Lib.hid (HBE.out.mod hM (fun h => hne h.symm)); have HX := Lib.hid hB; have HMG := Lib.hid (HMG.out.transG hG1); clear hM hB hG1
  repeat' (first | refine Y_gt ?_ | refine Y_gf ?_ | refine Y_q ?_ | refine Y_r ?_ | refine Y_nil ?_)
  refine Y_store (off := 3) HX.out HGv.out (fun W5 hM hG1 hB => ?_)
  have HBE := Lib.hid (HBE.out.mod hM (fun h => hne h.symm)); have HX := Lib.hid hB; have HMG := Lib.hid (HMG.out.transG hG1); clear hM hB hG1
  repeat' (first | refine Y_gt ?_ | refine Y_gf ?_ | refine Y_q ?_ | refine Y_r ?_ | refine Y_nil ?_)
  refine Y_store (off := 4) HX.out HGv.out (fun W6 hM hG1 hB => ?_)
  have HBE := Lib.hid (HBE.out.mod hM (fun h => hne h.symm)); have HX := Lib.hid hB; have HMG := Lib.hid (HMG.out.transG hG1); clear hM hB hG1
  repeat' (first | refine Y_gt ?_ | refine Y_gf ?_ | refine Y_q ?_ | refine Y_r ?_ | refine Y_nil ?_)
  refine Y_store (off := 0) HBE.out HGn.out (fun W7 hM hG1 hB => ?_)
  have HX := Lib.hid (HX.out.mod hM hne); have HBE := Lib.hid hB; have HMG := Lib.hid (HMG.out.transG hG1); clear hM hB hG1
  repeat' (first | refine Y_gt ?_ | refine Y_gf ?_ | refine Y_q ?_ | refine Y_r ?_ | refine Y_nil ?_)
  repeat' (first | refine X_gt ?_ | refine X_q ?_ | refine X_g ?_ | refine X_gf ?_ | refine X_niln ?_ | refine X_nil ?_ | (refine X_var (fun yn bn hn1 hn2 hn3 hn4 hn5 => ?_)) | refine W_seqk (fun K hK => ?_) | refine W_seqr ?_ | refine W_ret ?_ | refine W_skip ?_ | refine W_block ?_ | refine W_exit ?_ | (refine X_s (fun x K hK => ?_); go_simp; refine hK _ _ (Ext.alloc _ _) ?_; clear hK K; refine X_al x ?_; generalize (World.later _ x).heap.size = bn; intro yn hn1 hn2 hn3 hn4 hn5; clear x) | refine W_tt ?_ | refine W_ff ?_ | refine W_test (fun hc => ?_) (fun hc => ?_) | go_step)
  refine End_ok2r (cs := s.asks.cs) hd (HBE.out.congr (g' := fun _ => .int .i64 0) (fun k hk => by obtain rfl : k = 0 := (by omega); rfl)) HX.out ?_ ⟨rfl, Ext.fresh HE.out HMG.out HGw.out⟩ Try.underlying43
  intro k hk
  simp only [List.length_cons, List.length_nil] at hk
  obtain rfl | rfl | rfl | rfl | rfl : k = 0 ∨ k = 1 ∨ k = 2 ∨ k = 3 ∨ k = 4 := by omega
  all_goals rfl
theorem ask_no {w : World} {b : Nat} {F : Nat → Prop} {s : RepS} (h : Rep w b F s) (hs : s.least ≠ 0) (hr : s.role ≠ 2) : Ret Try.prog 11 #[.pointer (some ⟨b, 0, none⟩)] w fun v w' => v = .tuple #[(Fetch.mk 0 0 0 0 0).v, .int .i64 211] ∧ Ext w w' := by
  have HP := Lib.hid h
  obtain ⟨uL, uI, uC, h, hf⟩ := h.ex
  obtain ⟨hlt, -, -, -, -, d8, -, d10, d11, d12, d13, -⟩ := h.cells
  clear h hf
  have hrb : (s.role == 2) = false := by simp [hr]
  refine Fn_ofD Try.func11 rfl (Nat.le_of_ble_eq_true rfl) ?_; intro A hd hA; simp only [ix, Nat.reduceAdd]; replace hA : A.tmps.size = 38 := hA
  repeat' (first | refine X_gt ?_ | refine X_q ?_ | refine X_g ?_ | refine X_gf ?_ | refine X_niln ?_ | refine X_nil ?_ | (refine X_var (fun yn bn hn1 hn2 hn3 hn4 hn5 => ?_)) | refine W_seqk (fun K hK => ?_) | refine W_seqr ?_ | refine W_ret ?_ | refine W_skip ?_ | refine W_block ?_ | refine W_exit ?_ | (refine X_s (fun x K hK => ?_); go_simp; refine hK _ _ (Ext.alloc _ _) ?_; clear hK K; refine X_al x ?_; generalize (World.later _ x).heap.size = bn; intro yn hn1 hn2 hn3 hn4 hn5; clear x) | refine W_tt ?_ | refine W_ff ?_ | refine W_test (fun hc => ?_) (fun hc => ?_) | go_step)
  rename_i bv yv p1 p2 p3 p4 p5
  refine X_defc (be := bn) hd hA (fun W hE => by unfold execOp caughtD; go_simp) ?_; have hbe := Lib.hid (Blk.one hn5.out); clear hd hA A; intro A hd hA
  have hne : bv ≠ bn := by omega
  have hbv := Lib.hid ((Blk.new p5.out).later yn.2)
  repeat' (first | refine X_pure Try.func21 (none_of (HP.out.later (by simp)) hs) ?_ | refine X_gpure Try.func21 (fun _ => none_of (HP.out.later (by simp)) hs) ?_ | refine X_pure Try.func20 (must_ok 1) ?_ | refine X_gpure Try.func20 (fun _ => must_ok 1) ?_ | refine X_gt ?_ | refine X_q ?_ | refine X_g ?_ | refine X_gf ?_ | refine X_niln ?_ | refine X_nil ?_ | (refine X_var (fun yn bn hn1 hn2 hn3 hn4 hn5 => ?_)) | refine W_seqk (fun K hK => ?_) | refine W_seqr ?_ | refine W_ret ?_ | refine W_skip ?_ | refine W_block ?_ | refine W_exit ?_ | (refine X_s (fun x K hK => ?_); go_simp; refine hK _ _ (Ext.alloc _ _) ?_; clear hK K; refine X_al x ?_; generalize (World.later _ x).heap.size = bn; intro yn hn1 hn2 hn3 hn4 hn5; clear x) | refine W_tt ?_ | refine W_ff ?_ | refine W_test (fun hc => ?_) (fun hc => ?_) | go_step)
  refine X_die Try.func20 (must_no 211) (fun c w' hC => ?_)
  obtain ⟨rfl, hE⟩ := hC
  refine End_no2r (cs := (Fetch.mk 0 0 0 0 0).cs) hd (hbe.out.later hE) (hbv.out.later hE) ?_ hne (fun W1 hM => ⟨rfl, Ext.fresh (Ext.trans (by simp) hE : Ext w w') hM (fun k hk => by subst hk; omega)⟩) Try.underlying43
  intro k hk
  simp only [List.length_cons, List.length_nil] at hk
  obtain rfl | rfl | rfl | rfl | rfl : k = 0 ∨ k = 1 ∨ k = 2 ∨ k = 3 ∨ k = 4 := by omega
  all_goals rfl
theorem ask_nil {w : World} : Ret Try.prog 11 #[.pointer none] w fun v w' => v = .tuple #[(Fetch.mk 0 0 0 0 0).v, .int .i64 1] ∧ Ext w w' := by
  refine Fn_ofD Try.func11 rfl (Nat.le_of_ble_eq_true rfl) ?_; intro A hd hA; simp only [ix, Nat.reduceAdd]; replace hA : A.tmps.size = 38 := hA
  repeat' (first | refine X_gt ?_ | refine X_q ?_ | refine X_g ?_ | refine X_gf ?_ | refine X_niln ?_ | refine X_nil ?_ | (refine X_var (fun yn bn hn1 hn2 hn3 hn4 hn5 => ?_)) | refine W_seqk (fun K hK => ?_) | refine W_seqr ?_ | refine W_ret ?_ | refine W_skip ?_ | refine W_block ?_ | refine W_exit ?_ | (refine X_s (fun x K hK => ?_); go_simp; refine hK _ _ (Ext.alloc _ _) ?_; clear hK K; refine X_al x ?_; generalize (World.later _ x).heap.size = bn; intro yn hn1 hn2 hn3 hn4 hn5; clear x) | refine W_tt ?_ | refine W_ff ?_ | refine W_test (fun hc => ?_) (fun hc => ?_) | go_step)
  rename_i bv yv p1 p2 p3 p4 p5
  refine X_defc (be := bn) hd hA (fun W hE => by unfold execOp caughtD; go_simp) ?_; have hbe := Lib.hid (Blk.one hn5.out); clear hd hA A; intro A hd hA
  have hne : bv ≠ bn := by omega
  have hbv := Lib.hid ((Blk.new p5.out).later yn.2)
  repeat' (first | refine X_pure Try.func21 (isnone_nil) ?_ | refine X_gpure Try.func21 (fun _ => isnone_nil) ?_ | refine X_gt ?_ | refine X_q ?_ | refine X_g ?_ | refine X_gf ?_ | refine X_niln ?_ | refine X_nil ?_ | (refine X_var (fun yn bn hn1 hn2 hn3 hn4 hn5 => ?_)) | refine W_seqk (fun K hK => ?_) | refine W_seqr ?_ | refine W_ret ?_ | refine W_skip ?_ | refine W_block ?_ | refine W_exit ?_ | (refine X_s (fun x K hK => ?_); go_simp; refine hK _ _ (Ext.alloc _ _) ?_; clear hK K; refine X_al x ?_; generalize (World.later _ x).heap.size = bn; intro yn hn1 hn2 hn3 hn4 hn5; clear x) | refine W_tt ?_ | refine W_ff ?_ | refine W_test (fun hc => ?_) (fun hc => ?_) | go_step)
  refine X_die Try.func20 (must_no 1) (fun c w' hC => ?_)
  obtain ⟨rfl, hE⟩ := hC
  refine End_no2r (cs := (Fetch.mk 0 0 0 0 0).cs) hd (hbe.out.later hE) (hbv.out.later hE) ?_ hne (fun W1 hM => ⟨rfl, Ext.fresh (Ext.trans (by simp) hE : Ext w w') hM (fun k hk => by subst hk; omega)⟩) Try.underlying43
  intro k hk
  simp only [List.length_cons, List.length_nil] at hk
  obtain rfl | rfl | rfl | rfl | rfl : k = 0 ∨ k = 1 ∨ k = 2 ∨ k = 3 ∨ k = 4 := by omega
  all_goals rfl
end Go.Ws
namespace Go.Ws
open Go Go.RowKit Go.Proofs
set_option maxHeartbeats 2000000
set_option maxRecDepth 100000
set_option linter.unusedVariables false
set_option linter.unusedSimpArgs false
set_option pp.deepTerms true
set_option pp.maxSteps 100000000

/-- The first state. -/
def RepS.init (self least : Int) : RepS := ⟨self, least, 1, 0, [], 0, 0, 0, 0, [], [], fun _ => 0⟩
def rightNew (self least : Int) : Bool := inB self 0 3 && inB least 1 4
theorem repNew_ok {w : World} (self least : Int) (h : rightNew self least = true) : Ret Try.prog 6 #[.int .i64 self, .int .i64 least] w fun v w' => ∃ b, v = .tuple #[.pointer (some ⟨b, 0, none⟩), .int .i64 0] ∧ Ext w w' ∧ w.heap.size ≤ b ∧ Rep w' b (fun k => w.heap.size ≤ k) (RepS.init self least) := by
  simp only [rightNew, Bool.and_eq_true] at h
  obtain ⟨h1, h2⟩ := h
  have h3 : 1 ≤ least := by simp [inB] at h2; omega
  have h4 : least ≤ 4 := by simp [inB] at h2; omega
  have h3b : ¬ least < 1 := by omega
  have h4b : ¬ 4 < least := by omega
  refine Fn_of Try.func6 rfl (Nat.le_of_ble_eq_true rfl) ?_; intro A hd hA; simp only [ix, Nat.reduceAdd]; replace hA : A.tmps.size = 21 := hA
  repeat' (first | refine X_gt ?_ | refine X_q ?_ | refine X_g ?_ | refine X_gf ?_ | refine X_niln ?_ | refine X_nil ?_ | (refine X_var (fun yn bn hn1 hn2 hn3 hn4 hn5 => ?_)) | refine W_seqk (fun K hK => ?_) | refine W_seqr ?_ | refine W_ret ?_ | refine W_skip ?_ | refine W_block ?_ | refine W_exit ?_ | (refine X_s (fun x K hK => ?_); go_simp; refine hK _ _ (Ext.alloc _ _) ?_; clear hK K; refine X_al x ?_; generalize (World.later _ x).heap.size = bn; intro yn hn1 hn2 hn3 hn4 hn5; clear x) | refine W_tt ?_ | refine W_ff ?_ | refine W_test (fun hc => ?_) (fun hc => ?_) | go_step)
  refine W_scope ?_
  repeat' (first | refine X_pure Try.func18 (h1 ▸ broker_calls self _) ?_ | refine X_gpure Try.func18 (fun _ => h1 ▸ broker_calls self _) ?_ | refine X_gt ?_ | refine X_q ?_ | refine X_g ?_ | refine X_gf ?_ | refine X_niln ?_ | refine X_nil ?_ | (refine X_var (fun yn bn hn1 hn2 hn3 hn4 hn5 => ?_)) | refine W_seqk (fun K hK => ?_) | refine W_seqr ?_ | refine W_ret ?_ | refine W_skip ?_ | refine W_block ?_ | refine W_exit ?_ | (refine X_s (fun x K hK => ?_); go_simp; refine hK _ _ (Ext.alloc _ _) ?_; clear hK K; refine X_al x ?_; generalize (World.later _ x).heap.size = bn; intro yn hn1 hn2 hn3 hn4 hn5; clear x) | refine W_tt ?_ | refine W_ff ?_ | refine W_test (fun hc => ?_) (fun hc => ?_) | go_step)
  refine Body_ret2 hd ⟨_, rfl, by simp, by first | assumption | omega, _, _, _, ⟨(Blk.new hn5.out).congr (all15 (by refine ⟨?_, ?_, ?_, ?_, ?_, ?_, ?_, ?_, ?_, ?_, ?_, ?_, ?_, ?_, ?_⟩ <;> rfl)), Own.nil _, Rd.nil _, Rd.nil _, by simp [Value.ownBlock], by simp [Value.ownBlock], by simp [Value.ownBlock], by intro k hk; cases hk⟩, ?_⟩
  rintro k (rfl | hk | hk | hk)
  · first | assumption | omega
  · cases hk
  · cases hk
  · cases hk
theorem repNew_no {w : World} (self least : Int) (h : rightNew self least = false) : Pure Try.prog 6 #[.int .i64 self, .int .i64 least] w (.tuple #[.pointer none, .int .i64 2]) := by
  by_cases h1 : inB self 0 3 = true
  · have h2 : ¬ (1 ≤ least ∧ least ≤ 4) := fun h2 => by rw [rightNew, h1, Bool.true_and] at h; simp [inB] at h; omega
    by_cases h3 : least < 1
    · refine Fn_of Try.func6 rfl (Nat.le_of_ble_eq_true rfl) ?_; intro A hd hA; simp only [ix, Nat.reduceAdd]; replace hA : A.tmps.size = 21 := hA
      repeat' (first | refine X_gt ?_ | refine X_q ?_ | refine X_g ?_ | refine X_gf ?_ | refine X_niln ?_ | refine X_nil ?_ | (refine X_var (fun yn bn hn1 hn2 hn3 hn4 hn5 => ?_)) | refine W_seqk (fun K hK => ?_) | refine W_seqr ?_ | refine W_ret ?_ | refine W_skip ?_ | refine W_block ?_ | refine W_exit ?_ | (refine X_s (fun x K hK => ?_); go_simp; refine hK _ _ (Ext.alloc _ _) ?_; clear hK K; refine X_al x ?_; generalize (World.later _ x).heap.size = bn; intro yn hn1 hn2 hn3 hn4 hn5; clear x) | refine W_tt ?_ | refine W_ff ?_ | refine W_test (fun hc => ?_) (fun hc => ?_) | go_step)
      refine W_scopeF 0 rfl ?_
      repeat' (first | refine X_pure Try.func18 (h1 ▸ broker_calls self _) ?_ | refine X_gpure Try.func18 (fun _ => h1 ▸ broker_calls self _) ?_ | refine X_gt ?_ | refine X_q ?_ | refine X_g ?_ | refine X_gf ?_ | refine X_niln ?_ | refine X_nil ?_ | (refine X_var (fun yn bn hn1 hn2 hn3 hn4 hn5 => ?_)) | refine W_seqk (fun K hK => ?_) | refine W_seqr ?_ | refine W_ret ?_ | refine W_skip ?_ | refine W_block ?_ | refine W_exit ?_ | (refine X_s (fun x K hK => ?_); go_simp; refine hK _ _ (Ext.alloc _ _) ?_; clear hK K; refine X_al x ?_; generalize (World.later _ x).heap.size = bn; intro yn hn1 hn2 hn3 hn4 hn5; clear x) | refine W_tt ?_ | refine W_ff ?_ | refine W_test (fun hc => ?_) (fun hc => ?_) | go_step)
      refine W_goto ?_
      refine And.intro rfl ?_
      repeat' (first | refine X_gt ?_ | refine X_q ?_ | refine X_g ?_ | refine X_gf ?_ | refine X_niln ?_ | refine X_nil ?_ | (refine X_var (fun yn bn hn1 hn2 hn3 hn4 hn5 => ?_)) | refine W_seqk (fun K hK => ?_) | refine W_seqr ?_ | refine W_ret ?_ | refine W_skip ?_ | refine W_block ?_ | refine W_exit ?_ | (refine X_s (fun x K hK => ?_); go_simp; refine hK _ _ (Ext.alloc _ _) ?_; clear hK K; refine X_al x ?_; generalize (World.later _ x).heap.size = bn; intro yn hn1 hn2 hn3 hn4 hn5; clear x) | refine W_tt ?_ | refine W_ff ?_ | refine W_test (fun hc => ?_) (fun hc => ?_) | go_step)
      exact Body_ret2 hd ⟨rfl, by simp⟩
    · have h4 : 4 < least := by omega
      refine Fn_of Try.func6 rfl (Nat.le_of_ble_eq_true rfl) ?_; intro A hd hA; simp only [ix, Nat.reduceAdd]; replace hA : A.tmps.size = 21 := hA
      repeat' (first | refine X_gt ?_ | refine X_q ?_ | refine X_g ?_ | refine X_gf ?_ | refine X_niln ?_ | refine X_nil ?_ | (refine X_var (fun yn bn hn1 hn2 hn3 hn4 hn5 => ?_)) | refine W_seqk (fun K hK => ?_) | refine W_seqr ?_ | refine W_ret ?_ | refine W_skip ?_ | refine W_block ?_ | refine W_exit ?_ | (refine X_s (fun x K hK => ?_); go_simp; refine hK _ _ (Ext.alloc _ _) ?_; clear hK K; refine X_al x ?_; generalize (World.later _ x).heap.size = bn; intro yn hn1 hn2 hn3 hn4 hn5; clear x) | refine W_tt ?_ | refine W_ff ?_ | refine W_test (fun hc => ?_) (fun hc => ?_) | go_step)
      refine W_scopeF 0 rfl ?_
      repeat' (first | refine X_pure Try.func18 (h1 ▸ broker_calls self _) ?_ | refine X_gpure Try.func18 (fun _ => h1 ▸ broker_calls self _) ?_ | refine X_gt ?_ | refine X_q ?_ | refine X_g ?_ | refine X_gf ?_ | refine X_niln ?_ | refine X_nil ?_ | (refine X_var (fun yn bn hn1 hn2 hn3 hn4 hn5 => ?_)) | refine W_seqk (fun K hK => ?_) | refine W_seqr ?_ | refine W_ret ?_ | refine W_skip ?_ | refine W_block ?_ | refine W_exit ?_ | (refine X_s (fun x K hK => ?_); go_simp; refine hK _ _ (Ext.alloc _ _) ?_; clear hK K; refine X_al x ?_; generalize (World.later _ x).heap.size = bn; intro yn hn1 hn2 hn3 hn4 hn5; clear x) | refine W_tt ?_ | refine W_ff ?_ | refine W_test (fun hc => ?_) (fun hc => ?_) | go_step)
      refine W_goto ?_
      refine And.intro rfl ?_
      repeat' (first | refine X_gt ?_ | refine X_q ?_ | refine X_g ?_ | refine X_gf ?_ | refine X_niln ?_ | refine X_nil ?_ | (refine X_var (fun yn bn hn1 hn2 hn3 hn4 hn5 => ?_)) | refine W_seqk (fun K hK => ?_) | refine W_seqr ?_ | refine W_ret ?_ | refine W_skip ?_ | refine W_block ?_ | refine W_exit ?_ | (refine X_s (fun x K hK => ?_); go_simp; refine hK _ _ (Ext.alloc _ _) ?_; clear hK K; refine X_al x ?_; generalize (World.later _ x).heap.size = bn; intro yn hn1 hn2 hn3 hn4 hn5; clear x) | refine W_tt ?_ | refine W_ff ?_ | refine W_test (fun hc => ?_) (fun hc => ?_) | go_step)
      exact Body_ret2 hd ⟨rfl, by simp⟩
  · have h1f : inB self 0 3 = false := by simpa using h1
    refine Fn_of Try.func6 rfl (Nat.le_of_ble_eq_true rfl) ?_; intro A hd hA; simp only [ix, Nat.reduceAdd]; replace hA : A.tmps.size = 21 := hA
    repeat' (first | refine X_gt ?_ | refine X_q ?_ | refine X_g ?_ | refine X_gf ?_ | refine X_niln ?_ | refine X_nil ?_ | (refine X_var (fun yn bn hn1 hn2 hn3 hn4 hn5 => ?_)) | refine W_seqk (fun K hK => ?_) | refine W_seqr ?_ | refine W_ret ?_ | refine W_skip ?_ | refine W_block ?_ | refine W_exit ?_ | (refine X_s (fun x K hK => ?_); go_simp; refine hK _ _ (Ext.alloc _ _) ?_; clear hK K; refine X_al x ?_; generalize (World.later _ x).heap.size = bn; intro yn hn1 hn2 hn3 hn4 hn5; clear x) | refine W_tt ?_ | refine W_ff ?_ | refine W_test (fun hc => ?_) (fun hc => ?_) | go_step)
    refine W_scopeF 0 rfl ?_
    repeat' (first | refine X_pure Try.func18 (h1f ▸ broker_calls self _) ?_ | refine X_gpure Try.func18 (fun _ => h1f ▸ broker_calls self _) ?_ | refine X_gt ?_ | refine X_q ?_ | refine X_g ?_ | refine X_gf ?_ | refine X_niln ?_ | refine X_nil ?_ | (refine X_var (fun yn bn hn1 hn2 hn3 hn4 hn5 => ?_)) | refine W_seqk (fun K hK => ?_) | refine W_seqr ?_ | refine W_ret ?_ | refine W_skip ?_ | refine W_block ?_ | refine W_exit ?_ | (refine X_s (fun x K hK => ?_); go_simp; refine hK _ _ (Ext.alloc _ _) ?_; clear hK K; refine X_al x ?_; generalize (World.later _ x).heap.size = bn; intro yn hn1 hn2 hn3 hn4 hn5; clear x) | refine W_tt ?_ | refine W_ff ?_ | refine W_test (fun hc => ?_) (fun hc => ?_) | go_step)
    refine W_goto ?_
    refine And.intro rfl ?_
    repeat' (first | refine X_gt ?_ | refine X_q ?_ | refine X_g ?_ | refine X_gf ?_ | refine X_niln ?_ | refine X_nil ?_ | (refine X_var (fun yn bn hn1 hn2 hn3 hn4 hn5 => ?_)) | refine W_seqk (fun K hK => ?_) | refine W_seqr ?_ | refine W_ret ?_ | refine W_skip ?_ | refine W_block ?_ | refine W_exit ?_ | (refine X_s (fun x K hK => ?_); go_simp; refine hK _ _ (Ext.alloc _ _) ?_; clear hK K; refine X_al x ?_; generalize (World.later _ x).heap.size = bn; intro yn hn1 hn2 hn3 hn4 hn5; clear x) | refine W_tt ?_ | refine W_ff ?_ | refine W_test (fun hc => ?_) (fun hc => ?_) | go_step)
    exact Body_ret2 hd ⟨rfl, by simp⟩
theorem end_zero {F : Nat → Prop} {s : RepS} : s.log.length = s.log.length := rfl
def RepS.crash (s : RepS) (keep : Int) : RepS × Int :=
  if keep < 0 then (s, 2) else
    let n := gmin (s.log.length : Int) (s.flushed + gmin keep 4096)
    ({ s with version := 0, beg := 0, isr := [], counts := [], known := fun _ => 0, log := s.log.take n.toNat, flushed := n, high := gmin s.high n, role := 1 }, 0)
end Go.Ws
namespace Go.Ws
open Go Go.RowKit Go.Proofs
set_option linter.unusedVariables false
set_option linter.unusedSimpArgs false

/-! ### The plain law of what is kept of an ID -/
def highB (l : List Ent) (i : Int) : Int := l.foldl (fun n e => if e.id = i then max n e.num else n) 0
def markB (l : List Ent) (i : Int) : Int := l.foldl (fun n e => if e.id = i ∧ 1 < e.kind then max n e.num else n) 0
def nextB (l : List Ent) (i num : Int) : Int := l.foldl (fun n e => if e.id = i ∧ e.num = num ∧ e.kind = 1 then max n (e.seq + 1) else n) 0
theorem gmax_eq (a b : Int) : gmax a b = max a b := by unfold gmax; rw [Int.max_def]; split <;> split <;> omega
theorem highB_snoc (l : List Ent) (e : Ent) (i : Int) : highB (l ++ [e]) i = if e.id = i then max (highB l i) e.num else highB l i := by simp [highB, List.foldl_append]
theorem markB_snoc (l : List Ent) (e : Ent) (i : Int) : markB (l ++ [e]) i = if e.id = i ∧ 1 < e.kind then max (markB l i) e.num else markB l i := by simp [markB, List.foldl_append]
theorem nextB_snoc (l : List Ent) (e : Ent) (i num : Int) : nextB (l ++ [e]) i num = if e.id = i ∧ e.num = num ∧ e.kind = 1 then max (nextB l i num) (e.seq + 1) else nextB l i num := by simp [nextB, List.foldl_append]
theorem wr_high (l : List Ent) (i : Int) : (wrOf l i).high = highB l i := by
  induction l using snocInd with
  | h0 => rfl
  | hs l e ih =>
    rw [wrOf_snoc, highB_snoc]
    by_cases hi : e.id = i
    · rw [if_pos hi, if_pos hi, ← ih, ← gmax_eq]
      unfold Wr.step
      split <;> rfl
    · rw [if_neg hi, if_neg hi, ih]
theorem wr_marked (l : List Ent) (i : Int) : (∀ e ∈ l, 1 ≤ e.kind) → (wrOf l i).marked = markB l i := by
  induction l using snocInd with
  | h0 => intro _; rfl
  | hs l e ih =>
    intro hk
    have ih := ih (fun x hx => hk x (by simp [hx]))
    have he := hk e (by simp)
    rw [wrOf_snoc, markB_snoc]
    by_cases hi : e.id = i
    · rw [if_pos hi]
      unfold Wr.step
      by_cases h1 : e.kind ≠ 1
      · rw [if_pos h1, if_pos ⟨hi, by omega⟩, ← ih, ← gmax_eq]
      · have h2 : ¬ (e.id = i ∧ 1 < e.kind) := fun h => by have := h.2; omega
        rw [if_neg h1, if_neg h2, ← ih]
    · rw [if_neg hi, if_neg (fun h => hi h.1), ih]
theorem wr_next (l : List Ent) (i num : Int) : ((wrOf l i).next num).getD 0 = nextB l i num := by
  induction l using snocInd with
  | h0 => rfl
  | hs l e ih =>
    rw [wrOf_snoc, nextB_snoc]
    by_cases hi : e.id = i
    · rw [if_pos hi]
      unfold Wr.step
      by_cases h1 : e.kind ≠ 1
      · rw [if_pos h1, if_neg (fun h => h1 h.2.2), ← ih]
      · rw [if_neg h1]
        simp only [upd]
        by_cases hn : num = e.num
        · subst hn
          rw [if_pos rfl, if_pos ⟨hi, rfl, by omega⟩, ← ih, ← gmax_eq]; rfl
        · rw [if_neg hn, if_neg (fun h => hn h.2.1.symm), ih]
    · rw [if_neg hi, if_neg (fun h => hi h.1), ih]
theorem nextB_nonneg (l : List Ent) (i num : Int) : 0 ≤ nextB l i num := by
  induction l using snocInd with
  | h0 => exact Int.le_refl _
  | hs l e ih => rw [nextB_snoc]; split <;> omega
theorem highB_nonneg (l : List Ent) (i : Int) : 0 ≤ highB l i := by
  induction l using snocInd with
  | h0 => exact Int.le_refl _
  | hs l e ih => rw [highB_snoc]; split <;> omega
/-- The open transactions stand in the order of their first data. -/
theorem opensTo_sorted (l : List Ent) (i : Int) (p : List Ent) : (opensTo l i 0 p []).Pairwise (fun a b => a.first < b.first) ∧ ∀ o ∈ opensTo l i 0 p [], o.first < p.length := by
  induction p using snocInd with
  | h0 => exact ⟨List.Pairwise.nil, fun o ho => by cases ho⟩
  | hs p e ih =>
    obtain ⟨ih1, ih2⟩ := ih
    rw [opensTo_snoc]
    have hl : (p ++ [e]).length = p.length + 1 := by simp
    have ih3 : ∀ o ∈ opensTo l i 0 p [], o.first < ((p ++ [e]).length : Int) := fun o ho => by have := ih2 o ho; omega
    unfold openStep
    split
    · exact ⟨ih1, ih3⟩
    · split
      · exact ⟨ih1, ih3⟩
      · refine ⟨List.pairwise_append.2 ⟨ih1, List.pairwise_singleton _ _, fun a ha b hb => ?_⟩, fun o ho => ?_⟩
        · rw [List.mem_singleton] at hb; subst hb; have := ih2 a ha; simp; omega
        · rcases List.mem_append.1 ho with ho | ho
          · exact ih3 o ho
          · rw [List.mem_singleton] at ho; subst ho; simp; omega
theorem opensB_sorted (l : List Ent) (i : Int) : (opensB l i).Pairwise (fun a b => a.first < b.first) := (opensTo_sorted l i l).1
theorem firstOf_inj {l : List Ent} {i a b f : Int} (ha : firstOf l i a = some f) (hb : firstOf l i b = some f) : a = b := by
  unfold firstOf at ha hb
  cases h1 : l.findIdx? (dataB i a) with
  | none => rw [h1] at ha; cases ha
  | some n =>
    cases h2 : l.findIdx? (dataB i b) with
    | none => rw [h2] at hb; cases hb
    | some m =>
      rw [h1] at ha; rw [h2] at hb
      simp only [Option.map_some, Option.some.injEq] at ha hb
      obtain rfl : n = m := by omega
      obtain ⟨hn, p1, -⟩ := List.findIdx?_eq_some_iff_getElem.1 h1
      obtain ⟨hm, p2, -⟩ := List.findIdx?_eq_some_iff_getElem.1 h2
      simp only [dataB, Bool.and_eq_true, beq_iff_eq] at p1 p2
      omega
theorem sorted_uniq {α : Type} {f : α → Int} : ∀ {xs ys : List α}, xs.Pairwise (fun a b => f a < f b) → ys.Pairwise (fun a b => f a < f b) → (∀ x, x ∈ xs ↔ x ∈ ys) → xs = ys
  | [], [], _, _, _ => rfl
  | [], y :: ys, _, _, h => by have := (h y).2 (by simp); cases this
  | x :: xs, [], _, _, h => by have := (h x).1 (by simp); cases this
  | x :: xs, y :: ys, h1, h2, h => by
    obtain ⟨a1, b1⟩ := List.pairwise_cons.1 h1
    obtain ⟨a2, b2⟩ := List.pairwise_cons.1 h2
    have hxy : x = y := by
      have m1 := (h x).1 (by simp)
      have m2 := (h y).2 (by simp)
      rcases List.mem_cons.1 m1 with e | m1
      · exact e
      · rcases List.mem_cons.1 m2 with e | m2
        · exact e.symm
        · have := a1 y m2; have := a2 x m1; omega
    subst hxy
    congr 1
    refine sorted_uniq b1 b2 fun z => ⟨fun hz => ?_, fun hz => ?_⟩
    · rcases List.mem_cons.1 ((h z).1 (by simp [hz])) with e | m
      · subst e; have := a1 z hz; omega
      · exact m
    · rcases List.mem_cons.1 ((h z).2 (by simp [hz])) with e | m
      · subst e; have := a2 z hz; omega
      · exact m
/-- Keys in the order of their values are the document's list. -/
theorem keys_sorted {l : List Ent} (hk : ∀ e ∈ l, 1 ≤ e.kind) (i : Int) {xs : List Int} (hnd : xs.Nodup) (hm : ∀ n, n ∈ xs ↔ ((wrOf l i).opens n).isSome = true)
    (hs : xs.Pairwise (fun a b => ((wrOf l i).opens a).getD 0 ≤ ((wrOf l i).opens b).getD 0)) : xs.map (fun n => (⟨n, ((wrOf l i).opens n).getD 0⟩ : Opn)) = opensB l i := by
  refine sorted_uniq (f := (·.first)) ?_ (opensB_sorted l i) ?_
  · rw [List.pairwise_map]
    have h2 := List.pairwise_and_iff.2 ⟨hs, hnd⟩
    refine List.Pairwise.imp_of_mem ?_ h2
    rintro a b ha hb ⟨h, hne⟩
    obtain ⟨f, hf⟩ := Option.isSome_iff_exists.1 ((hm a).1 ha)
    obtain ⟨g, hg⟩ := Option.isSome_iff_exists.1 ((hm b).1 hb)
    rw [hf, hg] at h ⊢
    simp only [Option.getD_some] at h ⊢
    have : f ≠ g := by
      rintro rfl
      have p1 := ((mem_opensB l i ⟨a, f⟩).1 ((opens_iff hk i a f).1 hf)).2
      have p2 := ((mem_opensB l i ⟨b, f⟩).1 ((opens_iff hk i b f).1 hg)).2
      exact hne (firstOf_inj p1 p2)
    omega
  · rintro ⟨num, f⟩
    rw [← opens_iff hk, List.mem_map]
    constructor
    · rintro ⟨a, ha, he⟩
      obtain ⟨g, hg⟩ := Option.isSome_iff_exists.1 ((hm a).1 ha)
      cases he
      rw [hg]; rfl
    · intro h
      exact ⟨num, (hm num).2 (by rw [h]; rfl), by rw [h]; rfl⟩
end Go.Ws
namespace Go.Ws
open Go Go.RowKit Go.Proofs
set_option maxHeartbeats 2000000
set_option maxRecDepth 100000
set_option linter.unusedVariables false
set_option linter.unusedSimpArgs false
set_option pp.deepTerms true
set_option pp.maxSteps 100000000

abbrev RdO := Rd Opn.cs 2
/-- What the document says of an ID, as a value. -/
abbrev wrV (h n m : Int) (u : Value) : Value := .agg #[.int .i64 h, .int .i64 n, .int .i64 m, u]
def otherB (os : List Opn) (num : Int) : Bool := os.any fun o => o.num != num
/-- The cells of an api.Writer. -/
abbrev wrG (h n m : Int) (u : Value) : Nat → Value := fun k => (#[.int .i64 h, .int .i64 n, .int .i64 m, u] : Array Value).getD k undef
theorem wrG_put0 {W : World} {b : Nat} {E : TypeId} {h n m h' : Int} {u : Value} (B : Blk W b E 4 (put (wrG h n m u) 0 [.int .i64 h'])) : Blk W b E 4 (wrG h' n m u) := B.congr fun k hk => by
  rw [put_one]; obtain rfl | rfl | rfl | rfl : k = 0 ∨ k = 1 ∨ k = 2 ∨ k = 3 := by omega
  all_goals rfl
theorem wrG_put1 {W : World} {b : Nat} {E : TypeId} {h n m h' : Int} {u : Value} (B : Blk W b E 4 (put (wrG h n m u) 1 [.int .i64 h'])) : Blk W b E 4 (wrG h h' m u) := B.congr fun k hk => by
  rw [put_one]; obtain rfl | rfl | rfl | rfl : k = 0 ∨ k = 1 ∨ k = 2 ∨ k = 3 := by omega
  all_goals rfl
theorem wrG_put2 {W : World} {b : Nat} {E : TypeId} {h n m h' : Int} {u : Value} (B : Blk W b E 4 (put (wrG h n m u) 2 [.int .i64 h'])) : Blk W b E 4 (wrG h n h' u) := B.congr fun k hk => by
  rw [put_one]; obtain rfl | rfl | rfl | rfl : k = 0 ∨ k = 1 ∨ k = 2 ∨ k = 3 := by omega
  all_goals rfl
/-- Its cells, read. -/
theorem Blk.wr {W : World} {b : Nat} {E : TypeId} {h n m : Int} {u : Value} (B : Blk W b E 4 (wrG h n m u)) : b < W.heap.size ∧ W.cell? ⟨b, 0, none⟩ = some (.int .i64 h) ∧ W.cell? ⟨b, 1, none⟩ = some (.int .i64 n) ∧ W.cell? ⟨b, 2, none⟩ = some (.int .i64 m) ∧ W.cell? ⟨b, 3, none⟩ = some u :=
  ⟨B.lt, B.cell (k := 0) (by omega), B.cell (k := 1) (by omega), B.cell (k := 2) (by omega), B.cell (k := 3) (by omega)⟩
theorem slice_of1 {W : World} {α : Type} {en : α → List Value} {k : Nat} {v : Value} {xs : List α} (h : Rd en k W v xs) : ∃ A n c, v = .slice A n c := by obtain ⟨A, c, h, _⟩ := h; exact ⟨_, _, _, h⟩
theorem highB_take {l : List Ent} {k : Nat} {e : Ent} (id : Int) (h : l[k]? = some e) : highB (l.take (k + 1)) id = if e.id = id then max (highB (l.take k) id) e.num else highB (l.take k) id := by rw [take_snoc h, highB_snoc]
theorem markB_take {l : List Ent} {k : Nat} {e : Ent} (id : Int) (h : l[k]? = some e) : markB (l.take (k + 1)) id = if e.id = id ∧ 1 < e.kind then max (markB (l.take k) id) e.num else markB (l.take k) id := by rw [take_snoc h, markB_snoc]
theorem nextB_take {l : List Ent} {k : Nat} {e : Ent} (id num : Int) (h : l[k]? = some e) : nextB (l.take (k + 1)) id num = if e.id = id ∧ e.num = num ∧ e.kind = 1 then max (nextB (l.take k) id num) (e.seq + 1) else nextB (l.take k) id num := by rw [take_snoc h, nextB_snoc]
abbrev Opn.v (o : Opn) : Value := .agg #[.int .i64 o.num, .int .i64 o.first]
end Go.Ws
namespace Go.Ws
open Go Go.RowKit Go.Proofs
set_option maxHeartbeats 2000000
set_option maxRecDepth 100000
set_option linter.unusedVariables false
set_option linter.unusedSimpArgs false
set_option pp.deepTerms true
set_option pp.maxSteps 100000000

/-- Behind Append: what the writer says. -/
def wrNo (H N M : Int) (O : Bool) (e : Ent) : Int :=
  if 1 < e.kind then (if e.num ≤ M then 183 else if e.num < H then 181 else if O = true then 181 else 0)
  else if e.num ≤ M then 181 else if e.num < H then 181 else if O = true then 182
  else if e.num = H then (if e.seq < N then 183 else if N < e.seq then 184 else 0)
  else (if e.seq < 0 then 183 else if 0 < e.seq then 184 else 0)
theorem wrNo_cases {H N M : Int} {O : Bool} {e : Ent} {r : Int} (h : wrNo H N M O e = r) :
    (1 < e.kind ∧ e.num ≤ M ∧ r = 183) ∨ (1 < e.kind ∧ ¬ e.num ≤ M ∧ e.num < H ∧ r = 181) ∨ (1 < e.kind ∧ ¬ e.num ≤ M ∧ ¬ e.num < H ∧ O = true ∧ r = 181) ∨ (1 < e.kind ∧ ¬ e.num ≤ M ∧ ¬ e.num < H ∧ O = false ∧ r = 0) ∨
    (¬ 1 < e.kind ∧ e.num ≤ M ∧ r = 181) ∨ (¬ 1 < e.kind ∧ ¬ e.num ≤ M ∧ e.num < H ∧ r = 181) ∨ (¬ 1 < e.kind ∧ ¬ e.num ≤ M ∧ ¬ e.num < H ∧ O = true ∧ r = 182) ∨
    (¬ 1 < e.kind ∧ ¬ e.num ≤ M ∧ ¬ e.num < H ∧ O = false ∧ e.num = H ∧ e.seq < N ∧ r = 183) ∨ (¬ 1 < e.kind ∧ ¬ e.num ≤ M ∧ ¬ e.num < H ∧ O = false ∧ e.num = H ∧ ¬ e.seq < N ∧ N < e.seq ∧ r = 184) ∨ (¬ 1 < e.kind ∧ ¬ e.num ≤ M ∧ ¬ e.num < H ∧ O = false ∧ e.num = H ∧ ¬ e.seq < N ∧ ¬ N < e.seq ∧ r = 0) ∨
    (¬ 1 < e.kind ∧ ¬ e.num ≤ M ∧ ¬ e.num < H ∧ O = false ∧ e.num ≠ H ∧ e.seq < 0 ∧ r = 183) ∨ (¬ 1 < e.kind ∧ ¬ e.num ≤ M ∧ ¬ e.num < H ∧ O = false ∧ e.num ≠ H ∧ ¬ e.seq < 0 ∧ 0 < e.seq ∧ r = 184) ∨ (¬ 1 < e.kind ∧ ¬ e.num ≤ M ∧ ¬ e.num < H ∧ O = false ∧ e.num ≠ H ∧ ¬ e.seq < 0 ∧ ¬ 0 < e.seq ∧ r = 0) := by
  subst h
  unfold wrNo
  by_cases h1 : 1 < e.kind
  · by_cases h2 : e.num ≤ M
    · exact .inl ⟨h1, h2, by rw [if_pos h1, if_pos h2]⟩
    · by_cases h3 : e.num < H
      · exact .inr (.inl ⟨h1, h2, h3, by rw [if_pos h1, if_neg h2, if_pos h3]⟩)
      · rcases Bool.eq_false_or_eq_true O with hO | hO
        · exact .inr (.inr (.inl ⟨h1, h2, h3, hO, by rw [if_pos h1, if_neg h2, if_neg h3, if_pos hO]⟩))
        · exact .inr (.inr (.inr (.inl ⟨h1, h2, h3, hO, by rw [if_pos h1, if_neg h2, if_neg h3, if_neg (by simp [hO])]⟩)))
  · by_cases h2 : e.num ≤ M
    · exact .inr (.inr (.inr (.inr (.inl ⟨h1, h2, by rw [if_neg h1, if_pos h2]⟩))))
    · by_cases h3 : e.num < H
      · exact .inr (.inr (.inr (.inr (.inr (.inl ⟨h1, h2, h3, by rw [if_neg h1, if_neg h2, if_pos h3]⟩)))))
      · rcases Bool.eq_false_or_eq_true O with hO | hO
        · exact .inr (.inr (.inr (.inr (.inr (.inr (.inl ⟨h1, h2, h3, hO, by rw [if_neg h1, if_neg h2, if_neg h3, if_pos hO]⟩))))))
        · by_cases h4 : e.num = H
          · by_cases h5 : e.seq < N
            · exact .inr (.inr (.inr (.inr (.inr (.inr (.inr (.inl ⟨h1, h2, h3, hO, h4, h5, by rw [if_neg h1, if_neg h2, if_neg h3, if_neg (by simp [hO]), if_pos h4, if_pos h5]⟩)))))))
            · by_cases h6 : N < e.seq
              · exact .inr (.inr (.inr (.inr (.inr (.inr (.inr (.inr (.inl ⟨h1, h2, h3, hO, h4, h5, h6, by rw [if_neg h1, if_neg h2, if_neg h3, if_neg (by simp [hO]), if_pos h4, if_neg h5, if_pos h6]⟩))))))))
              · exact .inr (.inr (.inr (.inr (.inr (.inr (.inr (.inr (.inr (.inl ⟨h1, h2, h3, hO, h4, h5, h6, by rw [if_neg h1, if_neg h2, if_neg h3, if_neg (by simp [hO]), if_pos h4, if_neg h5, if_neg h6]⟩)))))))))
          · by_cases h7 : e.seq < 0
            · exact .inr (.inr (.inr (.inr (.inr (.inr (.inr (.inr (.inr (.inr (.inl ⟨h1, h2, h3, hO, h4, h7, by rw [if_neg h1, if_neg h2, if_neg h3, if_neg (by simp [hO]), if_neg h4, if_pos h7]⟩))))))))))
            · by_cases h8 : 0 < e.seq
              · exact .inr (.inr (.inr (.inr (.inr (.inr (.inr (.inr (.inr (.inr (.inr (.inl ⟨h1, h2, h3, hO, h4, h7, h8, by rw [if_neg h1, if_neg h2, if_neg h3, if_neg (by simp [hO]), if_neg h4, if_neg h7, if_pos h8]⟩)))))))))))
              · exact .inr (.inr (.inr (.inr (.inr (.inr (.inr (.inr (.inr (.inr (.inr (.inr (⟨h1, h2, h3, hO, h4, h7, h8, by rw [if_neg h1, if_neg h2, if_neg h3, if_neg (by simp [hO]), if_neg h4, if_neg h7, if_neg h8]⟩))))))))))))
/-- The document's Check. -/
def checkNo (l : List Ent) (e : Ent) : Int :=
  if appendNo l e ≠ 0 then appendNo l e else if e.id < 0 then 0
  else wrNo (highB l e.id) (nextB l e.id (highB l e.id)) (markB l e.id) (otherB (opensB l e.id) e.num) e
end Go.Ws
namespace Go.Ws
open Go Go.RowKit Go.Proofs
set_option maxHeartbeats 2000000
set_option maxRecDepth 100000
set_option linter.unusedVariables false
set_option linter.unusedSimpArgs false
set_option pp.deepTerms true
set_option pp.maxSteps 100000000

theorem check_core {b : Nat} {w : World} {u : Value} {l : List Ent} {m0 m1 : Nat} (hS : Seen w b u l) (e : Ent) (hno : appendNo l e = 0) {i : Nat} (hid : e.id = i) (hi : i < 4) (hat : WrAt w b (1 + i * 5) (wrOf l i) m0 m1) (cond : Nat → Bool) (r : Int)
    (hw : ∀ k p, (rules (e.kind == 1))[k]? = some p → (p.2 = 0 ↔ False) ∧ (∃ fn, Try.prog.funcs[p.1]? = some fn ∧ callable fn = true) ∧ ∀ w', Ext w w' → WhyP p.1 b (1 + i * 5) e w' (cond k))
    (h1 : ∀ k p, (rules (e.kind == 1))[k]? = some p → (∀ j, j < k → cond j = false) → cond k = true → r = p.2) (h0 : (∀ j, j < (rules (e.kind == 1)).length → cond j = false) → r = 0) :
    Pure Try.prog 29 #[.pointer (some ⟨b, 0, none⟩), e.v] w (.int .i64 r) := by
  obtain ⟨ep, eid, enum, eseq, ekind, eval⟩ := e
  simp only at hid
  subst hid
  have HW := Lib.hid hw
  have H1 := Lib.hid h1
  have H0 := Lib.hid h0
  have hbl := hS.1
  have hi4 : (i : Int) < 4 := by omega
  have hii : ¬ (i : Int) < 0 := by omega
  have hmay := Lib.hid (fun w' (hE : Ext w w') => (hno ▸ may_calls (hS.later hE) (⟨ep, (i : Int), enum, eseq, ekind, eval⟩ : Ent) : Pure Try.prog 41 #[.pointer (some ⟨b, 0, none⟩), (⟨ep, (i : Int), enum, eseq, ekind, eval⟩ : Ent).v] w' (.int .i64 0)))
  clear hw h1 h0 hS hno hat
  simp only at HW H1 H0
  generalize hdt : (ekind == 1) = data at *
  refine Fn_of Try.func29 rfl (Nat.le_of_ble_eq_true rfl) ?_; intro A hd hA; simp only [ix, Nat.reduceAdd]; replace hA : A.tmps.size = 41 := hA
  repeat' (first | refine X_pure Try.func41 (hmay.out _ (by simp)) ?_ | refine X_gpure Try.func41 (fun _ => hmay.out _ (by simp)) ?_ | (refine W_label ?_) | (refine W_scope ?_) | refine X_gt ?_ | refine X_q ?_ | refine X_g ?_ | refine X_gf ?_ | refine X_niln ?_ | refine X_nil ?_ | (refine X_var (fun yn bn hn1 hn2 hn3 hn4 hn5 => ?_)) | refine W_seqk (fun K hK => ?_) | refine W_seqr ?_ | refine W_ret ?_ | refine W_skip ?_ | refine W_block ?_ | refine W_exit ?_ | (refine X_s (fun x K hK => ?_); go_simp; refine hK _ _ (Ext.alloc _ _) ?_; clear hK K; refine X_al x ?_; generalize (World.later _ x).heap.size = bn; intro yn hn1 hn2 hn3 hn4 hn5; clear x) | refine W_tt ?_ | refine W_ff ?_ | refine W_test (fun hc => ?_) (fun hc => ?_) | go_step)
  rename Nat => be
  rename Later w => ye
  have ge : Blk (w.later ye) be 40 6 _ := Blk.new hn5.out
  clear hn3 hn4 hn5
  refine X_ret Try.func42 (refuses_calls data) (fun v' w1 hR => ?_)
  obtain ⟨hE1, g, rfl, hg, hrules⟩ := hR
  have GE := Lib.hid (ge.later hE1)
  have HE1 := Lib.hid (Ext.trans ye.2 hE1)
  have HR := Lib.hid hrules
  have hbe : be < w1.heap.size := by have := hE1.size; have : (w.later ye).heap.size ≤ w1.heap.size := this; omega
  clear hE1 hrules ge
  repeat' (first | refine X_gt ?_ | refine X_q ?_ | refine X_g ?_ | refine X_gf ?_ | refine X_niln ?_ | refine X_nil ?_ | (refine X_var (fun yn bn hn1 hn2 hn3 hn4 hn5 => ?_)) | refine W_seqk (fun K hK => ?_) | refine W_seqr ?_ | refine W_ret ?_ | refine W_skip ?_ | refine W_block ?_ | refine W_exit ?_ | (refine X_s (fun x K hK => ?_); go_simp; refine hK _ _ (Ext.alloc _ _) ?_; clear hK K; refine X_al x ?_; generalize (World.later _ x).heap.size = bn; intro yn hn1 hn2 hn3 hn4 hn5; clear x) | refine W_tt ?_ | refine W_ff ?_ | refine W_test (fun hc => ?_) (fun hc => ?_) | go_step)
  have hlen : (rules data).length ≤ 4 := by cases data <;> simp [rules]
  refine W_loops [0, 3, 5, 22, 23, 24] (fun n vs W => ∃ k : Nat, Ext w1 W ∧ k + n = (rules data).length ∧ vs = [.pointer (some ⟨b, 0, none⟩), .pointer (some ⟨be, 0, none⟩), .int .i64 0, .slice (some ⟨g, 0, none⟩) (rules data).length (rules data).length, .int .i64 (rules data).length, .int .i64 k] ∧
    ∀ j, j < k → cond j = false) (rules data).length hd hA (by decide) ⟨0, Ext.refl _, by omega, by simp, by intro j hj; omega⟩ ?_
  clear hd hA A; intro n2 vs B W hd hA _ ⟨k, hE, hk, hvs, hc0⟩; subst hvs
  simp only [List.zip_cons_cons, List.zip_nil_right, List.zip_nil_left]
  have HC := Lib.hid hc0
  have hEw := Ext.trans HE1.out hE
  obtain ⟨t0, t1, t2, t3, t4, t5⟩ : W.cell? ⟨be, 0, none⟩ = some (.int .i64 ep) ∧ W.cell? ⟨be, 1, none⟩ = some (.int .i64 i) ∧ W.cell? ⟨be, 2, none⟩ = some (.int .i64 enum) ∧ W.cell? ⟨be, 3, none⟩ = some (.int .i64 eseq) ∧ W.cell? ⟨be, 4, none⟩ = some (.int .i64 ekind) ∧ W.cell? ⟨be, 5, none⟩ = some (.int .i64 eval) := by
    have G := GE.out.later hE
    exact ⟨G.cell (k := 0) (by omega), G.cell (k := 1) (by omega), G.cell (k := 2) (by omega), G.cell (k := 3) (by omega), G.cell (k := 4) (by omega), G.cell (k := 5) (by omega)⟩
  have hbeW : be < W.heap.size := Nat.lt_of_lt_of_le hbe hE.size
  have hbW : b < W.heap.size := Nat.lt_of_lt_of_le hbl hEw.size
  have hgW : g < W.heap.size := Nat.lt_of_lt_of_le hg hE.size
  by_cases hlt : k < (rules data).length
  · obtain ⟨p, hp⟩ : ∃ p, (rules data)[k]? = some p := ⟨_, List.getElem?_eq_getElem hlt⟩
    obtain ⟨v, hv, hrule⟩ := HR.out k p hp
    obtain ⟨a, c, rfl, ha, hc, ha2, hc2⟩ := hrule.later hE
    have hvW : W.cell? ⟨g, k, none⟩ = some (.func (.func 56) #[] #[.pointer (some ⟨a, 0, none⟩), .pointer (some ⟨c, 0, none⟩)]) := by rw [cell?_mod hE hg (fun h => h)]; exact hv
    obtain ⟨hp0, ⟨fn, hfn, hcall⟩, hwhy⟩ := HW.out k p hp
    have hki : (k : Int) < (rules data).length := by omega
    have HEW := Lib.hid hE
    have HEw := Lib.hid hEw
    have hpure := Lib.hid (fun W' (hEE : Ext W W') => rule_calls (w := W') (E := p.2) (b := b) (o := 1 + i * 5) (e := ⟨ep, (i : Int), enum, eseq, ekind, eval⟩) (v := cond k) hfn hcall (Nat.lt_of_lt_of_le ha hEE.size) (Nat.lt_of_lt_of_le hc hEE.size)
      (by rw [cell?_mod hEE ha (fun h => h)]; exact ha2) (by rw [cell?_mod hEE hc (fun h => h)]; exact hc2) (fun w' hw' => hwhy w' (Ext.trans hEw (Ext.trans hEE hw'))))
    clear hE hEw hv hrule hwhy hfn hcall ha2 hc2 hc0
    refine W_seqk (fun K hK => ?_)
    repeat' (first | refine X_gt ?_ | refine X_q ?_ | refine X_g ?_ | refine X_gf ?_ | refine X_niln ?_ | refine X_nil ?_ | (refine X_var (fun yn bn hn1 hn2 hn3 hn4 hn5 => ?_)) | refine W_seqk (fun K hK => ?_) | refine W_seqr ?_ | refine W_ret ?_ | refine W_skip ?_ | refine W_block ?_ | refine W_exit ?_ | (refine X_s (fun x K hK => ?_); go_simp; refine hK _ _ (Ext.alloc _ _) ?_; clear hK K; refine X_al x ?_; generalize (World.later _ x).heap.size = bn; intro yn hn1 hn2 hn3 hn4 hn5; clear x) | refine W_tt ?_ | refine W_ff ?_ | refine W_test (fun hc => ?_) (fun hc => ?_) | go_step)
    refine W_draw (by kernel_rfl) (by kernel_rfl) ?_
    repeat' (first | refine X_gt ?_ | refine X_q ?_ | refine X_g ?_ | refine X_gf ?_ | refine X_niln ?_ | refine X_nil ?_ | (refine X_var (fun yn bn hn1 hn2 hn3 hn4 hn5 => ?_)) | refine W_seqk (fun K hK => ?_) | refine W_seqr ?_ | refine W_ret ?_ | refine W_skip ?_ | refine W_block ?_ | refine W_exit ?_ | (refine X_s (fun x K hK => ?_); go_simp; refine hK _ _ (Ext.alloc _ _) ?_; clear hK K; refine X_al x ?_; generalize (World.later _ x).heap.size = bn; intro yn hn1 hn2 hn3 hn4 hn5; clear x) | refine W_tt ?_ | refine W_ff ?_ | refine W_test (fun hc => ?_) (fun hc => ?_) | go_step)
    refine X_valret (lv := [.pointer (some ⟨b, 1 + i * 5, none⟩), (⟨ep, (i : Int), enum, eseq, ekind, eval⟩ : Ent).v]) (first := #[]) (captured := #[.pointer (some ⟨a, 0, none⟩), .pointer (some ⟨c, 0, none⟩)]) Try.func56 (hpure.out _ (by simp)) (fun v' w2 hR => ?_)
    obtain ⟨rfl, hE2⟩ := hR
    have HE2 := Lib.hid (Ext.trans HEW.out (Ext.trans (by simp) hE2))
    have HE2w := Lib.hid (Ext.trans HEw.out (Ext.trans (by simp) hE2))
    clear hE2
    cases hck : cond k
    · simp only [hck, Bool.false_eq_true, if_false]
      repeat' (first | refine X_gt ?_ | refine X_q ?_ | refine X_g ?_ | refine X_gf ?_ | refine X_niln ?_ | refine X_nil ?_ | (refine X_var (fun yn bn hn1 hn2 hn3 hn4 hn5 => ?_)) | refine W_seqk (fun K hK => ?_) | refine W_seqr ?_ | refine W_ret ?_ | refine W_skip ?_ | refine W_block ?_ | refine W_exit ?_ | (refine X_s (fun x K hK => ?_); go_simp; refine hK _ _ (Ext.alloc _ _) ?_; clear hK K; refine X_al x ?_; generalize (World.later _ x).heap.size = bn; intro yn hn1 hn2 hn3 hn4 hn5; clear x) | refine W_tt ?_ | refine W_ff ?_ | refine W_test (fun hc => ?_) (fun hc => ?_) | go_step)
      refine ⟨_, _, rfl, hd, hA, n2 - 1, by omega, k + 1, HE2.out, by omega, by simp, fun j hj => ?_⟩
      by_cases hjk : j = k
      · rw [hjk]; exact hck
      · exact HC.out j (by omega)
    · simp only [hck, if_true]
      have hp2 : p.2 ≠ 0 := fun h => (hp0.1 h)
      have hres := H1.out k p hp HC.out hck
      rw [hres]
      have hb2 : (p.2 == 0) = false := by simpa using hp2
      generalize p.2 = E at *
      repeat' (first | refine X_gt ?_ | refine X_q ?_ | refine X_g ?_ | refine X_gf ?_ | refine X_niln ?_ | refine X_nil ?_ | (refine X_var (fun yn bn hn1 hn2 hn3 hn4 hn5 => ?_)) | refine W_seqk (fun K hK => ?_) | refine W_seqr ?_ | refine W_ret ?_ | refine W_skip ?_ | refine W_block ?_ | refine W_exit ?_ | (refine X_s (fun x K hK => ?_); go_simp; refine hK _ _ (Ext.alloc _ _) ?_; clear hK K; refine X_al x ?_; generalize (World.later _ x).heap.size = bn; intro yn hn1 hn2 hn3 hn4 hn5; clear x) | refine W_tt ?_ | refine W_ff ?_ | refine W_test (fun hc => ?_) (fun hc => ?_) | go_step)
      · exact Body_ret hd ⟨rfl, HE2w.out⟩
      · exact absurd (by simpa using hc) hp2
  · obtain rfl : k = (rules data).length := by omega
    have hr0 := H0.out HC.out
    subst hr0
    have HEw := Lib.hid hEw
    clear hE hEw
    repeat' (first | refine X_gt ?_ | refine X_q ?_ | refine X_g ?_ | refine X_gf ?_ | refine X_niln ?_ | refine X_nil ?_ | (refine X_var (fun yn bn hn1 hn2 hn3 hn4 hn5 => ?_)) | refine W_seqk (fun K hK => ?_) | refine W_seqr ?_ | refine W_ret ?_ | refine W_skip ?_ | refine W_block ?_ | refine W_exit ?_ | (refine X_s (fun x K hK => ?_); go_simp; refine hK _ _ (Ext.alloc _ _) ?_; clear hK K; refine X_al x ?_; generalize (World.later _ x).heap.size = bn; intro yn hn1 hn2 hn3 hn4 hn5; clear x) | refine W_tt ?_ | refine W_ff ?_ | refine W_test (fun hc => ?_) (fun hc => ?_) | go_step)
    exact Body_ret hd ⟨rfl, HEw.out⟩

/-! ### Check answers as the document's -/
theorem nums_high (l : List Ent) (i : Int) : ∀ e ∈ l, e.id = i → e.num ≤ highB l i := by
  induction l using snocInd with
  | h0 => intro e he; cases he
  | hs l x ih =>
    intro e he hi
    rw [highB_snoc]
    rcases List.mem_append.1 he with he | he
    · have := ih e he hi
      split <;> omega
    · rw [List.mem_singleton] at he; subst he; rw [if_pos hi]; omega
theorem nextB_above (l : List Ent) (i num : Int) (h : ∀ e ∈ l, e.id = i → e.num < num) : nextB l i num = 0 := by
  induction l using snocInd with
  | h0 => rfl
  | hs l x ih =>
    rw [nextB_snoc, if_neg, ih (fun e he => h e (by simp [he]))]
    rintro ⟨h1, h2, -⟩
    have := h x (by simp) h1
    omega
theorem otherB_iff {l : List Ent} (hk : ∀ e ∈ l, 1 ≤ e.kind) (i num : Int) : otherB (opensB l i) num = true ↔ ∃ n, ((wrOf l i).opens n).isSome = true ∧ n ≠ num := by
  unfold otherB
  rw [List.any_eq_true]
  constructor
  · rintro ⟨o, ho, hne⟩
    exact ⟨o.num, Option.isSome_iff_exists.2 ⟨o.first, (opens_iff hk i o.num o.first).2 ho⟩, by simpa using hne⟩
  · rintro ⟨n, hn, hne⟩
    obtain ⟨f, hf⟩ := Option.isSome_iff_exists.1 hn
    exact ⟨⟨n, f⟩, (opens_iff hk i n f).1 hf, by simpa using hne⟩
theorem wrNo_data {H N M nx : Int} {O : Bool} {e : Ent} (hk : ¬ 1 < e.kind) (hnx : ¬ e.num < H → nx = if e.num = H then N else 0) :
    wrNo H N M O e = if (decide (e.num ≤ M) || decide (e.num < H)) = true then 181 else if O = true then 182 else if decide (e.seq < nx) = true then 183 else if decide (nx < e.seq) = true then 184 else 0 := by
  unfold wrNo
  rw [if_neg hk]
  by_cases h1 : e.num ≤ M
  · rw [if_pos h1, if_pos (by simp [h1])]
  · rw [if_neg h1]
    by_cases h2 : e.num < H
    · rw [if_pos h2, if_pos (by simp [h2])]
    · have hd : ¬ ((decide (e.num ≤ M) || decide (e.num < H)) = true) := by simp [h1, h2]
      rw [if_neg h2, if_neg hd, hnx h2]
      cases O
      · simp only [Bool.false_eq_true, if_false, decide_eq_true_eq]
        by_cases h3 : e.num = H
        · simp only [if_pos h3]
        · simp only [if_neg h3]
      · rw [if_pos rfl, if_pos rfl]
theorem wrNo_mark {H N M : Int} {O : Bool} {e : Ent} (hk : 1 < e.kind) :
    wrNo H N M O e = if decide (e.num ≤ M) = true then 183 else if (decide (e.num < H) || O) = true then 181 else 0 := by
  unfold wrNo
  rw [if_pos hk]
  by_cases h1 : e.num ≤ M
  · simp [h1]
  · by_cases h2 : e.num < H
    · simp [h1, h2]
    · cases O <;> simp [h1, h2]
theorem tabCheck_calls {b : Nat} {w : World} {F : Nat → Prop} {l : List Ent} (h : Tab w b F l) (hok : ofNo l = 0) (e : Ent) : Pure Try.prog 29 #[.pointer (some ⟨b, 0, none⟩), e.v] w (.int .i64 (checkNo l e)) := by
  obtain ⟨u, mb, g, h, hF⟩ := h
  have hS := h.seen
  by_cases hno : appendNo l e = 0
  · by_cases hid : e.id < 0
    · have hck : checkNo l e = 0 := by unfold checkNo; rw [if_neg (by simpa using hno), if_pos hid]
      rw [hck]
      have HS := Lib.hid hS
      have HNO := Lib.hid hno
      clear h hF hS hno hck
      refine Fn_of Try.func29 rfl (Nat.le_of_ble_eq_true rfl) ?_; intro A hd hA; simp only [ix, Nat.reduceAdd]; replace hA : A.tmps.size = 41 := hA
      repeat' (first | refine X_pure Try.func41 (HNO.out ▸ may_calls (HS.out.later (by simp)) e) ?_ | refine X_gpure Try.func41 (fun _ => HNO.out ▸ may_calls (HS.out.later (by simp)) e) ?_ | (refine W_scope ?_) | refine X_gt ?_ | refine X_q ?_ | refine X_g ?_ | refine X_gf ?_ | refine X_niln ?_ | refine X_nil ?_ | (refine X_var (fun yn bn hn1 hn2 hn3 hn4 hn5 => ?_)) | refine W_seqk (fun K hK => ?_) | refine W_seqr ?_ | refine W_ret ?_ | refine W_skip ?_ | refine W_block ?_ | refine W_exit ?_ | (refine X_s (fun x K hK => ?_); go_simp; refine hK _ _ (Ext.alloc _ _) ?_; clear hK K; refine X_al x ?_; generalize (World.later _ x).heap.size = bn; intro yn hn1 hn2 hn3 hn4 hn5; clear x) | refine W_tt ?_ | refine W_ff ?_ | refine W_test (fun hc => ?_) (fun hc => ?_) | go_step)
      exact Body_ret hd ⟨rfl, by simp⟩
    · have hrb := right_bounds (of_no hno).1
      obtain ⟨i, hi⟩ : ∃ i : Nat, e.id = i := ⟨e.id.toNat, by omega⟩
      have hi4 : i < 4 := by omega
      have hat : WrAt w b (1 + i * 5) (wrOf l i) (mb i 0) (mb i 1) :=
        ⟨h.blk.lt, (h.blk.cell (by omega)).trans (by rw [h.high i hi4]), (h.blk.cell (by omega)).trans (by rw [h.marked i hi4]), (h.blk.cell (by omega)).trans (by rw [h.next i hi4]), (h.blk.cell (by omega)).trans (by rw [h.opens i hi4]), h.mnext i hi4, h.mopens i hi4⟩
      have hkd := kinds_of hok
      have hob := otherB_iff hkd i e.num
      have hck : checkNo l e = wrNo (wrOf l i).high (nextB l i (wrOf l i).high) (wrOf l i).marked (otherB (opensB l i) e.num) e := by
        unfold checkNo; rw [if_neg (by simpa using hno), if_neg hid, hi, wr_high, wr_marked l i hkd]
      have hnx : ¬ e.num < (wrOf l i).high → ((wrOf l i).next e.num).getD 0 = if e.num = (wrOf l i).high then nextB l i (wrOf l i).high else 0 := by
        intro hlt
        rw [wr_next]
        split
        · rename_i hh; rw [hh]
        · rename_i hh
          refine nextB_above l i e.num fun x hx hxi => ?_
          have := nums_high l i x hx hxi
          rw [wr_high] at hlt hh
          omega
      generalize hO : otherB (opensB l i) e.num = ob at *
      by_cases hk : e.kind = 1
      · have hkb : (e.kind == 1) = true := by simp [hk]
        rw [wrNo_data (by omega) hnx] at hck
        refine check_core hS e hno hi hi4 hat (fun k => match k with | 0 => (decide (e.num ≤ (wrOf l i).marked) || decide (e.num < (wrOf l i).high)) | 1 => ob | 2 => decide (e.seq < ((wrOf l i).next e.num).getD 0) | _ => decide (((wrOf l i).next e.num).getD 0 < e.seq)) _ ?_ ?_ ?_
        · rw [hkb]
          intro k p hp
          match k, hp with
          | 0, hp => cases hp; exact ⟨by decide, ⟨_, Try.func60, by kernel_rfl⟩, fun w' hE => why100 (hat.later hE) e⟩
          | 1, hp => cases hp; exact ⟨by decide, ⟨_, Try.func61, by kernel_rfl⟩, fun w' hE => why101 (hat.later hE) e ob hob⟩
          | 2, hp => cases hp; exact ⟨by decide, ⟨_, Try.func62, by kernel_rfl⟩, fun w' hE => why102 (hat.later hE) e⟩
          | 3, hp => cases hp; exact ⟨by decide, ⟨_, Try.func63, by kernel_rfl⟩, fun w' hE => why103 (hat.later hE) e⟩
        · rw [hkb, hck]
          intro k p hp hj hc
          match k, hp with
          | 0, hp => cases hp; exact if_pos hc
          | 1, hp => cases hp; have c0 := hj 0 (by omega); simp only at c0 hc; rw [if_neg (by simp [c0]), if_pos hc]
          | 2, hp => cases hp; have c0 := hj 0 (by omega); have c1 := hj 1 (by omega); simp only at c0 c1 hc; rw [if_neg (by simp [c0]), if_neg (by simp [c1]), if_pos hc]
          | 3, hp => cases hp; have c0 := hj 0 (by omega); have c1 := hj 1 (by omega); have c2 := hj 2 (by omega); simp only at c0 c1 c2 hc; rw [if_neg (by simp [c0]), if_neg (by simp [c1]), if_neg (by rw [c2]; simp), if_pos hc]
        · rw [hkb, hck]
          intro hj
          have c0 := hj 0 (by simp [rules]); have c1 := hj 1 (by simp [rules]); have c2 := hj 2 (by simp [rules]); have c3 := hj 3 (by simp [rules]); simp only at c0 c1 c2 c3
          rw [if_neg (by simp [c0]), if_neg (by simp [c1]), if_neg (by rw [c2]; simp), if_neg (by rw [c3]; simp)]
      · have hkb : (e.kind == 1) = false := by simp [hk]
        rw [wrNo_mark (by omega)] at hck
        refine check_core hS e hno hi hi4 hat (fun k => match k with | 0 => decide (e.num ≤ (wrOf l i).marked) | _ => (decide (e.num < (wrOf l i).high) || ob)) _ ?_ ?_ ?_
        · rw [hkb]
          intro k p hp
          match k, hp with
          | 0, hp => cases hp; exact ⟨by decide, ⟨_, Try.func57, by kernel_rfl⟩, fun w' hE => why97 (hat.later hE) e⟩
          | 1, hp => cases hp; exact ⟨by decide, ⟨_, Try.func58, by kernel_rfl⟩, fun w' hE => why98 (hat.later hE) e ob hob⟩
        · rw [hkb, hck]
          intro k p hp hj hc
          match k, hp with
          | 0, hp => cases hp; exact if_pos hc
          | 1, hp => cases hp; have c0 := hj 0 (by omega); simp only at c0 hc; rw [if_neg (by rw [c0]; simp), if_pos hc]
        · rw [hkb, hck]
          intro hj
          have c0 := hj 0 (by simp [rules]); have c1 := hj 1 (by simp [rules]); simp only at c0 c1
          rw [if_neg (by rw [c0]; simp), if_neg (by simp [c1])]
  · have hck : checkNo l e = appendNo l e := by unfold checkNo; rw [if_pos hno]
    rw [hck]
    have HS := Lib.hid hS
    have HM := Lib.hid (fun w' (hE : Ext w w') => may_calls (hS.later hE) e)
    clear h hF hS hck
    generalize appendNo l e = no at *
    refine Fn_of Try.func29 rfl (Nat.le_of_ble_eq_true rfl) ?_; intro A hd hA; simp only [ix, Nat.reduceAdd]; replace hA : A.tmps.size = 41 := hA
    repeat' (first | refine X_pure Try.func41 (HM.out _ (by simp)) ?_ | refine X_gpure Try.func41 (fun _ => HM.out _ (by simp)) ?_ | (refine W_scope ?_) | refine X_gt ?_ | refine X_q ?_ | refine X_g ?_ | refine X_gf ?_ | refine X_niln ?_ | refine X_nil ?_ | (refine X_var (fun yn bn hn1 hn2 hn3 hn4 hn5 => ?_)) | refine W_seqk (fun K hK => ?_) | refine W_seqr ?_ | refine W_ret ?_ | refine W_skip ?_ | refine W_block ?_ | refine W_exit ?_ | (refine X_s (fun x K hK => ?_); go_simp; refine hK _ _ (Ext.alloc _ _) ?_; clear hK K; refine X_al x ?_; generalize (World.later _ x).heap.size = bn; intro yn hn1 hn2 hn3 hn4 hn5; clear x) | refine W_tt ?_ | refine W_ff ?_ | refine W_test (fun hc => ?_) (fun hc => ?_) | go_step)
    exact Body_ret hd ⟨rfl, by simp⟩
end Go.Ws
