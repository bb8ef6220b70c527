/- Lemmas for the statement ReplicaAppends (joined texts); no condition. -/
import Derived.Test.YtlpjgegbdmkmdaaGreatKReplicaAppends14
namespace Go.Ws
open Go Go.RowKit Go.Proofs
set_option maxHeartbeats 2000000
set_option maxRecDepth 100000
set_option linter.unusedVariables false
set_option linter.unusedSimpArgs false

/-! ### Lists of acts that a law builds -/
structure Sl where
  a : Option Addr
  n : Nat
  c : Nat
abbrev Sl.v (s : Sl) : Value := .slice s.a s.n s.c
def Sl.nil : Sl := ⟨none, 0, 0⟩
/-- An act in memory, its slices slices. -/
structure ActW where
  act : ActD
  uI : Sl
  uE : Sl
  uL : Sl
abbrev ActW.toV (x : ActW) : ActV := ⟨x.act, x.uI.v, x.uE.v, x.uL.v⟩
def ActW.cs (x : ActW) : List Value := x.toV.cs
theorem infoAct : (Tryz.prog.info? 51).map (fun i => (i.zero, i.size, i.bytes)) = some (some (.agg #[.int .i64 0, .int .i64 0, .bool false, .int .i64 0, .int .i64 0, .int .i64 0, .slice none 0 0, .int .i64 0, .int .i64 0, .int .i64 0, .int .i64 0, .int .i64 0, .int .i64 0, .int .i64 0, .int .i64 0, .int .i64 0, .int .i64 0, .int .i64 0, .int .i64 0, .int .i64 0, .int .i64 0, .bool false, .int .i64 0, .int .i64 0, .slice none 0 0, .int .i64 0, .slice none 0 0]), 27, 264) := by kernel_rfl
theorem elemAct : Elem Tryz.prog ActW.cs 27 22 51 264 :=
  ⟨fun _ => rfl, fun x u h => by
    have h' : u ∈ x.toV.cs := h
    simp only [ActV.cs, ActD.cells, List.mem_cons, List.not_mem_nil, or_false] at h'
    rcases h' with rfl | rfl | rfl | rfl | rfl | rfl | rfl | rfl | rfl | rfl | rfl | rfl | rfl | rfl | rfl | rfl | rfl | rfl | rfl | rfl | rfl | rfl | rfl | rfl | rfl | rfl | rfl <;> rfl, Tryz.underlying22, by decide, _, infoAct, rfl⟩
theorem Rd.actV {w : World} {v : Value} {xs : List ActW} (h : Rd ActW.cs 27 w v xs) : Rd ActV.cs 27 w v (xs.map ActW.toV) := by
  obtain ⟨A, c, rfl, h1, h2, h3⟩ := h
  refine ⟨A, c, by rw [List.length_map], by rw [List.length_map]; exact h1, h2, ?_⟩
  rcases h3 with ⟨rfl, rfl⟩ | ⟨b, o, rfl, hb, hr⟩
  · exact .inl ⟨rfl, rfl⟩
  · refine .inr ⟨b, o, rfl, hb, fun i x hx j u hu => ?_⟩
    rw [List.getElem?_map] at hx
    cases hy : xs[i]? with
    | none => rw [hy] at hx; cases hx
    | some y => rw [hy] at hx; cases hx; exact hr i y hy j u hu
/-- An act of which all is known that a play asks. -/
def ActW.fit (N : Nat → Prop) (w : World) (a : ActW) : Prop := ActR N w a.uI.v a.uE.v a.uL.v a.act ∧ a.act.kind ≠ 7
theorem ActW.fit.later {N : Nat → Prop} {w w' : World} {a : ActW} (h : a.fit N w) (hE : Ext w w') : a.fit N w' := ⟨h.1.later hE, h.2⟩
theorem play_acts (self least : Int) {w : World} {v : Value} {l : List ActW} (h : Rd ActW.cs 27 w v l) (ho : ∀ a ∈ l, a.fit (fun _ => False) w) : Pure Tryz.prog 18 #[.int .i64 self, .int .i64 least, v] w (.bool true) := by
  refine play_calls self least (l.map ActW.toV) v w h.actV ?_ ?_
  · intro a ha
    obtain ⟨x, hx, rfl⟩ := List.mem_map.1 ha
    exact (ho x hx).1
  · intro a ha hb
    obtain ⟨x, hx, rfl⟩ := List.mem_map.1 ha
    exact doesOk hb (ho x hx).2
/-- A list of acts that grows, made since w0. -/
structure ActsAt (w0 w : World) (v : Value) (l : List ActW) : Prop where
  own : Own ActW.cs 27 51 w v l
  fit : ∀ a ∈ l, a.fit (fun k => v.ownBlock = some k) w
  new : ∀ b, v.ownBlock = some b → w0.heap.size ≤ b
section
variable {w0 w w' : World} {v vs : Value} {l ys : List ActW}
theorem ActsAt.later (h : ActsAt w0 w v l) (hE : Ext w w') : ActsAt w0 w' v l := ⟨h.own.later hE, fun a ha => (h.fit a ha).later hE, h.new⟩
theorem ActsAt.rd (h : ActsAt w0 w v l) : Rd ActW.cs 27 w v l := h.own.rd (fun _ => rfl)
theorem ActsAt.play (h : ActsAt w0 w v l) (self least : Int) : Pure Tryz.prog 18 #[.int .i64 self, .int .i64 least, v] w (.bool true) :=
  play_acts self least h.rd (fun a ha => ⟨(h.fit a ha).1.wide (fun k hk => hk.elim), (h.fit a ha).2⟩)
theorem ActsAt.app {v' : Value} (h : ActsAt w0 w v l) (hM : Mod (fun b => v.ownBlock = some b) w w') (hO : Own ActW.cs 27 51 w' v' (l ++ ys)) (hF : v'.ownBlock = v.ownBlock ∨ ∃ g, v'.ownBlock = some g ∧ w.heap.size ≤ g)
    (hy : ∀ a ∈ ys, a.fit (fun k => v.ownBlock = some k) w) (hs : w0.heap.size ≤ w.heap.size) : ActsAt w0 w' v' (l ++ ys) := by
  refine ⟨hO, fun a ha => ?_, fun b hb => ?_⟩
  · have hf : a.fit (fun k => v.ownBlock = some k) w := by
      rcases List.mem_append.1 ha with h1 | h1
      · exact h.fit a h1
      · exact hy a h1
    refine ⟨((hf.1.wide (N' := fun k => v.ownBlock = some k ∨ v'.ownBlock = some k) (fun k hk => ?_)).mod hM (fun k hk => .inl hk)).wide (fun k hk => .inl (.inr hk)), hf.2⟩
    rcases hk with hk | hk
    · exact .inl hk
    · rcases hF with e | ⟨g, e, hg⟩
      · exact .inl (e ▸ hk)
      · rw [e] at hk; cases hk; exact .inr hg
  · rcases hF with e | ⟨g, e, hg⟩
    · exact h.new b (e ▸ hb)
    · rw [e] at hb; cases hb; exact Nat.le_trans hs hg
end
/-- Acts are appended. -/
theorem X_acts {P : Program} {ops : Array Oper} {Q : Post} {A : Act} {fl : List (Nat × Value)} {rest : List (Oper × Nat)} {o : Oper} {s x : Operand} {t : TypeId} {d : Nat} {bytes : Nat} {v vs : Value} {l ys : List ActW} {w0 w : World} (hE0 : Ext w0 w)
    (he : Elem P ActW.cs 27 t 51 bytes) (hown : ActsAt w0 w v l) (hsrc : Rd ActW.cs 27 w vs ys) (hy : ∀ a ∈ ys, a.fit (fun k => v.ownBlock = some k) w) (hbytes : (l.length + ys.length) * bytes ≤ 140737488355328) (hm : l.length + ys.length ≤ maxLen)
    (h : ∀ (y' : Later w0) v', ActsAt w0 (w0.later y') v' (l ++ ys) → Mod (fun b => v.ownBlock = some b) w (w0.later y') → wpX P ops Q rest (fr ((d, v') :: fl) A) (w0.later y'))
    (ho : o.op = .call { callee := .builtin .append, args := #[s, x], argTypes := #[t, t] } := by rfl) (hd : o.dst = some d := by rfl) (hg : o.guard = none := by rfl)
    (hs : Is ((fr fl A).eval s) v := by go_simp; exact Is.mk _) (hx : Is ((fr fl A).eval x) vs := by go_simp; exact Is.mk _) :
    wpX P ops Q ((o, 2) :: rest) (fr fl A) w :=
  X_append he hown.own hsrc hbytes hm (fun v' W' hM hO hF hN => h ⟨W', Ext.fresh hE0 hM hown.new⟩ v' (hown.app hM hO hF hy hE0.size) hM) ho hd hg hs hx
/-- The slice of a block that was built of acts. -/
theorem Rd.built {w : World} {b : Nat} {cs : Array Value} {xs : List ActW} (hb : b < w.heap.size) (h : ∀ k, w.cell? ⟨b, k, none⟩ = cs[k]?) (hcs : cs.toList = xs.flatMap ActW.cs) (hl : xs.length ≤ maxLen) : Rd ActW.cs 27 w (.slice (some ⟨b, 0, none⟩) xs.length xs.length) xs := by
  refine ⟨_, _, rfl, Nat.le_refl _, hl, .inr ⟨b, 0, rfl, hb, fun i y hy j u hu => ?_⟩⟩
  rw [h, ← Array.getElem?_toList, hcs]
  clear hcs h hb hl
  have key : ∀ (xs : List ActW) (i : Nat), xs[i]? = some y → (xs.flatMap ActW.cs)[i * 27 + j]? = some u := by
    intro xs
    induction xs with
    | nil => intro i hy; simp at hy
    | cons x xs ih =>
      intro i hy
      rw [List.flatMap_cons]
      have hl : (ActW.cs x).length = 27 := rfl
      cases i with
      | zero =>
        simp at hy; subst hy
        have hj : j < (ActW.cs x).length := (List.getElem?_eq_some_iff.1 hu).1
        rw [Nat.zero_mul, Nat.zero_add, List.getElem?_append_left hj]; exact hu
      | succ i =>
        rw [List.getElem?_append_right (by rw [hl]; omega), hl]
        have : (i + 1) * 27 + j - 27 = i * 27 + j := by omega
        rw [this]
        exact ih i (by simpa using hy)
  have := key xs i hy
  rwa [Nat.zero_add]
/-- A list of acts, as it was built first. -/
theorem ActsAt.made {w0 w : World} {y : Later w} {b : Nat} {cs : Array Value} {xs : List ActW} (hcs : cs.toList = xs.flatMap ActW.cs) (hb : (w.later y).heap[b]? = some (.cells cs 51)) (hm : xs.length ≤ maxLen) (hs : w0.heap.size ≤ b) (hf : ∀ a ∈ xs, a.fit (fun k => k = b) (w.later y)) :
    ActsAt w0 (w.later y) (.slice (some ⟨b, 0, none⟩) xs.length xs.length) xs :=
  ⟨Own.lit (enc := ActW.cs) (k := 27) w y (fun _ => rfl) cs xs hcs hb hm, fun a ha => ⟨(hf a ha).1.wide (fun k hk => by cases hk; exact .inl rfl), (hf a ha).2⟩, fun k hk => by cases hk; exact hs⟩
theorem RdI.built {w : World} {y : Later w} {b : Nat} {cs : Array Value} {xs : List Int} {N : Nat → Prop} (hcs : cs.toList = xs.flatMap ics) (hb : (w.later y).heap[b]? = some (.cells cs 3)) (hm : xs.length ≤ maxLen) (hN : ¬ N b) : RdIN N (w.later y) (.slice (some ⟨b, 0, none⟩) xs.length xs.length) xs :=
  ⟨(Own.lit (enc := ics) (k := 1) w y (fun _ => rfl) cs xs hcs hb hm).rd (fun _ => rfl), fun k hk => by cases hk; exact hN⟩
def ActD.zero : ActD := ⟨0, 0, false, ⟨0, 0, 0, []⟩, ⟨0, 0, 0, 0, 0, 0⟩, ⟨0, 0, 0, 0, 0⟩, ⟨0, 0, 0, false, 0, 0, [], 0⟩, []⟩
/-- An act without slices. -/
theorem ActW.fit_plain {N : Nat → Prop} (w : World) (a : ActD) (hI : a.view.isr = []) (hE : a.reply.entries = []) (hL : a.list = []) (h7 : a.kind ≠ 7) : ActW.fit N w ⟨a, Sl.nil, Sl.nil, Sl.nil⟩ :=
  ⟨⟨by show RdIN N w _ a.view.isr; rw [hI]; exact RdN.nil _, by show RdEN N w _ a.reply.entries; rw [hE]; exact RdN.nil _, by show RdIN N w _ a.list; rw [hL]; exact RdN.nil _⟩, h7⟩
end Go.Ws
namespace Go.Ws
open Go Go.RowKit Go.Proofs
set_option maxHeartbeats 4000000
set_option maxRecDepth 100000
set_option linter.unusedVariables false
set_option linter.unusedSimpArgs false

theorem appends_calls (l : List Ent) (v : Value) (w : World) (hl : RdE w v l) : Pure Tryz.prog 5 #[v] w (.bool true) := by
  have HL := Lib.hid hl
  obtain ⟨A0, c0, rfl, hc0, hcm0, HRD⟩ := hl.ent
  clear hl
  by_cases h30 : l.length ≤ 30
  · have h30i : ¬ (30 : Int) < l.length := by omega
    refine Fn_of Tryz.func5 rfl (Nat.le_of_ble_eq_true rfl) ?_; intro A hd hA; simp only [ix, Nat.reduceAdd]; replace hA : A.tmps.size = 34 := hA
    repeat' (first | refine X_q ?_ | refine X_nil ?_ | refine W_seqk (fun K hK => ?_) | refine W_seqr ?_ | refine W_skip ?_ | refine W_block ?_ | (refine X_s (fun x K hK => ?_); go_simp; refine hK _ _ (Ext.alloc _ _) ?_; clear hK K; refine X_al x ?_; generalize (World.later _ x).heap.size = bn; intro yn hn1 hn2 hn3 hn4 hn5; clear x) | refine W_ff ?_ | go_step)
    rename_i b1 y1 p1 p2 p3 p4 p5
    have hx0 : ActsAt w ((w.later y1).later yn) (.slice (some ⟨bn, 0, none⟩) 1 1) [⟨{ ActD.zero with kind := 1, view := ⟨2, 5, 9, [0, 2]⟩ }, ⟨some ⟨b1, 0, none⟩, 2, 2⟩, Sl.nil, Sl.nil⟩] :=
      ActsAt.made (xs := [⟨{ ActD.zero with kind := 1, view := ⟨2, 5, 9, [0, 2]⟩ }, ⟨some ⟨b1, 0, none⟩, 2, 2⟩, Sl.nil, Sl.nil⟩]) rfl hn5.out (by simp [maxLen]) (by have := y1.ext.size; omega) (fun a ha => by
        obtain rfl : a = _ := by simpa using ha
        exact ⟨⟨(RdI.built (xs := [0, 2]) rfl p5.out (by simp [maxLen]) (by omega)).later yn.ext, RdN.nil _, RdN.nil _⟩, by simp⟩)
    have hE0 : Ext w ((w.later y1).later yn) := by simp
    have HX := Lib.hid hx0
    have HE := Lib.hid hE0
    generalize World.later _ yn = W0 at *
    clear hx0 hE0 p1 p2 p3 p4 p5 hn1 hn2 hn3 hn4 hn5 yn y1
    refine W_loops [0, 2, 3, 4] (fun n vs w' => ∃ (k : Nat) (u : Value) (l' : List ActW), Ext w w' ∧ k + n = l.length ∧ l'.length = k + 1 ∧ vs = [.slice A0 l.length c0, .bool false, u, .int .i64 k] ∧ ActsAt w w' u l') l.length hd hA (by decide) ⟨0, _, _, HE.out, by omega, rfl, by simp, HX.out⟩ ?_
    clear hd hA A; intro n vs B w' hd hA _ ⟨k, u, l', hE, hk, hl', hvs, hX⟩; subst hvs
    replace HX := Lib.hid hX
    obtain ⟨y, rfl⟩ := hE.get
    clear hX hE HE
    obtain ⟨A1, m1, c1, rfl⟩ := own_slice HX.out.own
    simp only [List.zip_cons_cons, List.zip_nil_right, List.zip_nil_left]
    by_cases hlt : k < l.length
    · obtain ⟨e, b, o, HEe, rfl, hb, x0, x1, x2, x3, x4, x5⟩ := HRD.out k hlt
      have hki : (k : Int) < l.length := by omega
      repeat' (first | refine X_q ?_ | refine X_nil ?_ | refine W_seqk (fun K hK => ?_) | refine W_seqr ?_ | refine W_skip ?_ | refine W_block ?_ | (refine X_s (fun x K hK => ?_); go_simp; refine hK _ _ (Ext.alloc _ _) ?_; clear hK K; refine X_al x ?_; generalize (World.later _ x).heap.size = bn; intro yn hn1 hn2 hn3 hn4 hn5; clear x) | refine W_tt ?_ | go_step)
      refine X_acts (w0 := w) (by simp) elemAct (HX.out.later yn.ext) (Rd.built (xs := [⟨{ ActD.zero with kind := 2, ent := e }, Sl.nil, Sl.nil, Sl.nil⟩]) hn2 hn3 rfl (by simp [maxLen])) (fun a ha => by
        obtain rfl : a = _ := by simpa using ha
        exact ActW.fit_plain _ _ rfl rfl rfl (by simp)) (by simp; omega) (by unfold maxLen; simp; omega) (fun y2 v' hO hM => ?_)
      have HO := Lib.hid hO
      clear hO hM
      repeat' (first | refine X_q ?_ | refine X_nil ?_ | refine W_seqr ?_ | go_step)
      exact ⟨_, _, rfl, hd, hA, n - 1, by omega, k + 1, _, _, y2.ext, by omega, by simp; omega, by simp, HO.out⟩
    · have hki : ¬ (k : Int) < l.length := by omega
      repeat' (first | refine X_q ?_ | refine X_nil ?_ | refine W_seqk (fun K hK => ?_) | refine W_seqr ?_ | refine W_exit ?_ | (refine X_s (fun x K hK => ?_); go_simp; refine hK _ _ (Ext.alloc _ _) ?_; clear hK K; refine X_al x ?_; generalize (World.later _ x).heap.size = bn; intro yn hn1 hn2 hn3 hn4 hn5; clear x) | refine W_ff ?_ | go_step)
      refine X_acts (w0 := w) (by simp) elemAct (HX.out.later yn.ext) (Rd.built (xs := [⟨{ ActD.zero with kind := 3 }, Sl.nil, Sl.nil, Sl.nil⟩, ⟨{ ActD.zero with kind := 5, n := 9, fetch := ⟨0, 5, 0, 0, 0⟩ }, Sl.nil, Sl.nil, Sl.nil⟩]) hn2 hn3 rfl (by simp [maxLen])) (fun a ha => by
        simp only [List.mem_cons, List.not_mem_nil, or_false] at ha
        rcases ha with rfl | rfl
        · exact ActW.fit_plain _ _ rfl rfl rfl (by simp)
        · exact ActW.fit_plain _ _ rfl rfl rfl (by simp)) (by simp; omega) (by unfold maxLen; simp; omega) (fun y2 v' hO hM => ?_)
      have HO := Lib.hid hO
      clear hO hM
      repeat' (first | refine X_pure Tryz.func18 (HO.out.play 2 2) ?_ | refine X_q ?_ | refine X_nil ?_ | refine W_ret ?_ | go_step)
      exact Body_ret hd ⟨rfl, by simp⟩
  · have h30i : (30 : Int) < l.length := by omega
    clear HRD
    refine Fn_of Tryz.func5 rfl (Nat.le_of_ble_eq_true rfl) ?_; intro A hd hA; simp only [ix, Nat.reduceAdd]; replace hA : A.tmps.size = 34 := hA
    repeat' (first | refine X_pure Tryz.func12 (known11_calls) ?_ | refine X_q ?_ | refine X_nil ?_ | refine W_seqk (fun K hK => ?_) | refine W_seqr ?_ | refine W_ret ?_ | refine W_tt ?_ | go_step)
    exact Body_ret hd ⟨rfl, by simp⟩
end Go.Ws
