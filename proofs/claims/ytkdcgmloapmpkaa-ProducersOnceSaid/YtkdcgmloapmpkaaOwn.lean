import Derived.Test.YtkdcgmloapmpkaaEnts
namespace Go.Ws
open Go Go.RowKit
set_option linter.unusedVariables false
set_option linter.unusedSectionVars false

/-! ### Slices of our own, and append -/
section
variable {P : Program} {w : World}
theorem Mod.of_grown {w w' : World} {r : Option Nat} (h : w.grownBy w' r) : Mod (fun b => r = some b) w w' :=
  ⟨h.os, h.tape, h.output, h.size, fun k hk hn => h.block k hk (fun e => hn e.symm)⟩
theorem run_append2 (t ty e : TypeId) (i : TypeInfo) (z : Value) (size bytes : Nat) (ht : P.underlying t = some (.slice e)) (hi : P.info? e = some i) (hz : i.zero = some z)
    (hsize : i.size = size) (hby : i.bytes = bytes) (hzs : z.cells.size = size) (hsz : 0 < size)
    (v : Value) (n : Nat) (xs : List Value) (hown : w.ownsRow 0 e size v n xs)
    (a : Addr) (m c : Nat) (news : List Value) (hl : news.length = m * size) (hnews : ∀ j u, news[j]? = some u → w.cell? (a.add j) = some u) (h1 : ∀ u ∈ news, u.oneCell' = true)
    (h63 : n + m ≤ maxLen) (hbytes : (n + m) * bytes ≤ 140737488355328) :
    ∃ v' w', (Builtin.append_ #[t, t] ty #[v, .slice (some a) m c]).run P w = .ok v' w' ∧ w'.ownsRow 0 e size v' (n + m) (xs ++ news) ∧ Mod (fun b => v.ownBlock = some b) w w' ∧
      (v'.ownBlock = v.ownBlock ∨ ∃ g, v'.ownBlock = some g ∧ w.heap.size ≤ g) ∧ (v' = .slice none 0 0 ↔ v = .slice none 0 0 ∧ m = 0) := by
  subst hsize
  subst hby
  have hsmall : n + m ≤ 9223372036854775807 := by simp only [maxLen] at h63; omega
  have hlen : (xs ++ news).length = (n + m) * i.size := by rw [List.length_append, hown.1, hl, Nat.add_mul]
  have grown : ∀ (old : Nat), old < n + m → ∀ (row : Option Nat),
      (w.drew.alloc (.cells (xs.toArray ++ news.toArray ++ Builtin.zeroCells z.cells (grownCap w (n + m) old e - (n + m))) e)).ownsRow 0 e i.size
        (.slice (some ⟨w.heap.size, 0, none⟩) (n + m) (grownCap w (n + m) old e)) (n + m) (xs ++ news) ∧
      Mod (fun b => row = some b) w (w.drew.alloc (.cells (xs.toArray ++ news.toArray ++ Builtin.zeroCells z.cells (grownCap w (n + m) old e - (n + m))) e)) := by
    intro old ho row
    have hge := grownCap_ge w (n + m) old e
    have hcm : grownCap w (n + m) old e ≤ maxLen := grownCap_le_maxLen w (n + m) old e h63
    refine ⟨⟨hlen, .inr ⟨w.heap.size, _, _, rfl, Nat.zero_le _, heap_alloc_new w.drew _, hge, hcm, ?_, ?_⟩⟩, ⟨rfl, rfl, rfl, by simp, fun k hk _ => Below.heap_alloc w.drew _ k hk⟩⟩
    · simp only [Array.size_append, List.size_toArray, size_zeroCells, hzs, hown.1, hl, ← Nat.add_mul]
      congr 1
      omega
    · simp only [Array.toList_append, List.append_assoc]
      rw [← List.append_assoc, ← hlen]
      exact List.take_left
  rcases hown.2 with ⟨rfl, rfl⟩ | ⟨g, cap, cur, rfl, hbg, hg, hnc, hcm, hcs, htake⟩
  · have hx : xs = [] := List.eq_nil_of_length_eq_zero (by simpa using hown.1)
    subst hx
    by_cases hm : m = 0
    · subst hm
      have hn : news = [] := List.eq_nil_of_length_eq_zero (by simpa using hl)
      subst hn
      refine ⟨.slice none 0 0, w, ?_, World.ownsRow_nil w 0 e i.size, Mod.refl _ w, .inl rfl, by simp⟩
      simp [Builtin.append_, run_underlying ht, sizeOf, typeInfo, hi, Builtin.lenOf, Builtin.firstCells, loadCells, loadCellsFrom]
    · have hr := run_append_nil (P := P) w t ty e i z ht hi hz a m c news hl hnews (by omega) (by omega) (by have hb := hbytes; simp only [Nat.zero_add] at hb; omega)
      have hgr := grown 0 (by omega) (Value.ownBlock (.slice none 0 0))
      simp only [Nat.zero_add, List.nil_append, Array.empty_append] at hgr ⊢
      exact ⟨_, _, hr, hgr.1, hgr.2, .inr ⟨_, rfl, Nat.le_refl _⟩, by simp [hm]⟩
  · by_cases hroom : n + m ≤ cap
    · have hfit : n * i.size + news.length ≤ cur.size := by rw [hl, hcs, ← Nat.add_mul]; exact Nat.mul_le_mul_right _ hroom
      have hr := run_append_room (P := P) w t ty e i ht hi g n cap cur hg a m c news hl hnews h1 hroom hfit
      refine ⟨_, _, hr, ⟨hlen, .inr ⟨g, cap, _, rfl, hbg, setRow_heap w g cur _ e _ hg, hroom, hcm, ?_, ?_⟩⟩, ⟨rfl, rfl, rfl, by simp, fun k _ hk => setRow_other w g k _ (fun e => hk (by simp [Value.ownBlock, e]))⟩, .inl rfl, by simp⟩
      · simp only [List.size_toArray, List.length_append, List.length_take, List.length_drop, Array.length_toList]
        omega
      · rw [htake, ← hlen]
        exact List.take_left
    · have holds : ∀ j u, xs[j]? = some u → w.cell? ((⟨g, 0, none⟩ : Addr).add j) = some u := hown.cells (g := g) rfl
      have hr := run_append_grow (P := P) w t ty e i z ht hi hz ⟨g, 0, none⟩ n cap xs hown.1 holds a m c news hl hnews (by omega) (by omega) (growslice_fits (by omega) hbytes)
      have hgr := grown cap (by omega) (Value.ownBlock (.slice (some ⟨g, 0, none⟩) n cap))
      exact ⟨_, _, hr, hgr.1, hgr.2, .inr ⟨_, rfl, Nat.le_refl _⟩, by simp⟩

theorem Ext.fresh {F : Nat → Prop} {a b c : World} (h : Ext a b) (k : Mod F b c) (hF : ∀ i, F i → a.heap.size ≤ i) : Ext a c :=
  Mod.trans h k (fun _ _ h => h) (fun i hi hf => by have := hF i hf; omega)
/-- A slice of our own that reads as a list. -/
def Own {α : Type} (enc : α → List Value) (k : Nat) (E : TypeId) (w : World) (v : Value) (xs : List α) : Prop := w.ownsRow 0 E k v xs.length (xs.flatMap enc)
variable {α : Type} {enc : α → List Value} {k : Nat} {E : TypeId} {v : Value} {xs : List α} {w' : World}
theorem Own.nil (w : World) : Own enc k E w (.slice none 0 0) ([] : List α) := World.ownsRow_nil w 0 E k
theorem Own.lt (h : Own enc k E w v xs) : ∀ b, v.ownBlock = some b → b < w.heap.size := fun b hb => (World.ownsRow.lt h b hb).2
theorem Own.mod {F : Nat → Prop} (h : Own enc k E w v xs) (hM : Mod F w w') (hF : ∀ b, v.ownBlock = some b → ¬ F b) : Own enc k E w' v xs := by
  refine ⟨h.1, ?_⟩
  rcases h.2 with hn | ⟨g, cap, cur, rfl, hb, hgg, rest⟩
  · exact .inl hn
  · refine .inr ⟨g, cap, cur, rfl, hb, ?_, rest⟩
    rw [hM.block g (Array.getElem?_eq_some_iff.1 hgg).1 (hF g rfl)]
    exact hgg
theorem Own.later (h : Own enc k E w v xs) (hE : Ext w w') : Own enc k E w' v xs := h.mod hE (fun _ _ h => h)
theorem flat_get (hk : ∀ x, (enc x).length = k) : ∀ (xs : List α) (i : Nat) (x : α) (j : Nat) (u : Value), xs[i]? = some x → (enc x)[j]? = some u → (xs.flatMap enc)[i * k + j]? = some u
  | [], i, x, j, u, h, _ => by simp at h
  | y :: ys, 0, x, j, u, h, hu => by
    simp at h; subst h
    have hj : j < (enc y).length := by
      rcases Nat.lt_or_ge j (enc y).length with h | h
      · exact h
      · rw [List.getElem?_eq_none h] at hu; cases hu
    rw [List.flatMap_cons, Nat.zero_mul, Nat.zero_add, List.getElem?_append_left hj]; exact hu
  | y :: ys, i + 1, x, j, u, h, hu => by
    simp only [List.getElem?_cons_succ] at h
    rw [List.flatMap_cons, List.getElem?_append_right (by rw [hk, Nat.add_mul]; omega), hk]
    have := flat_get hk ys i x j u h hu
    rw [← this]; congr 1; rw [Nat.add_mul]; omega
theorem flat_len (hk : ∀ x, (enc x).length = k) : ∀ (xs : List α), (xs.flatMap enc).length = xs.length * k
  | [] => by simp
  | y :: ys => by rw [List.flatMap_cons, List.length_append, hk, flat_len hk ys, List.length_cons, Nat.add_mul]; omega
theorem Own.rd (hk : ∀ x, (enc x).length = k) (h : Own enc k E w v xs) : Rd enc k w v xs := by
  rcases h.2 with ⟨rfl, hn⟩ | ⟨g, cap, cur, rfl, hb, hgg, hnc, hcm, hcs, ht⟩
  · have : xs = [] := List.eq_nil_of_length_eq_zero hn
    subst this
    exact Rd.nil w
  · refine ⟨_, cap, rfl, hnc, hcm, .inr ⟨g, 0, rfl, (Array.getElem?_eq_some_iff.1 hgg).1, fun i x hx j u hu => ?_⟩⟩
    have h1 := World.ownsRow.cells h (g := g) rfl (i * k + j) u (flat_get hk xs i x j u hx hu)
    have hadd : (⟨g, 0, none⟩ : Addr).add (i * k + j) = ⟨g, 0 + i * k + j, none⟩ := by unfold Addr.add; split <;> simp_all
    rw [← hadd]; exact h1
theorem Own.shape (h : Own enc k E w v xs) : (v = .slice none 0 0 ∧ xs = []) ∨ ∃ g c, v = .slice (some ⟨g, 0, none⟩) xs.length c ∧ xs.length ≤ c ∧ c ≤ maxLen ∧ g < w.heap.size := by
  rcases h.2 with ⟨rfl, hn⟩ | ⟨g, cap, cur, rfl, hb, hgg, hnc, hcm, hcs, ht⟩
  · exact .inl ⟨rfl, List.eq_nil_of_length_eq_zero hn⟩
  · exact .inr ⟨g, cap, rfl, hnc, hcm, (Array.getElem?_eq_some_iff.1 hgg).1⟩
theorem Own.take (hk : ∀ x, (enc x).length = k) {g n c : Nat} (h : Own enc k E w (.slice (some ⟨g, 0, none⟩) xs.length c) xs) (hn : n ≤ xs.length) : Own enc k E w (.slice (some ⟨g, 0, none⟩) n c) (xs.take n) := by
  rcases h.2 with ⟨h0, _⟩ | ⟨g', cap, cur, h0, hb, hgg, hnc, hcm, hcs, ht⟩
  · cases h0
  · cases h0
    have hl : (xs.take n).length = n := by simp [hn]
    unfold Own
    rw [hl]
    refine ⟨by rw [flat_len hk, hl], .inr ⟨g, c, cur, rfl, hb, hgg, by omega, hcm, hcs, ?_⟩⟩
    have h2 : (xs.take n).flatMap enc = (xs.flatMap enc).take (n * k) := by
      have h3 : xs.flatMap enc = (xs.take n).flatMap enc ++ (xs.drop n).flatMap enc := by rw [← List.flatMap_append, List.take_append_drop]
      have h4 : ((xs.take n).flatMap enc).length = n * k := by rw [flat_len hk, hl]
      rw [h3, ← h4]; exact List.take_left.symm
    rw [h2, ← ht, List.take_take, Nat.min_eq_left (Nat.mul_le_mul_right _ hn)]
theorem Own.lit (w : World) (x : Later w) {y : Later w} {b : Nat} (hk : ∀ x, (enc x).length = k) (cs : Array Value) (xs : List α) (hcs : cs.toList = xs.flatMap enc) (hb : (w.later y).heap[b]? = some (.cells cs E)) (hm : xs.length ≤ maxLen) :
    Own enc k E (w.later y) (.slice (some ⟨b, 0, none⟩) xs.length xs.length) xs := by
  refine ⟨flat_len hk xs, .inr ⟨b, xs.length, cs, rfl, Nat.zero_le _, hb, Nat.le_refl _, hm, ?_, ?_⟩⟩
  · rw [← Array.length_toList, hcs, flat_len hk]
  · rw [hcs, ← flat_len hk xs]; exact List.take_length

theorem Own.snoc {n : Nat} {x : α} {w : World} (h : w.ownsRow 0 E k v n (xs.flatMap enc ++ enc x)) (hn : n = xs.length + 1) : Own enc k E w v (xs ++ [x]) := by
  unfold Own
  rw [List.length_append, List.flatMap_append, List.length_singleton, ← hn]
  simpa using h
/-- Cells at an address. -/
def Src (w : World) (a : Addr) (news : List Value) : Prop := ∀ j u, news[j]? = some u → w.cell? (a.add j) = some u
theorem Src.one {b : Nat} {cs : Array Value} (h : ∀ k, w.cell? ⟨b, k, none⟩ = cs[k]?) : Src w ⟨b, 0, none⟩ cs.toList := fun j u hu => by
  have hadd : (⟨b, 0, none⟩ : Addr).add j = ⟨b, j, none⟩ := by unfold Addr.add; split <;> simp_all
  rw [hadd, h, ← Array.getElem?_toList]; exact hu

variable {Q : Post} {A : Act} {fl : List (Nat × Value)} {ops : Array Oper} {o : Oper}
theorem Rd.src {w : World} {vs : Value} {ys : List α} (hk : ∀ x, (enc x).length = k) (h : Rd enc k w vs ys) :
    (∃ c, vs = .slice none 0 c ∧ ys = []) ∨ ∃ b o c, vs = .slice (some ⟨b, o, none⟩) ys.length c ∧ Src w ⟨b, o, none⟩ (ys.flatMap enc) ∧ b < w.heap.size := by
  obtain ⟨A, c, rfl, h2, h3, h4⟩ := h
  rcases h4 with ⟨rfl, rfl⟩ | ⟨b, o, rfl, hb, hr⟩
  · exact .inl ⟨c, rfl, rfl⟩
  · refine .inr ⟨b, o, c, rfl, fun j u hu => ?_, hb⟩
    have hadd : (⟨b, o, none⟩ : Addr).add j = ⟨b, o + j, none⟩ := by unfold Addr.add; split <;> simp_all
    rw [hadd]
    have key : ∀ (ys : List α) (j : Nat) (u : Value), (ys.flatMap enc)[j]? = some u → ∃ i x j', ys[i]? = some x ∧ (enc x)[j']? = some u ∧ j = i * k + j' := by
      intro ys
      induction ys with
      | nil => intro j u h; simp at h
      | cons y ys ih =>
        intro j u h
        rw [List.flatMap_cons] at h
        rcases Nat.lt_or_ge j (enc y).length with hj | hj
        · rw [List.getElem?_append_left hj] at h
          exact ⟨0, y, j, rfl, h, by omega⟩
        · rw [List.getElem?_append_right hj] at h
          obtain ⟨i, x, j', h1, h2, h3⟩ := ih _ _ h
          refine ⟨i + 1, x, j', h1, h2, ?_⟩
          rw [hk] at h3 hj
          rw [Nat.add_mul]; omega
    obtain ⟨i, x, j', h1, h2, rfl⟩ := key ys j u hu
    rw [← Nat.add_assoc]
    exact hr i x h1 j' u h2
theorem Rd.one {w : World} {b : Nat} {cs : Array Value} {x : α} (hb : b < w.heap.size) (h : ∀ k, w.cell? ⟨b, k, none⟩ = cs[k]?) (hcs : cs.toList = enc x) : Rd enc k w (.slice (some ⟨b, 0, none⟩) 1 1) [x] := by
  refine ⟨_, 1, rfl, Nat.le_refl _, by unfold maxLen; omega, .inr ⟨b, 0, rfl, hb, fun i y hy j u hu => ?_⟩⟩
  cases i with
  | zero =>
    simp at hy; subst hy
    have h0 : 0 + 0 * k + j = j := by omega
    rw [h0, h, ← Array.getElem?_toList, hcs]; exact hu
  | succ i => simp at hy
/-- What is known of an element type. -/
structure Elem (P : Program) (enc : α → List Value) (k : Nat) (t E : TypeId) (bytes : Nat) : Prop where
  len : ∀ x, (enc x).length = k
  one : ∀ x, ∀ u ∈ enc x, u.oneCell' = true
  ty : P.underlying t = some (.slice E)
  pos : 0 < k
  info : ∃ z, (P.info? E).map (fun i => (i.zero, i.size, i.bytes)) = some (some z, k, bytes) ∧ z.cells.size = k
theorem run_append3 {t E : TypeId} {bytes : Nat} (he : Elem P enc k t E bytes) (ty : TypeId) {w : World} {v vs : Value} {xs ys : List α} (hown : Own enc k E w v xs) (hs : Rd enc k w vs ys) (hb : (xs.length + ys.length) * bytes ≤ 140737488355328) (hm : xs.length + ys.length ≤ maxLen) :
    ∃ v' w', (Builtin.append_ #[t, t] ty #[v, vs]).run P w = .ok v' w' ∧ Own enc k E w' v' (xs ++ ys) ∧ Mod (fun b => v.ownBlock = some b) w w' ∧
      (v'.ownBlock = v.ownBlock ∨ ∃ g, v'.ownBlock = some g ∧ w.heap.size ≤ g) ∧ (v' = .slice none 0 0 ↔ v = .slice none 0 0 ∧ ys = []) := by
  obtain ⟨z, hi, hz⟩ := he.info
  obtain ⟨i, hi', hz', hs', hb'⟩ := info_parts hi
  rcases hs.src he.len with ⟨c, rfl, rfl⟩ | ⟨b, o, c, rfl, hsrc, hlt⟩
  · have hl0 : xs.length + 0 ≤ maxLen := hm
    refine ⟨v, w, ?_, by simpa using hown, Mod.refl _ _, .inl rfl, by simp⟩
    rcases hown.shape with ⟨rfl, rfl⟩ | ⟨g, cap, rfl, h1, _, _⟩
    · simp [Builtin.append_, run_underlying he.ty, sizeOf, typeInfo, hi', Builtin.lenOf, Builtin.firstCells]
    · simp [Builtin.append_, run_underlying he.ty, sizeOf, typeInfo, hi', Builtin.lenOf, Builtin.firstCells, h1, storeCells]
  · have h1 : ∀ u ∈ ys.flatMap enc, u.oneCell' = true := fun u hu => by
      obtain ⟨x, _, hx⟩ := List.mem_flatMap.1 hu
      exact he.one x u hx
    obtain ⟨v', w', hr, h2, h3, h4, h5⟩ := run_append2 (P := P) (w := w) t ty E i z k bytes he.ty hi' hz' hs' hb' hz he.pos v xs.length _ hown ⟨b, o, none⟩ ys.length c _ (flat_len he.len ys) hsrc h1 hm hb
    refine ⟨v', w', hr, ?_, h3, h4, ?_⟩
    · unfold Own
      rw [List.length_append, List.flatMap_append]; exact h2
    · rw [h5]
      constructor
      · rintro ⟨h, h'⟩; exact ⟨h, List.eq_nil_of_length_eq_zero h'⟩
      · rintro ⟨h, h'⟩; exact ⟨h, by rw [h']; rfl⟩
theorem run_append_op {t : TypeId} {s x : Operand} (ho : o.op = .call { callee := .builtin .append, args := #[s, x], argTypes := #[t, t] }) {a : Act} {v vs v' : Value} {w w' : World} (hs : a.eval s = v) (hx : a.eval x = vs)
    (hr : (Builtin.append_ #[t, t] o.type #[v, vs]).run P w = .ok v' w') : (execOp a.eval o).run P w = .ok (.value v') w' := by
  unfold execOp
  simp only [ho, resolve, invoke, builtin, Sem.run_bind, Sem.run_pure, Result.andThen_ok, List.map_toArray, List.map_cons, List.map_nil, hs, hx, hr]
/-- append onto a slice of our own. -/
theorem X_append {rest : List (Oper × Nat)} {s x : Operand} {t : TypeId} {d : Nat} {E : TypeId} {bytes : Nat} {v vs : Value} {xs ys : List α}
    (he : Elem P enc k t E bytes) (hown : Own enc k E w v xs) (hsrc : Rd enc k w vs ys) (hbytes : (xs.length + ys.length) * bytes ≤ 140737488355328) (hm : xs.length + ys.length ≤ maxLen)
    (h : ∀ v' W', Mod (fun b => v.ownBlock = some b) w W' → Own enc k E W' v' (xs ++ ys) → (v'.ownBlock = v.ownBlock ∨ ∃ g, v'.ownBlock = some g ∧ w.heap.size ≤ g) → (v' = .slice none 0 0 ↔ v = .slice none 0 0 ∧ ys = []) → wpX P ops Q rest (fr ((d, v') :: fl) A) W')
    (ho : o.op = .call { callee := .builtin .append, args := #[s, x], argTypes := #[t, t] } := by rfl) (hd : o.dst = some d := by rfl) (hg : o.guard = none := by rfl)
    (hs : Is ((fr fl A).eval s) v := by go_simp; exact Is.mk _) (hx : Is ((fr fl A).eval x) vs := by go_simp; exact Is.mk _) :
    wpX P ops Q ((o, 2) :: rest) (fr fl A) w := by
  refine X_v (fun X K hK => ?_) hd hg
  obtain ⟨v', W', hr, h2, h3, h4, h5⟩ := run_append3 (P := P) (w := w.later X) he o.type (hown.later X.2) (hsrc.later X.2) hbytes hm
  unfold runV
  rw [run_append_op ho hs.eq hx.eq hr]
  refine hK v' W' (h v' W' (Mod.trans X.2 h3 (fun _ _ h => h.elim) (fun _ _ h => h)) h2 ?_ h5)
  rcases h4 with h4 | ⟨g, hg, hle⟩
  · exact .inl h4
  · exact .inr ⟨g, hg, Nat.le_trans X.2.size hle⟩
/-- append onto a slice that was made since w0: w0's later world. -/
theorem X_push {rest : List (Oper × Nat)} {s x : Operand} {t : TypeId} {d : Nat} {E : TypeId} {bytes : Nat} {v vs : Value} {xs ys : List α} {w0 : World} (hE0 : Ext w0 w)
    (he : Elem P enc k t E bytes) (hown : Own enc k E w v xs) (hf : ∀ b, v.ownBlock = some b → w0.heap.size ≤ b) (hsrc : Rd enc k w vs ys) (hbytes : (xs.length + ys.length) * bytes ≤ 140737488355328) (hm : xs.length + ys.length ≤ maxLen)
    (h : ∀ (y' : Later w0) v', Own enc k E (w0.later y') v' (xs ++ ys) → (∀ b, v'.ownBlock = some b → w0.heap.size ≤ b) → (v' = .slice none 0 0 ↔ v = .slice none 0 0 ∧ ys = []) → Mod (fun b => v.ownBlock = some b) w (w0.later y') → wpX P ops Q rest (fr ((d, v') :: fl) A) (w0.later y'))
    (ho : o.op = .call { callee := .builtin .append, args := #[s, x], argTypes := #[t, t] } := by rfl) (hd : o.dst = some d := by rfl) (hg : o.guard = none := by rfl)
    (hs : Is ((fr fl A).eval s) v := by go_simp; exact Is.mk _) (hx : Is ((fr fl A).eval x) vs := by go_simp; exact Is.mk _) :
    wpX P ops Q ((o, 2) :: rest) (fr fl A) w :=
  X_append he hown hsrc hbytes hm (fun v' W' hM hO hF hN =>
    have hE : Ext w0 W' := Ext.fresh hE0 hM hf
    h ⟨W', hE⟩ v' hO (fun b hb => by
      rcases hF with h | ⟨g, h, hle⟩
      · exact hf b (h ▸ hb)
      · rw [h] at hb; cases hb; exact Nat.le_trans hE0.size hle) hN hM) ho hd hg hs hx
/-- A new variable and its first value: 'x := v' of a struct. -/
theorem X_var {rest : List (Oper × Nat)} {o2 : Oper} {d : Nat} {E : TypeId} {x : Operand} {z : Value} {cs : Array Value} {n : Nat}
    (h : ∀ (y : Later w) (b : Nat), w.heap.size ≤ b → b < (w.later y).heap.size → (∀ k, (w.later y).cell? ⟨b, k, none⟩ = cs[k]?) → (∀ k, (w.later y).frozen? ⟨b, k, none⟩ = false) →
      Hid ((w.later y).heap[b]? = some (.cells cs E)) → wpX P ops Q rest (fr ((d, .pointer (some ⟨b, 0, none⟩)) :: fl) A) (w.later y))
    (ho : o.op = .alloc E := by rfl) (ho2 : o2.op = .store E (.tmp d) x := by rfl) (hd : o.dst = some d := by rfl) (hd2 : o2.dst = none := by rfl) (hg : o.guard = none := by rfl) (hg2 : o2.guard = none := by rfl)
    (hz : ∀ w, (zeroValue E).run P w = .ok z w := by intro w; go_simp; exact rfl) (hn : (P.info? E).map (·.size) = some n := by kernel_rfl) (hzn : z.cells.size = n := by rfl)
    (hdA : d < A.tmps.size := by simp only [hA]; decide)
    (hx : ∀ b, Is ((fr ((d, .pointer (some ⟨b, 0, none⟩)) :: fl) A).eval x) (.agg cs) := by intro b; go_simp; exact Is.mk _) (hcn : cs.size = n := by rfl) (h1 : cs.all (·.oneCell') = true := by simp [Value.oneCell']) :
    wpX P ops Q ((o, 1) :: (o2, 2) :: rest) (fr fl A) w := by
  refine X_s (fun X K hK => ?_) hd hg
  have hrun : (execOp (fr fl A).eval o).run P (w.later X) = .ok (.value (.pointer (some ⟨(w.later X).heap.size, 0, none⟩))) ((w.later X).alloc (.cells z.cells E)) := by
    unfold execOp
    simp only [ho, Instr.alloc, Sem.run_bind, hz, Result.andThen_ok, newVar, newRow, newObj, Sem.run, World.alloc_eq, Sem.run_pure]
  unfold runV
  rw [hrun]
  refine hK _ _ (Ext.alloc _ _) ?_
  refine X_w (fun Y K hK => ?_) hd2 hg2
  have hb : ((w.later X).alloc (.cells z.cells E)).heap[(w.later X).heap.size]? = some (.cells z.cells E) := heap_alloc_new _ _
  have hlt : (w.later X).heap.size < ((w.later X).alloc (.cells z.cells E)).heap.size := by simp
  have hb' : (((w.later X).alloc (.cells z.cells E)).later Y).heap[(w.later X).heap.size]? = some (.cells z.cells E) := (heap_later _ Y _ hlt).trans hb
  have hst := run_storeVar_row (P := P) (((w.later X).alloc (.cells z.cells E)).later Y) (w.later X).heap.size E E z.cells cs hb' (by rw [hn, hcn]) (by rw [hzn, hcn]) h1
  have hev : (fr ((d, .pointer (some ⟨(w.later X).heap.size, 0, none⟩)) :: fl) A).eval (.tmp d) = .pointer (some ⟨(w.later X).heap.size, 0, none⟩) := by
    rw [fr_eval _ _ _ hdA, lkp_hit]
  have hrun2 : (execOp (fr ((d, .pointer (some ⟨(w.later X).heap.size, 0, none⟩)) :: fl) A).eval o2).run P (((w.later X).alloc (.cells z.cells E)).later Y) = .ok .skip ((((w.later X).alloc (.cells z.cells E)).later Y).setRow (w.later X).heap.size cs) := by
    unfold execOp
    simp only [ho2, hev, (hx _).eq, Instr.storeAt, Instr.sureAddr, Sem.run_bind, Sem.run_pure, Result.andThen_ok, hst]
  unfold runV
  rw [hrun2]
  refine hK undef _ ?_
  have hE : Ext w ((((w.later X).alloc (.cells z.cells E)).later Y).setRow (w.later X).heap.size cs) := by
    have h0 := X.2.size
    refine ⟨?_, ?_, ?_, ?_, fun k hk _ => ?_⟩
    · exact Y.2.os.trans ((Ext.alloc _ _).os.trans X.2.os)
    · exact Y.2.tape.trans ((Ext.alloc _ _).tape.trans X.2.tape)
    · exact Y.2.output.trans ((Ext.alloc _ _).output.trans X.2.output)
    · rw [setRow_size]; exact Nat.le_trans h0 (Nat.le_trans (Ext.alloc _ _).size Y.2.size)
    · have h0' : w.heap.size ≤ (w.later X).heap.size := h0
      rw [setRow_other _ _ _ _ (by omega)]
      have hk1 : k < (w.later X).heap.size := by omega
      exact (heap_later _ Y k (by simp; omega)).trans ((Below.heap_alloc _ _ _ hk1).trans (heap_later _ X k hk))
  have hbn : ((((w.later X).alloc (.cells z.cells E)).later Y).setRow (w.later X).heap.size cs).heap[(w.later X).heap.size]? = some (.cells cs E) := setRow_heap _ _ _ _ _ _ hb'
  have hlt2 : (w.later X).heap.size < ((((w.later X).alloc (.cells z.cells E)).later Y).setRow (w.later X).heap.size cs).heap.size := (Array.getElem?_eq_some_iff.1 hbn).1
  have := h ⟨_, hE⟩ (w.later X).heap.size X.2.size hlt2 (fun k => cell_of_row _ _ _ _ _ _ hbn) (fun k => by
    show World.frozen? ((((w.later X).alloc (.cells z.cells E)).later Y).setRow (w.later X).heap.size cs) _ = false
    unfold World.frozen?; simp only [hbn]; simp) hbn
  exact this
end
end Go.Ws
