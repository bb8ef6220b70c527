import Derived.Test.YtkdcgmloapmpkaaProd1
import Derived.Test.YtkdcgmloapmpkaaBlk
namespace Go.Ws
open Go Go.RowKit Go.Proofs
set_option maxHeartbeats 2000000
set_option maxRecDepth 100000
set_option linter.unusedVariables false
set_option linter.unusedSimpArgs false

/-! ### Tables of producers -/
/-- What is kept of an ID. -/
structure Wr where
  high : Int
  marked : Int
  next : Int → Option Int
  opens : Int → Option Int
  done : Int → Option Bool
def Wr.zero : Wr := ⟨0, 0, fun _ => none, fun _ => none, fun _ => none⟩
/-- The greater one, as the code finds it. -/
def gmax (a b : Int) : Int := if a < b then b else a
/-- .. behind an entry of it, at a place. -/
def Wr.step (r : Wr) (n : Int) (e : Ent) : Wr :=
  if e.kind ≠ 1 then ⟨gmax r.high e.num, gmax r.marked e.num, r.next, upd r.opens e.num none, upd r.done e.num (some true)⟩
  else ⟨gmax r.high e.num, r.marked, upd r.next e.num (some (gmax ((r.next e.num).getD 0) (e.seq + 1))),
    if (!(r.opens e.num).isSome && !(r.done e.num).getD false) = true then upd r.opens e.num (some n) else r.opens, r.done⟩
def wrFrom (i : Int) : Nat → List Ent → Wr → Wr
  | _, [], r => r
  | n, e :: es, r => wrFrom i (n + 1) es (if e.id = i then r.step n e else r)
def wrOf (l : List Ent) (i : Int) : Wr := wrFrom i 0 l Wr.zero
theorem wrFrom_snoc (i : Int) (e : Ent) : ∀ (l : List Ent) (n : Nat) (r : Wr), wrFrom i n (l ++ [e]) r = if e.id = i then (wrFrom i n l r).step ((n + l.length : Nat)) e else wrFrom i n l r
  | [], n, r => by simp [wrFrom]
  | x :: xs, n, r => by
    simp only [List.cons_append, wrFrom, List.length_cons]
    rw [wrFrom_snoc i e xs, show n + 1 + xs.length = n + (xs.length + 1) by omega]
theorem wrOf_snoc (l : List Ent) (e : Ent) (i : Int) : wrOf (l ++ [e]) i = if e.id = i then (wrOf l i).step l.length e else wrOf l i := by
  have := wrFrom_snoc i e l 0 Wr.zero
  simpa [wrOf] using this
theorem of_no {l : List Ent} {e : Ent} (h : appendNo l e = 0) : rightB e = true ∧ l.length < 4096 ∧ lastEp l e = false := by
  unfold appendNo at h
  cases h1 : rightB e <;> simp [h1] at h
  refine ⟨rfl, ?_⟩
  by_cases h2 : 4096 ≤ l.length
  · simp [h2] at h
  · cases h3 : lastEp l e <;> simp [h2, h3] at h
    exact ⟨by omega, rfl⟩
theorem right_bounds {e : Ent} (h : rightB e = true) : -1 ≤ e.id ∧ e.id ≤ 3 ∧ 0 ≤ e.seq ∧ e.seq ≤ 2147483647 ∧ 1 ≤ e.kind ∧ e.kind ≤ 3 ∧ 0 ≤ e.num ∧ e.num ≤ 2147483647 ∧ (e.id < 0 → e.kind = 1) ∧ (0 ≤ e.id → 1 ≤ e.num) := by
  simp [rightB, inB] at h
  omega
abbrev vB (x : Bool) : Value := .bool x
/-- A table in memory: its block, its entries' slice, the blocks of its maps. -/
structure TabAt (w : World) (b : Nat) (u : Value) (mb : Nat → Nat → Nat) (g : Nat → Value) (l : List Ent) : Prop where
  blk : Blk w b 110 22 g
  g0 : g 0 = u
  g21 : g 21 = .bool true
  own : OwnE w u l
  high : ∀ i, i < 4 → g (1 + i * 5) = .int .i64 (wrOf l i).high
  marked : ∀ i, i < 4 → g (1 + i * 5 + 1) = .int .i64 (wrOf l i).marked
  next : ∀ i, i < 4 → g (1 + i * 5 + 2) = .map (some (mb i 0))
  opens : ∀ i, i < 4 → g (1 + i * 5 + 3) = .map (some (mb i 1))
  done : ∀ i, i < 4 → g (1 + i * 5 + 4) = .map (some (mb i 2))
  mnext : ∀ i, i < 4 → MapIs ki ki w (mb i 0) (wrOf l i).next
  mopens : ∀ i, i < 4 → MapIs ki ki w (mb i 1) (wrOf l i).opens
  mdone : ∀ i, i < 4 → MapIs ki vB w (mb i 2) (wrOf l i).done
  inj : ∀ i j i' j', i < 4 → j < 3 → i' < 4 → j' < 3 → mb i j = mb i' j' → i = i' ∧ j = j'
/-- The blocks of a table. -/
def Foot (b : Nat) (u : Value) (mb : Nat → Nat → Nat) (k : Nat) : Prop := k = b ∨ u.ownBlock = some k ∨ ∃ i j, i < 4 ∧ j < 3 ∧ k = mb i j
/-- A table of entries, all of whose blocks are in F. -/
def Tab (w : World) (b : Nat) (F : Nat → Prop) (l : List Ent) : Prop := ∃ u mb g, TabAt w b u mb g l ∧ ∀ k, Foot b u mb k → F k
section
variable {w w' : World} {b : Nat} {u : Value} {mb : Nat → Nat → Nat} {g : Nat → Value} {l : List Ent} {F G : Nat → Prop}
theorem TabAt.seen (h : TabAt w b u mb g l) : Seen w b u l :=
  ⟨h.blk.lt, by rw [h.blk.cell (by omega), h.g21], by rw [h.blk.cell (by omega), h.g0], h.own.rd Ent.len⟩
theorem TabAt.mod (h : TabAt w b u mb g l) (hM : Mod G w w') (hF : ∀ k, Foot b u mb k → ¬ G k) : TabAt w' b u mb g l := by
  have hmb : ∀ i j, i < 4 → j < 3 → ¬ G (mb i j) := fun i j hi hj => hF _ (.inr (.inr ⟨i, j, hi, hj, rfl⟩))
  exact ⟨h.blk.mod hM (hF _ (.inl rfl)), h.g0, h.g21, h.own.mod hM (fun k hk => hF k (.inr (.inl hk))), h.high, h.marked, h.next, h.opens, h.done,
    fun i hi => (h.mnext i hi).mod hM (hmb i 0 hi (by omega)), fun i hi => (h.mopens i hi).mod hM (hmb i 1 hi (by omega)), fun i hi => (h.mdone i hi).mod hM (hmb i 2 hi (by omega)), h.inj⟩
theorem Tab.mod (h : Tab w b F l) (hM : Mod G w w') (hF : ∀ k, F k → ¬ G k) : Tab w' b F l := by
  obtain ⟨u, mb, g, h, hf⟩ := h
  exact ⟨u, mb, g, h.mod hM (fun k hk => hF k (hf k hk)), hf⟩
theorem Tab.later (h : Tab w b F l) (hE : Ext w w') : Tab w' b F l := h.mod hE (fun _ _ h => h)
theorem Tab.mono (h : Tab w b F l) (hF : ∀ k, F k → G k) : Tab w b G l := by
  obtain ⟨u, mb, g, h, hf⟩ := h
  exact ⟨u, mb, g, h, fun k hk => hF k (hf k hk)⟩
theorem TabAt.lt (h : TabAt w b u mb g l) : ∀ k, Foot b u mb k → k < w.heap.size := by
  rintro k (rfl | hk | ⟨i, j, hi, hj, rfl⟩)
  · exact h.blk.lt
  · exact h.own.lt k hk
  · match j, hj with
    | 0, _ => exact (h.mnext i hi).lt
    | 1, _ => exact (h.mopens i hi).lt
    | 2, _ => exact (h.mdone i hi).lt
theorem Tab.lt (h : Tab w b F l) : b < w.heap.size := by obtain ⟨u, mb, g, h, hf⟩ := h; exact h.blk.lt
/-- Only what is there is in its blocks. -/
theorem Tab.here (h : Tab w b F l) : Tab w b (fun k => F k ∧ k < w.heap.size) l := by
  obtain ⟨u, mb, g, h, hf⟩ := h
  exact ⟨u, mb, g, h, fun k hk => ⟨hf k hk, h.lt k hk⟩⟩
theorem not_map_cells {w : World} {k : Nat} {cs : Array Value} {E : TypeId} {κ β : Type} [DecidableEq κ] {kenc : κ → Value} {venc : β → Value} {f : κ → Option β} (h : w.heap[k]? = some (.cells cs E)) (hm : MapIs kenc venc w k f) : False := by
  obtain ⟨L, c, hm, _⟩ := hm
  rw [hm.heap] at h
  cases h
theorem TabAt.u_ne_b (h : TabAt w b u mb g l) : u.ownBlock ≠ some b := by
  intro hu
  obtain ⟨cs, hb, _⟩ := h.blk
  rcases h.own.2 with ⟨rfl, _⟩ | ⟨k, cap, cur, rfl, _, hk, _⟩
  · cases hu
  · cases hu
    rw [hb] at hk
    cases hk
theorem TabAt.u_ne_m (h : TabAt w b u mb g l) {i j : Nat} (hi : i < 4) (hj : j < 3) : u.ownBlock ≠ some (mb i j) := by
  intro hu
  rcases h.own.2 with ⟨rfl, _⟩ | ⟨k, cap, cur, rfl, _, hk, _⟩
  · cases hu
  · cases hu
    match j, hj with
    | 0, _ => exact not_map_cells hk (h.mnext i hi)
    | 1, _ => exact not_map_cells hk (h.mopens i hi)
    | 2, _ => exact not_map_cells hk (h.mdone i hi)
theorem TabAt.b_ne_m (h : TabAt w b u mb g l) {i j : Nat} (hi : i < 4) (hj : j < 3) : b ≠ mb i j := by
  intro hu
  obtain ⟨cs, hb, _⟩ := h.blk
  subst hu
  match j, hj with
  | 0, _ => exact not_map_cells hb (h.mnext i hi)
  | 1, _ => exact not_map_cells hb (h.mopens i hi)
  | 2, _ => exact not_map_cells hb (h.mdone i hi)
theorem TabAt.lt_m (h : TabAt w b u mb g l) {i j : Nat} (hi : i < 4) (hj : j < 3) : mb i j < w.heap.size := h.lt _ (.inr (.inr ⟨i, j, hi, hj, rfl⟩))
end
/-- Amidst Append: the entry is there, the ID's numbers are h and m, its maps f0, f1, f2. -/
structure Mid (w0 W : World) (b bn : Nat) (u v : Value) (mb : Nat → Nat → Nat) (i : Nat) (l : List Ent) (e : Ent) (g g' : Nat → Value) (h m : Int) (f0 f1 : Int → Option Int) (f2 : Int → Option Bool) : Prop where
  tab : TabAt w0 b u mb g l
  i4 : i < 4
  bn0 : ∀ k, Foot b u mb k → k < bn
  bn1 : bn < W.heap.size
  blk : Blk W b 110 22 g'
  box : ∀ k, W.cell? ⟨bn, k, none⟩ = #[.int .i64 e.ep, .int .i64 e.id, .int .i64 e.num, .int .i64 e.seq, .int .i64 e.kind, .int .i64 e.val][k]?
  own : OwnE W v (l ++ [e])
  vbk : ∀ k, v.ownBlock = some k → u.ownBlock = some k ∨ bn < k
  m0 : MapIs ki ki W (mb i 0) f0
  m1 : MapIs ki ki W (mb i 1) f1
  m2 : MapIs ki vB W (mb i 2) f2
  mod : Mod (fun k => k = b ∨ u.ownBlock = some k ∨ ∃ j, j < 3 ∧ k = mb i j) w0 W
  g0 : g' 0 = v
  gh : g' (1 + i * 5) = .int .i64 h
  gm : g' (1 + i * 5 + 1) = .int .i64 m
  gr : ∀ k, k ≠ 0 → k ≠ 1 + i * 5 → k ≠ 1 + i * 5 + 1 → g' k = g k
section
variable {w0 W W' : World} {b bn : Nat} {u v : Value} {mb : Nat → Nat → Nat} {i : Nat} {l : List Ent} {e : Ent} {g g' : Nat → Value} {h m : Int} {f0 f1 : Int → Option Int} {f2 : Int → Option Bool}
theorem Mid.v_ne_b (M : Mid w0 W b bn u v mb i l e g g' h m f0 f1 f2) : v.ownBlock ≠ some b := by
  intro hu
  rcases M.vbk b hu with h | h
  · exact M.tab.u_ne_b h
  · have := M.bn0 b (.inl rfl); omega
theorem Mid.v_ne_m (M : Mid w0 W b bn u v mb i l e g g' h m f0 f1 f2) {j : Nat} (hj : j < 3) : v.ownBlock ≠ some (mb i j) := by
  intro hu
  rcases M.vbk _ hu with h | h
  · exact M.tab.u_ne_m M.i4 hj h
  · have := M.bn0 (mb i j) (.inr (.inr ⟨i, j, M.i4, hj, rfl⟩)); omega
theorem Mid.m_ne_m (M : Mid w0 W b bn u v mb i l e g g' h m f0 f1 f2) {j k : Nat} (hj : j < 3) (hk : k < 3) (hne : j ≠ k) : mb i j ≠ mb i k := fun h => hne (M.tab.inj i j i k M.i4 hj M.i4 hk h).2
theorem Mid.bn_ne_m (M : Mid w0 W b bn u v mb i l e g g' h m f0 f1 f2) {j : Nat} (hj : j < 3) : bn ≠ mb i j := by
  have := M.bn0 (mb i j) (.inr (.inr ⟨i, j, M.i4, hj, rfl⟩)); omega
theorem Mid.store (M : Mid w0 W b bn u v mb i l e g g' h m f0 f1 f2) (hM : Mod (· = b) W W') {g'' : Nat → Value} {h' m' : Int} (hB : Blk W' b 110 22 g'') (h0 : g'' 0 = g' 0)
    (gh : g'' (1 + i * 5) = .int .i64 h') (gm : g'' (1 + i * 5 + 1) = .int .i64 m') (gr : ∀ k, k ≠ 0 → k ≠ 1 + i * 5 → k ≠ 1 + i * 5 + 1 → g'' k = g' k) : Mid w0 W' b bn u v mb i l e g g'' h' m' f0 f1 f2 := by
  have hb := M.bn0 b (.inl rfl)
  have hbm : ∀ j, j < 3 → ¬ (mb i j = b) := fun j hj => fun h => M.tab.b_ne_m M.i4 hj h.symm
  exact ⟨M.tab, M.i4, M.bn0, Nat.lt_of_lt_of_le M.bn1 hM.size, hB, fun k => (cell?_mod hM M.bn1 (by omega)).trans (M.box k), M.own.mod hM (fun k hk => fun e => M.v_ne_b (e ▸ hk)), M.vbk,
    M.m0.mod hM (hbm 0 (by omega)), M.m1.mod hM (hbm 1 (by omega)), M.m2.mod hM (hbm 2 (by omega)), Mod.trans M.mod hM (fun _ _ h => h) (fun _ _ h => .inl h), h0.trans M.g0, gh, gm,
    fun k h0 h1 h2 => (gr k h0 h1 h2).trans (M.gr k h0 h1 h2)⟩
theorem Mid.storeH (M : Mid w0 W b bn u v mb i l e g g' h m f0 f1 f2) (hM : Mod (· = b) W W') {h' : Int} (hB : Blk W' b 110 22 (put g' (1 + i * 5) [.int .i64 h'])) :
    Mid w0 W' b bn u v mb i l e g (put g' (1 + i * 5) [.int .i64 h']) h' m f0 f1 f2 :=
  M.store hM hB (by rw [put_one, if_neg (by omega)]) (by rw [put_one, if_pos rfl]) (by rw [put_one, if_neg (by omega)]; exact M.gm) (fun k _ h1 _ => by rw [put_one, if_neg h1])
theorem Mid.storeM (M : Mid w0 W b bn u v mb i l e g g' h m f0 f1 f2) (hM : Mod (· = b) W W') {m' : Int} (hB : Blk W' b 110 22 (put g' (1 + i * 5 + 1) [.int .i64 m'])) :
    Mid w0 W' b bn u v mb i l e g (put g' (1 + i * 5 + 1) [.int .i64 m']) h m' f0 f1 f2 :=
  M.store hM hB (by rw [put_one, if_neg (by omega)]) (by rw [put_one, if_neg (by omega)]; exact M.gh) (by rw [put_one, if_pos rfl]) (fun k _ _ h1 => by rw [put_one, if_neg h1])
theorem Mid.map (M : Mid w0 W b bn u v mb i l e g g' h m f0 f1 f2) {j : Nat} (hj : j < 3) (hM : Mod (· = mb i j) W W') {f0' f1' : Int → Option Int} {f2' : Int → Option Bool}
    (k0 : MapIs ki ki W' (mb i 0) f0') (k1 : MapIs ki ki W' (mb i 1) f1') (k2 : MapIs ki vB W' (mb i 2) f2') : Mid w0 W' b bn u v mb i l e g g' h m f0' f1' f2' := by
  have hb := M.bn0 b (.inl rfl)
  exact ⟨M.tab, M.i4, M.bn0, Nat.lt_of_lt_of_le M.bn1 hM.size, M.blk.mod hM (M.tab.b_ne_m M.i4 hj), fun k => (cell?_mod hM M.bn1 (M.bn_ne_m hj)).trans (M.box k), M.own.mod hM (fun k hk => fun e => M.v_ne_m hj (e ▸ hk)), M.vbk,
    k0, k1, k2, Mod.trans M.mod hM (fun _ _ h => h) (fun _ _ h => .inr (.inr ⟨j, hj, h⟩)), M.g0, M.gh, M.gm, M.gr⟩
theorem Mid.set0 (M : Mid w0 W b bn u v mb i l e g g' h m f0 f1 f2) (hM : Mod (· = mb i 0) W W') {f : Int → Option Int} (k : MapIs ki ki W' (mb i 0) f) : Mid w0 W' b bn u v mb i l e g g' h m f f1 f2 :=
  M.map (by omega) hM k (M.m1.mod hM (M.m_ne_m (by omega) (by omega) (by omega))) (M.m2.mod hM (M.m_ne_m (by omega) (by omega) (by omega)))
theorem Mid.set1 (M : Mid w0 W b bn u v mb i l e g g' h m f0 f1 f2) (hM : Mod (· = mb i 1) W W') {f : Int → Option Int} (k : MapIs ki ki W' (mb i 1) f) : Mid w0 W' b bn u v mb i l e g g' h m f0 f f2 :=
  M.map (by omega) hM (M.m0.mod hM (M.m_ne_m (by omega) (by omega) (by omega))) k (M.m2.mod hM (M.m_ne_m (by omega) (by omega) (by omega)))
theorem Mid.set2 (M : Mid w0 W b bn u v mb i l e g g' h m f0 f1 f2) (hM : Mod (· = mb i 2) W W') {f : Int → Option Bool} (k : MapIs ki vB W' (mb i 2) f) : Mid w0 W' b bn u v mb i l e g g' h m f0 f1 f :=
  M.map (by omega) hM (M.m0.mod hM (M.m_ne_m (by omega) (by omega) (by omega))) (M.m1.mod hM (M.m_ne_m (by omega) (by omega) (by omega))) k
/-- What is read there. -/
theorem Mid.reads (M : Mid w0 W b bn u v mb i l e g g' h m f0 f1 f2) : b < W.heap.size ∧ W.cell? ⟨b, 1 + i * 5, none⟩ = some (.int .i64 h) ∧ W.cell? ⟨b, 1 + i * 5 + 1, none⟩ = some (.int .i64 m) ∧
    W.cell? ⟨b, 1 + i * 5 + 2, none⟩ = some (.map (some (mb i 0))) ∧ W.cell? ⟨b, 1 + i * 5 + 3, none⟩ = some (.map (some (mb i 1))) ∧ W.cell? ⟨b, 1 + i * 5 + 4, none⟩ = some (.map (some (mb i 2))) := by
  have h4 := M.i4
  exact ⟨M.blk.lt, by rw [M.blk.cell (by omega), M.gh], by rw [M.blk.cell (by omega), M.gm], by rw [M.blk.cell (by omega), M.gr _ (by omega) (by omega) (by omega), M.tab.next i h4],
    by rw [M.blk.cell (by omega), M.gr _ (by omega) (by omega) (by omega), M.tab.opens i h4], by rw [M.blk.cell (by omega), M.gr _ (by omega) (by omega) (by omega), M.tab.done i h4]⟩
/-- The table at the end. -/
theorem Mid.close (M : Mid w0 W b bn u v mb i l e g g' h m f0 f1 f2) (hsame : wrOf (l ++ [e]) i = ⟨h, m, f0, f1, f2⟩) (hother : ∀ j : Nat, j < 4 → j ≠ i → wrOf (l ++ [e]) j = wrOf l j) : TabAt W b v mb g' (l ++ [e]) := by
  have h4 := M.i4
  have hno : ∀ j k, j ≠ i → j < 4 → k < 3 → ¬ (mb j k = b ∨ u.ownBlock = some (mb j k) ∨ ∃ k', k' < 3 ∧ mb j k = mb i k') := by
    rintro j k hj hj4 hk (h | h | ⟨k', hk', h⟩)
    · exact M.tab.b_ne_m hj4 hk h.symm
    · exact M.tab.u_ne_m hj4 hk h
    · exact hj (M.tab.inj j k i k' hj4 hk h4 hk' h).1
  refine ⟨M.blk, M.g0, (M.gr 21 (by omega) (by omega) (by omega)).trans M.tab.g21, M.own, ?_, ?_, ?_, ?_, ?_, ?_, ?_, ?_, M.tab.inj⟩
  · intro j hj
    by_cases hji : j = i
    · subst hji; rw [hsame]; exact M.gh
    · rw [hother j hj hji, M.gr _ (by omega) (by omega) (by omega)]; exact M.tab.high j hj
  · intro j hj
    by_cases hji : j = i
    · subst hji; rw [hsame]; exact M.gm
    · rw [hother j hj hji, M.gr _ (by omega) (by omega) (by omega)]; exact M.tab.marked j hj
  · intro j hj; rw [M.gr _ (by omega) (by omega) (by omega)]; exact M.tab.next j hj
  · intro j hj; rw [M.gr _ (by omega) (by omega) (by omega)]; exact M.tab.opens j hj
  · intro j hj; rw [M.gr _ (by omega) (by omega) (by omega)]; exact M.tab.done j hj
  · intro j hj
    by_cases hji : j = i
    · subst hji; rw [hsame]; exact M.m0
    · rw [hother j hj hji]; exact (M.tab.mnext j hj).mod M.mod (hno j 0 hji hj (by omega))
  · intro j hj
    by_cases hji : j = i
    · subst hji; rw [hsame]; exact M.m1
    · rw [hother j hj hji]; exact (M.tab.mopens j hj).mod M.mod (hno j 1 hji hj (by omega))
  · intro j hj
    by_cases hji : j = i
    · subst hji; rw [hsame]; exact M.m2
    · rw [hother j hj hji]; exact (M.tab.mdone j hj).mod M.mod (hno j 2 hji hj (by omega))
theorem Mid.fin (M : Mid w0 W b bn u v mb i l e g g' h m f0 f1 f2) (hsame : wrOf (l ++ [e]) i = ⟨h, m, f0, f1, f2⟩) (hother : ∀ j : Nat, j < 4 → j ≠ i → wrOf (l ++ [e]) j = wrOf l j) {w : World} {F : Nat → Prop} (hF : ∀ k, Foot b u mb k → F k) (hw : w.heap.size ≤ bn) (hE : Ext w w0) :
    Mod F w W ∧ Tab W b (fun k => F k ∨ w.heap.size ≤ k) (l ++ [e]) := by
  refine ⟨Mod.trans hE M.mod (fun _ _ h => h.elim) ?_, _, _, _, M.close hsame hother, ?_⟩
  · rintro k _ (rfl | h | ⟨j, hj, rfl⟩)
    · exact hF _ (.inl rfl)
    · exact hF _ (.inr (.inl h))
    · exact hF _ (.inr (.inr ⟨i, j, M.i4, hj, rfl⟩))
  · rintro k (rfl | h | ⟨j, j', hj, hj', rfl⟩)
    · exact .inl (hF _ (.inl rfl))
    · rcases M.vbk k h with h | h
      · exact .inl (hF _ (.inr (.inl h)))
      · exact .inr (by omega)
    · exact .inl (hF _ (.inr (.inr ⟨j, j', hj, hj', rfl⟩)))
theorem Mid.start (T : TabAt w0 b u mb g l) (hi : i < 4) (hbn : ∀ k, Foot b u mb k → k < bn) (hb1 : bn < w0.heap.size)
    (box : ∀ k, w0.cell? ⟨bn, k, none⟩ = #[.int .i64 e.ep, .int .i64 e.id, .int .i64 e.num, .int .i64 e.seq, .int .i64 e.kind, .int .i64 e.val][k]?) {w1 W1 : World} (hE : Ext w0 w1) (hM1 : Mod (fun k => u.ownBlock = some k) w1 W1)
    (hO : OwnE W1 v (l ++ [e])) (hF : v.ownBlock = u.ownBlock ∨ ∃ k, v.ownBlock = some k ∧ w1.heap.size ≤ k) (hM2 : Mod (· = b) W1 W) (hB : Blk W b 110 22 (put g 0 [v])) :
    Mid w0 W b bn u v mb i l e g (put g 0 [v]) (wrOf l i).high (wrOf l i).marked (wrOf l i).next (wrOf l i).opens (wrOf l i).done := by
  have hbb := hbn b (.inl rfl)
  have hs1 := hE.size
  have hvb : ∀ k, v.ownBlock = some k → u.ownBlock = some k ∨ bn < k := by
    intro k hk
    rcases hF with h | ⟨k', h, hle⟩
    · exact .inl (h ▸ hk)
    · rw [h] at hk; cases hk; exact .inr (by omega)
  have hM01 : Mod (fun k => u.ownBlock = some k) w0 W1 := Mod.trans hE hM1 (fun _ _ h => h.elim) (fun _ _ h => h)
  have hmm : ∀ j, j < 3 → ¬ (u.ownBlock = some (mb i j)) := fun j hj => T.u_ne_m hi hj
  have hbm : ∀ j, j < 3 → ¬ (mb i j = b) := fun j hj h => T.b_ne_m hi hj h.symm
  refine ⟨T, hi, hbn, Nat.lt_of_lt_of_le hb1 (Nat.le_trans hM01.size hM2.size), hB, fun k => ?_, hO.mod hM2 ?_, hvb, ((T.mnext i hi).mod hM01 (hmm 0 (by omega))).mod hM2 (hbm 0 (by omega)), ((T.mopens i hi).mod hM01 (hmm 1 (by omega))).mod hM2 (hbm 1 (by omega)),
    ((T.mdone i hi).mod hM01 (hmm 2 (by omega))).mod hM2 (hbm 2 (by omega)), Mod.trans hM01 hM2 (fun _ _ h => .inr (.inl h)) (fun _ _ h => .inl h), by rw [put_one, if_pos rfl], ?_, ?_, ?_⟩
  · refine (cell?_mod hM2 (Nat.lt_of_lt_of_le hb1 hM01.size) (by omega)).trans ((cell?_mod hM01 hb1 ?_).trans (box k))
    intro h
    have := hbn bn (.inr (.inl h)); omega
  · intro k hk h
    rcases hvb k hk with h' | h'
    · exact T.u_ne_b (h ▸ h')
    · omega
  · rw [put_one, if_neg (by omega)]; exact T.high i hi
  · rw [put_one, if_neg (by omega)]; exact T.marked i hi
  · intro k h0 _ _; rw [put_one, if_neg h0]
end
end Go.Ws
