import Derived.Test.YtkdcgmloapmpkaaFork
namespace Go.Ws
open Go Go.RowKit
set_option linter.unusedVariables false
set_option linter.unusedSimpArgs false

/-! ### A block of cells as a function; writes to blocks and maps -/
/-- Block b has n cells, and they are these. -/
def Blk (w : World) (b : Nat) (E : TypeId) (n : Nat) (g : Nat → Value) : Prop := ∃ cs, w.heap[b]? = some (.cells cs E) ∧ cs.size = n ∧ ∀ k, k < n → cs[k]? = some (g k)
section
variable {P : Program} {w w' : World} {b n : Nat} {E : TypeId} {g : Nat → Value}
theorem Blk.lt (h : Blk w b E n g) : b < w.heap.size := by obtain ⟨cs, h, _⟩ := h; exact (Array.getElem?_eq_some_iff.1 h).1
theorem Blk.cell (h : Blk w b E n g) {k : Nat} (hk : k < n) : w.cell? ⟨b, k, none⟩ = some (g k) := by
  obtain ⟨cs, h, hs, hg⟩ := h
  rw [← hg k hk]
  simp [World.cell?, h]
theorem Blk.frozen (h : Blk w b E n g) (k : Nat) : w.frozen? ⟨b, k, none⟩ = false := by
  obtain ⟨cs, h, hs, hg⟩ := h
  simp [World.frozen?, h]
theorem Blk.of_heap (h : Blk w b E n g) (hb : w'.heap[b]? = w.heap[b]?) : Blk w' b E n g := by
  obtain ⟨cs, h, hs, hg⟩ := h
  exact ⟨cs, hb.trans h, hs, hg⟩
theorem Blk.later (h : Blk w b E n g) (hE : Ext w w') : Blk w' b E n g := h.of_heap (hE.block b h.lt (fun h => h))
theorem Blk.mod {F : Nat → Prop} (h : Blk w b E n g) (hM : Mod F w w') (hb : ¬ F b) : Blk w' b E n g := h.of_heap (hM.block b h.lt hb)
theorem Blk.congr {g' : Nat → Value} (h : Blk w b E n g) (hg : ∀ k, k < n → g' k = g k) : Blk w b E n g' := by
  obtain ⟨cs, h, hs, hk⟩ := h
  exact ⟨cs, h, hs, fun k hlt => by rw [hg k hlt]; exact hk k hlt⟩
theorem Blk.new {cs : Array Value} (h : w.heap[b]? = some (.cells cs E)) : Blk w b E cs.size (fun k => cs.getD k undef) :=
  ⟨cs, h, rfl, fun k hk => by simp [hk]⟩
theorem cell?_mod {F : Nat → Prop} (hM : Mod F w w') {k o : Nat} (hk : k < w.heap.size) (hF : ¬ F k) : w'.cell? ⟨k, o, none⟩ = w.cell? ⟨k, o, none⟩ := World.cell?_of_block (hM.block k hk hF)
theorem Blk.one {v : Value} (h : w.heap[b]? = some (.cells #[v] E)) : Blk w b E 1 (fun _ => v) :=
  ⟨_, h, rfl, fun k hk => by obtain rfl : k = 0 := by omega
                             rfl⟩
/-- A segment of cells put in. -/
def put (g : Nat → Value) (o : Nat) (seg : List Value) : Nat → Value := fun k => if o ≤ k ∧ k < o + seg.length then seg.getD (k - o) undef else g k
theorem put_one (g : Nat → Value) (o : Nat) (v : Value) (k : Nat) : put g o [v] k = if k = o then v else g k := by
  unfold put
  by_cases h : k = o
  · subst h; simp
  · rw [if_neg (by simp; omega), if_neg h]
theorem put_out {g : Nat → Value} {o : Nat} {seg : List Value} {k : Nat} (h : k < o ∨ o + seg.length ≤ k) : put g o seg k = g k := by unfold put; rw [if_neg (by omega)]
theorem put_in {g : Nat → Value} {o : Nat} {seg : List Value} {k : Nat} (j : Nat) (hj : j < seg.length) (h : k = o + j) : put g o seg k = seg.getD j undef := by
  unfold put; rw [if_pos (by omega), show k - o = j by omega]
theorem run_store_blk (h : Blk w b E n g) (t : TypeId) (o : Nat) (v : Value) (hi : (P.info? t).map (·.size) = some v.cells.size) (ho : o + v.cells.size ≤ n) (h1 : v.cells.all (·.oneCell') = true) :
    ∃ w', (Instr.storeAt t (.pointer (some ⟨b, o, none⟩)) v).run P w = .ok () w' ∧ Mod (· = b) w w' ∧ Blk w' b E n (put g o v.cells.toList) := by
  obtain ⟨cs, h, hs, hg⟩ := h
  have hst := run_storeCells_at P b o E v.cells.toList 0 cs w h (by simp; omega) (fun u hu => (Array.all_eq_true_iff_forall_mem.1 h1) u (by simpa using hu))
  refine ⟨w.setRow b (cs.toList.take (o + 0) ++ v.cells.toList ++ cs.toList.drop (o + 0 + v.cells.toList.length)).toArray, ?_, ?_, ?_⟩
  · cases hq : P.info? t with
    | none => simp [hq] at hi
    | some i =>
      have hsz : v.cells.size = i.size := by simp [hq] at hi; omega
      simp only [Instr.storeAt, Instr.sureAddr, Sem.run_bind, Sem.run_pure, Result.andThen_ok]
      simp [storeVar, sizeOf, typeInfo, hq, hsz]
      simpa [hsz] using hst
  · refine ⟨rfl, rfl, rfl, by rw [setRow_size]; exact Nat.le_refl _, fun k hk hne => setRow_other _ _ _ _ (fun e => hne (by first | exact e | exact e.symm))⟩
  · refine ⟨_, setRow_heap _ _ _ _ _ _ h, by simp; omega, fun k hk => ?_⟩
    simp only [Nat.add_zero, List.getElem?_toArray]
    unfold put
    have hcl : cs.toList.length = n := by simp [hs]
    by_cases h1 : k < o
    · rw [if_neg (by omega), List.append_assoc, List.getElem?_append_left (by simp; omega), List.getElem?_take, if_pos h1, ← hg k hk, Array.getElem?_toList]
    · by_cases h2 : k < o + v.cells.toList.length
      · rw [if_pos ⟨by omega, h2⟩, List.getElem?_append_left (by simp at h2 ⊢; omega), List.getElem?_append_right (by simp; omega)]
        have e : k - (cs.toList.take o).length = k - o := by simp; omega
        rw [e, List.getD_eq_getElem?_getD]
        have hlt : k - o < v.cells.toList.length := by omega
        rw [List.getElem?_eq_getElem hlt]; rfl
      · rw [if_neg (by omega), List.getElem?_append_right (by simp at h2 ⊢; omega), List.getElem?_drop, ← hg k hk, Array.getElem?_toList]
        congr 1
        simp at h2 ⊢; omega
variable {Q : Post} {A : Act} {fl : List (Nat × Value)} {ops : Array Oper} {o : Oper}
/-- A store into a block. -/
theorem X_store {rest : List (Oper × Nat)} {x y : Operand} {t : TypeId} {off : Nat} {v : Value} (hb : Blk w b E n g)
    (h : ∀ W', Mod (· = b) w W' → Blk W' b E n (put g off v.cells.toList) → wpX P ops Q rest (fr fl A) W')
    (ho : o.op = .store t x y := by rfl) (hd : o.dst = none := by rfl) (hg : o.guard = none := by rfl)
    (hx : Is ((fr fl A).eval x) (.pointer (some ⟨b, off, none⟩)) := by go_simp; exact Is.mk _) (hy : Is ((fr fl A).eval y) v := by go_simp; exact Is.mk _)
    (hi : (P.info? t).map (·.size) = some v.cells.size := by kernel_rfl) (hoff : off + v.cells.size ≤ n := by simp [Value.cells] <;> omega) (h1 : v.cells.all (·.oneCell') = true := by simp [Value.cells, Value.oneCell']) :
    wpX P ops Q ((o, 2) :: rest) (fr fl A) w := by
  refine X_w (fun X K hK => ?_) hd hg
  obtain ⟨W', hr, hM, hB⟩ := run_store_blk (P := P) (w := w.later X) (hb.later X.2) t off v hi hoff h1
  unfold runV execOp
  simp only [ho, hx.eq, hy.eq, Sem.run_bind, hr, Result.andThen_ok, Sem.run_pure]
  exact hK undef W' (h W' (Mod.trans X.2 hM (fun _ _ h => h.elim) (fun _ _ h => h)) hB)
end
section
variable {κ β : Type} [DecidableEq κ] {P : Program} {t kt et : TypeId} {kenc : κ → Value} {venc : β → Value} {w w' : World} {b : Nat} {f : κ → Option β}
variable {Q : Post} {A : Act} {fl : List (Nat × Value)} {ops : Array Oper} {o : Oper}
theorem MapIs.later (h : MapIs kenc venc w b f) (hE : Ext w w') : MapIs kenc venc w' b f := h.of_heap (hE.block b h.lt (fun h => h))
theorem MapIs.mod {F : Nat → Prop} (h : MapIs kenc venc w b f) (hM : Mod F w w') (hb : ¬ F b) : MapIs kenc venc w' b f := h.of_heap (hM.block b h.lt hb)
/-- m[k] = v -/
theorem X_mapset {rest : List (Oper × Nat)} {m x y : Operand} (hm : MapIs kenc venc w b f) (hK : Keys P kt kenc) (ht : P.underlying t = some (.map kt et)) (k : κ) (v : β)
    (h : ∀ W', Mod (· = b) w W' → MapIs kenc venc W' b (upd f k (some v)) → wpX P ops Q rest (fr fl A) W')
    (ho : o.op = .mapUpdate t m x y := by rfl) (hd : o.dst = none := by rfl) (hg : o.guard = none := by rfl)
    (hmm : Is ((fr fl A).eval m) (.map (some b)) := by go_simp; exact Is.mk _) (hx : Is ((fr fl A).eval x) (kenc k) := by go_simp; exact Is.mk _) (hy : Is ((fr fl A).eval y) (venc v) := by go_simp; exact Is.mk _) :
    wpX P ops Q ((o, 2) :: rest) (fr fl A) w := by
  refine X_w (fun X K hKK => ?_) hd hg
  obtain ⟨ob, hr, hM⟩ := MapIs.update (P := P) (w := w.later X) hK ht (hm.later X.2) k v
  unfold runV execOp
  simp only [ho, hmm.eq, hx.eq, hy.eq, Sem.run_bind, hr, Result.andThen_ok, Sem.run_pure]
  exact hKK undef _ (h _ (Mod.trans X.2 (mod_setObj _ _ _) (fun _ _ h => h.elim) (fun _ _ h => h)) hM)
/-- delete(m, k) -/
theorem X_mapdel {rest : List (Oper × Nat)} {m x : Operand} {ts : Array TypeId} (hm : MapIs kenc venc w b f) (hK : Keys P kt kenc) (ht : P.underlying t = some (.map kt et)) (k : κ) (hts : ts[0]? = some t)
    (h : ∀ W', Mod (· = b) w W' → MapIs kenc venc W' b (upd f k none) → wpX P ops Q rest (fr fl A) W')
    (ho : o.op = .call { callee := .builtin .delete, args := #[m, x], argTypes := ts } := by rfl) (hd : o.dst = none := by rfl) (hg : o.guard = none := by rfl)
    (hmm : Is ((fr fl A).eval m) (.map (some b)) := by go_simp; exact Is.mk _) (hx : Is ((fr fl A).eval x) (kenc k) := by go_simp; exact Is.mk _) :
    wpX P ops Q ((o, 2) :: rest) (fr fl A) w := by
  refine X_w (fun X K hKK => ?_) hd hg
  obtain ⟨ob, hr, hM⟩ := MapIs.delete (P := P) (w := w.later X) hK ht (hm.later X.2) k ts hts o.type
  unfold runV execOp
  simp only [ho, resolve, invoke, builtin, Sem.run_bind, Sem.run_pure, Result.andThen_ok, List.map_toArray, List.map_cons, List.map_nil, hmm.eq, hx.eq, hr]
  exact hKK _ _ (h _ (Mod.trans X.2 (mod_setObj _ _ _) (fun _ _ h => h.elim) (fun _ _ h => h)) hM)
/-- m[k], read. -/
theorem quiet_look {m x : Operand} (hm : MapIs kenc venc w b f) (hK : Keys P kt kenc) (ht : P.underlying t = some (.map kt et)) {z : β} (hz : ∀ w, (zeroValue et).run P w = .ok (venc z) w) (k : κ) {ok : Bool} {a : Act}
    (ho : o.op = .lookup t m x ok) (hmm : a.eval m = .map (some b)) (hx : a.eval x = kenc k) (X : Later w) :
    o.quietAt P a (Ext (w.later X)) (w.later X) (if ok then .tuple #[venc ((f k).getD z), .bool (f k).isSome] else venc ((f k).getD z)) := by
  have e : ((f k).map venc).getD (venc z) = venc ((f k).getD z) := by cases f k <;> rfl
  have := MapIs.lookup (P := P) (w := w.later X) hK ht (hz (w.later X)) (hm.later X.2) k ok
  rw [e] at this
  unfold Oper.quietAt execOp
  simp only [ho, hmm, hx, Sem.run_bind, this, Result.andThen_ok, Sem.run_pure, Oper.quietUpon]
  exact ⟨trivial, trivial⟩
theorem X_look {rest : List (Oper × Nat)} {m x : Operand} {d : Nat} (hm : MapIs kenc venc w b f) (hK : Keys P kt kenc) (ht : P.underlying t = some (.map kt et)) {z : β} (k : κ) {ok : Bool}
    (h : wpX P ops Q rest (fr ((d, (if ok then .tuple #[venc ((f k).getD z), .bool (f k).isSome] else venc ((f k).getD z))) :: fl) A) w)
    (ho : o.op = .lookup t m x ok := by rfl) (hd : o.dst = some d := by rfl) (hg : o.guard = none := by rfl) (hz : ∀ w, (zeroValue et).run P w = .ok (venc z) w := by intro w; go_simp; first | done | exact rfl)
    (hmm : Is ((fr fl A).eval m) (.map (some b)) := by go_simp; exact Is.mk _) (hx : Is ((fr fl A).eval x) (kenc k) := by go_simp; exact Is.mk _) : wpX P ops Q ((o, 0) :: rest) (fr fl A) w :=
  X_q h hd hg (fun X => quiet_look hm hK ht hz k ho hmm.eq hx.eq X)
theorem X_glook {rest : List (Oper × Nat)} {m x : Operand} {d : Nat} {j tt : Nat} {want gb : Bool} (hm : MapIs kenc venc w b f) (hK : Keys P kt kenc) (ht : P.underlying t = some (.map kt et)) {z : β} (k : κ) {ok : Bool}
    (h : wpX P ops Q rest (fr ((d, gv gb (if ok then .tuple #[venc ((f k).getD z), .bool (f k).isSome] else venc ((f k).getD z))) :: fl) A) w)
    (ho : o.op = .lookup t m x ok := by rfl) (hd : o.dst = some d := by rfl) (hg : o.guard = some (j, want) := by rfl) (htt : (ops[j]?).bind (·.dst) = some tt := by rfl)
    (hgg : Is (gw ((fr fl A).tmps.getD tt undef) want) gb := by go_simp; exact Is.mk _) (hz : ∀ w, (zeroValue et).run P w = .ok (venc z) w := by intro w; go_simp; first | done | exact rfl)
    (hmm : gb = true → Is ((fr fl A).eval m) (.map (some b)) := by intro hb; (try simp only [Bool.and_eq_true, Bool.not_eq_true', Bool.or_eq_true, Bool.or_eq_false_iff] at hb); go_simp; exact Is.mk _)
    (hx : gb = true → Is ((fr fl A).eval x) (kenc k) := by intro hb; (try simp only [Bool.and_eq_true, Bool.not_eq_true', Bool.or_eq_true, Bool.or_eq_false_iff] at hb); go_simp; exact Is.mk _) : wpX P ops Q ((o, 0) :: rest) (fr fl A) w :=
  X_g h hd hg htt hgg (fun hb X => quiet_look hm hK ht hz k ho (hmm hb).eq (hx hb).eq X)
end
end Go.Ws
