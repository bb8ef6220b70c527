import Derived.Test.YtkdcgmloapmpkaaSort64
import Derived.Test.YtkdcgmloapmpkaaCell
namespace Go.Ws
open Go Go.RowKit Go.Proofs
set_option maxHeartbeats 2000000
set_option maxRecDepth 100000
set_option linter.unusedVariables false
set_option linter.unusedSimpArgs false
set_option pp.deepTerms true
set_option pp.maxSteps 100000000

section
variable {P : Program} {Q : Post} {w : World} {A : Act}
theorem Body_retmc {fn : Func} {R : Res} {e : Exit} {t b : Nat} {ty : TypeId} {v : Value} {l : List (Nat × Value)} {D : Nat} (hd : A.defers = [{ target := .collected D, args := #[] }]) (hD : w.heap[D]? = some (.deferred (some []))) (hR : R (.returned v) (w.putObj D (.deferred none)))
    (hlt : b < w.heap.size) (hc : w.cell? ⟨b, 0, none⟩ = some v) (hne : b ≠ D) (hag : ∀ w, (isAgg ty).run P w = .ok false w) (hr : fn.results = #[.cell t ty] := by rfl) (he : e = .ret ∨ e = .normal := by first | exact .inl rfl | exact .inr rfl)
    (hv : Is ((fr l A).tmps.getD t undef) (.pointer (some ⟨b, 0, none⟩)) := by go_simp; exact Is.mk _) : Body P fn R e (fr l A) w := by
  have hM := mod_putObj w D (.deferred none)
  have key : ∀ x : Later (w.putObj D (.deferred none)), (results fn (fr l A).tmps).run P ((w.putObj D (.deferred none)).later x) = .ok v ((w.putObj D (.deferred none)).later x) := by
    intro x
    have h0 : ((w.putObj D (.deferred none)).later x).cell? ⟨b, 0, none⟩ = some v := by rw [cell?_later _ _ _ _ (Nat.lt_of_lt_of_le hlt hM.size), cell?_mod hM hlt hne]; exact hc
    have h2 : (fr l A).tmps[t]?.getD undef = .pointer (some ⟨b, 0, none⟩) := by simpa using hv.eq
    simp [results, hr, h2, asAddr, loadVar, hag, Go.load, Sem.run_bind, Sem.run, h0]
  unfold Body
  rcases he with rfl | rfl <;> exact ⟨_, after_one hd hD l, _, key, hR⟩
end
/-- What is kept of an ID, where it stands. -/
structure WrAt (w : World) (b o : Nat) (r : Wr) (m0 m1 : Nat) : Prop where
  lt : b < w.heap.size
  c0 : w.cell? ⟨b, o, none⟩ = some (.int .i64 r.high)
  c1 : w.cell? ⟨b, o + 1, none⟩ = some (.int .i64 r.marked)
  c2 : w.cell? ⟨b, o + 2, none⟩ = some (.map (some m0))
  c3 : w.cell? ⟨b, o + 3, none⟩ = some (.map (some m1))
  i0 : MapIs ki ki w m0 r.next
  i1 : MapIs ki ki w m1 r.opens
theorem WrAt.later {w w' : World} {b o : Nat} {r : Wr} {m0 m1 : Nat} (h : WrAt w b o r m0 m1) (hE : Ext w w') : WrAt w' b o r m0 m1 := by
  have e : ∀ k, w'.cell? ⟨b, k, none⟩ = w.cell? ⟨b, k, none⟩ := fun k => cell?_mod hE h.lt (fun h => h)
  exact ⟨Nat.lt_of_lt_of_le h.lt hE.size, by rw [e]; exact h.c0, by rw [e]; exact h.c1, by rw [e]; exact h.c2, by rw [e]; exact h.c3, h.i0.later hE, h.i1.later hE⟩
theorem pother_calls {w : World} {b o : Nat} {r : Wr} {m0 m1 : Nat} (h : WrAt w b o r m0 m1) (num : Int) (ob : Bool) (hob : ob = true ↔ ∃ n, (r.opens n).isSome = true ∧ n ≠ num) :
    Pure Try.prog 99 #[.pointer (some ⟨b, o, none⟩), .int .i64 num] w (.bool ob) := by
  have HH := Lib.hid h
  have HOB := Lib.hid hob
  have hlt := h.lt
  have c3 := h.c3
  obtain ⟨L, clock, hL, hf⟩ := h.i1
  have HL := Lib.hid hL
  have Hf := Lib.hid hf
  clear h hob hL hf
  refine Fn_of Try.func99 rfl (Nat.le_of_ble_eq_true rfl) ?_; intro A hd hA; simp only [ix, Nat.reduceAdd]; replace hA : A.tmps.size = 15 := hA
  repeat' (first | refine X_d (fun vb hvb => ?_) | refine X_dg (fun vb hvb => ?_) | refine X_q ?_ | refine X_g ?_ | refine X_gf ?_ | refine X_niln ?_ | refine X_nil ?_ | (refine X_var (fun yn bn hn1 hn2 hn3 hn4 hn5 => ?_)) | refine W_seqk (fun K hK => ?_) | refine W_seqr ?_ | refine W_ret ?_ | refine W_skip ?_ | refine W_block ?_ | refine W_exit ?_ | (refine X_s (fun x K hK => ?_); go_simp; refine hK _ _ (Ext.alloc _ _) ?_; clear hK K; refine X_al x ?_; generalize (World.later _ x).heap.size = bn; intro yn hn1 hn2 hn3 hn4 hn5; clear x) | refine W_tt ?_ | refine W_ff ?_ | refine W_test (fun hc => ?_) (fun hc => ?_) | go_step)
  rename_i b3 y3 p1 p2 p3 p4 p5 K0 K1
  rename Nat => b4
  rename Later (World.later _ _) => y4
  have g3 : Blk (w.later y3) b3 2 1 _ := Blk.one p5.out
  have g4 : Blk ((w.later y3).later y4) b4 4 1 _ := Blk.one hn5.out
  have q4 := hn2
  have q3 := hn1
  clear p3 p4 p5 hn3 hn4 hn5
  refine X_ret Try.func90 keysOf_calls (fun v' w1 hR => ?_)
  obtain ⟨bk, rfl, hE1, hk1, hk2, hk3⟩ := hR
  have s3 : w.heap.size ≤ (w.later y3).heap.size := y3.2.size
  have s4 : (w.later y3).heap.size ≤ ((w.later y3).later y4).heap.size := y4.2.size
  have s1 := hE1.size
  have HE : Hid (Ext w w1) := Lib.hid (Ext.trans (by simp) hE1)
  have G3 : Hid (Blk w1 b3 2 1 (fun _ => .int .i64 num)) := Lib.hid ((g3.later y4.2).later hE1)
  have G4 : Hid (Blk w1 b4 4 1 (fun _ => .bool false)) := Lib.hid (g4.later hE1)
  have HL1 := Lib.hid (HL.out.later HE.out)
  clear g3 g4 hE1
  repeat' (first | refine X_d (fun vb hvb => ?_) | refine X_dg (fun vb hvb => ?_) | refine X_q ?_ | refine X_g ?_ | refine X_gf ?_ | refine X_niln ?_ | refine X_nil ?_ | (refine X_var (fun yn bn hn1 hn2 hn3 hn4 hn5 => ?_)) | refine W_seqk (fun K hK => ?_) | refine W_seqr ?_ | refine W_ret ?_ | refine W_skip ?_ | refine W_block ?_ | refine W_exit ?_ | (refine X_s (fun x K hK => ?_); go_simp; refine hK _ _ (Ext.alloc _ _) ?_; clear hK K; refine X_al x ?_; generalize (World.later _ x).heap.size = bn; intro yn hn1 hn2 hn3 hn4 hn5; clear x) | refine W_tt ?_ | refine W_ff ?_ | refine W_test (fun hc => ?_) (fun hc => ?_) | go_step)
  refine W_range (ps := [11]) (encs := fun x : Int => [.int .i64 x]) Try.func108 (by kernel_rfl) (keys_iter hk2 hk3 HL1.out) (fun _ => rfl) (by go_simp; exact Is.mk _)
    (fun pre B W => B = (fun k => k = b4) ∧ Mod (fun k => k = b4) w1 W ∧ Blk W b4 4 1 (fun _ => .bool false) ∧ ∀ x ∈ pre, x = num)
    (fun c pre B W => c = .ret ∧ B = (fun k => k = b4) ∧ Mod (fun k => k = b4) w1 W ∧ Blk W b4 4 1 (fun _ => .bool true) ∧ ob = true) ?_ ?_ (fun k => k = b4) ⟨rfl, Mod.refl _ _, G4.out, by intro x hx; cases hx⟩ ?_ ?_ ?_ ?_
  · rintro pre B W W' ⟨rfl, hM, hB, hp⟩ hM'
    exact ⟨rfl, Mod.trans hM hM' (fun _ _ h => h) (fun k hk h => by have := h.2; omega), hB.mod hM' (fun h => h.1 rfl), hp⟩
  · rintro c pre B W W' ⟨rfl, rfl, hM, hB, hp⟩ hM'
    exact ⟨rfl, rfl, Mod.trans hM hM' (fun _ _ h => h) (fun k hk h => by have := h.2; omega), hB.mod hM' (fun h => h.1 rfl), hp⟩
  · rintro k rfl
    refine ⟨by omega, fun h => ?_⟩
    have := HL.out.lt
    omega
  · rintro l pre B x W hl1 hl2 ⟨rfl, hM, hB, hp⟩ hBl hpre
    have hG3 := G3.out.mod hM (by omega)
    have t3 := hG3.lt
    have t30 := hG3.cell (k := 0) (by omega)
    have hx : (look L x).isSome = true := by
      obtain ⟨P, hPn, hPs, hPe⟩ := hpre
      have : x ∈ P.map (·.1) := by rw [← hPe]; simp
      obtain ⟨y, hy, rfl⟩ := List.mem_map.1 this
      exact Option.isSome_iff_exists.2 ⟨_, (look_iff HL.out.keys _ _).2 ⟨y.2.2, hPs y hy⟩⟩
    have HM := Lib.hid hM
    have HB := Lib.hid hB
    have HP := Lib.hid hp
    have hb4l := hBl b4 rfl
    clear hM hB hp hG3
    simp only [List.zip_cons_cons, List.zip_nil_right, List.reverse_cons, List.reverse_nil, List.nil_append, List.singleton_append]
    repeat' (first | refine X_d (fun vb hvb => ?_) | refine X_dg (fun vb hvb => ?_) | refine X_q ?_ | refine X_g ?_ | refine X_gf ?_ | refine X_niln ?_ | refine X_nil ?_ | (refine X_var (fun yn bn hn1 hn2 hn3 hn4 hn5 => ?_)) | refine W_seqk (fun K hK => ?_) | refine W_seqr ?_ | refine W_ret ?_ | refine W_skip ?_ | refine W_block ?_ | refine W_exit ?_ | (refine X_s (fun x K hK => ?_); go_simp; refine hK _ _ (Ext.alloc _ _) ?_; clear hK K; refine X_al x ?_; generalize (World.later _ x).heap.size = bn; intro yn hn1 hn2 hn3 hn4 hn5; clear x) | refine W_tt ?_ | refine W_ff ?_ | refine W_test (fun hc => ?_) (fun hc => ?_) | go_step)
    refine ⟨by simp, fun W2 hM2 => ?_⟩
    have u3 : b3 < W2.heap.size := Nat.lt_of_lt_of_le t3 hM2.size
    rw [← cell?_mod hM2 t3 (by omega)] at t30
    have HB2 := Lib.hid (HB.out.mod hM2 hb4l.1)
    have HM2 := Lib.hid (Mod.trans HM.out hM2 (fun _ _ h => h) (fun k hk h => by omega) : Mod (fun k => k = b4) w1 W2)
    repeat' (first | refine X_d (fun vb hvb => ?_) | refine X_dg (fun vb hvb => ?_) | refine X_q ?_ | refine X_g ?_ | refine X_gf ?_ | refine X_niln ?_ | refine X_nil ?_ | (refine X_var (fun yn bn hn1 hn2 hn3 hn4 hn5 => ?_)) | refine W_seqk (fun K hK => ?_) | refine W_seqr ?_ | refine W_ret ?_ | refine W_skip ?_ | refine W_block ?_ | refine W_exit ?_ | (refine X_s (fun x K hK => ?_); go_simp; refine hK _ _ (Ext.alloc _ _) ?_; clear hK K; refine X_al x ?_; generalize (World.later _ x).heap.size = bn; intro yn hn1 hn2 hn3 hn4 hn5; clear x) | refine W_tt ?_ | refine W_ff ?_ | refine W_test (fun hc => ?_) (fun hc => ?_) | go_step)
    · have hne : x ≠ num := by simpa using hc
      refine X_store (off := 0) HB2.out (fun W3 hM3 hB3 => ?_)
      have hB4 : Blk W3 b4 4 1 (fun _ => .bool true) := hB3.congr (fun k hk => by
        obtain rfl : k = 0 := by omega
        simp [put_one, Value.cells])
      repeat' (first | refine X_d (fun vb hvb => ?_) | refine X_dg (fun vb hvb => ?_) | refine X_q ?_ | refine X_g ?_ | refine X_gf ?_ | refine X_niln ?_ | refine X_nil ?_ | (refine X_var (fun yn bn hn1 hn2 hn3 hn4 hn5 => ?_)) | refine W_seqk (fun K hK => ?_) | refine W_seqr ?_ | refine W_ret ?_ | refine W_skip ?_ | refine W_block ?_ | refine W_exit ?_ | (refine X_s (fun x K hK => ?_); go_simp; refine hK _ _ (Ext.alloc _ _) ?_; clear hK K; refine X_al x ?_; generalize (World.later _ x).heap.size = bn; intro yn hn1 hn2 hn3 hn4 hn5; clear x) | refine W_tt ?_ | refine W_ff ?_ | refine W_test (fun hc => ?_) (fun hc => ?_) | go_step)
      refine ⟨_, ⟨rfl, rfl, Mod.trans HM2.out hM3 (fun _ _ h => h) (fun _ _ h => h), hB4, HOB.out.2 ⟨x, by rw [Hf.out]; exact hx, hne⟩⟩, Mod.mono hM3 (fun k _ e => .inl e), fun k hk => ⟨.inl hk, by subst hk; exact hB4.lt⟩⟩
    · have he : x = num := by simpa using hc
      refine ⟨_, ⟨rfl, HM2.out, HB2.out, fun y hy => ?_⟩, Mod.refl _ _, fun k hk => ⟨.inl hk, by subst hk; exact HB2.out.lt⟩⟩
      rcases List.mem_append.1 hy with h | h
      · exact HP.out y h
      · rw [List.mem_singleton] at h; rw [h, he]
  · rintro D xs B W hD hBD hS ⟨rfl, hM, hB, hp⟩ hDD
    have hob : ob = false := by
      rw [← Bool.not_eq_true, HOB.out]
      rintro ⟨n, hn, hne⟩
      rw [Hf.out] at hn
      exact hne (hp n (((mem_keys HL.out.keys hS).2 n).2 hn))
    have HB := Lib.hid hB
    have HEW := Lib.hid (Ext.fresh HE.out hM (fun k hk => by omega))
    clear hM hB hp
    repeat' (first | refine X_d (fun vb hvb => ?_) | refine X_dg (fun vb hvb => ?_) | refine X_q ?_ | refine X_g ?_ | refine X_gf ?_ | refine X_niln ?_ | refine X_nil ?_ | (refine X_var (fun yn bn hn1 hn2 hn3 hn4 hn5 => ?_)) | refine W_seqk (fun K hK => ?_) | refine W_seqr ?_ | refine W_ret ?_ | refine W_skip ?_ | refine W_block ?_ | refine W_exit ?_ | (refine X_s (fun x K hK => ?_); go_simp; refine hK _ _ (Ext.alloc _ _) ?_; clear hK K; refine X_al x ?_; generalize (World.later _ x).heap.size = bn; intro yn hn1 hn2 hn3 hn4 hn5; clear x) | refine W_tt ?_ | refine W_ff ?_ | refine W_test (fun hc => ?_) (fun hc => ?_) | go_step)
    refine X_store (off := 0) HB.out (fun W3 hM3 hB3 => ?_)
    have hDD3 : W3.heap[D]? = some (.deferred (some [])) := (hM3.block D (Array.getElem?_eq_some_iff.1 hDD).1 (by omega)).trans hDD
    have hE3 : Ext w W3 := Ext.fresh HEW.out hM3 (fun k hk => by omega)
    repeat' (first | refine X_d (fun vb hvb => ?_) | refine X_dg (fun vb hvb => ?_) | refine X_q ?_ | refine X_g ?_ | refine X_gf ?_ | refine X_niln ?_ | refine X_nil ?_ | (refine X_var (fun yn bn hn1 hn2 hn3 hn4 hn5 => ?_)) | refine W_seqk (fun K hK => ?_) | refine W_seqr ?_ | refine W_ret ?_ | refine W_skip ?_ | refine W_block ?_ | refine W_exit ?_ | (refine X_s (fun x K hK => ?_); go_simp; refine hK _ _ (Ext.alloc _ _) ?_; clear hK K; refine X_al x ?_; generalize (World.later _ x).heap.size = bn; intro yn hn1 hn2 hn3 hn4 hn5; clear x) | refine W_tt ?_ | refine W_ff ?_ | refine W_test (fun hc => ?_) (fun hc => ?_) | go_step)
    refine Body_retmc (b := b4) (by simp [hd]) hDD3 ⟨by rw [hob], hE3.putNew (by omega) _⟩ hB3.lt ((hB3.cell (k := 0) (by omega)).trans (by simp [put_one, Value.cells])) (by omega) Try.isAgg4
  · rintro D c pre B W hD hBD ⟨rfl, rfl, hM, hB, hob⟩ hDD
    refine W_ret ?_
    exact Body_retmc (b := b4) (v := .bool true) (by simp [hd]) hDD ⟨by rw [hob], (Ext.fresh HE.out hM (fun k hk => by omega)).putNew (by omega) _⟩ hB.lt (hB.cell (k := 0) (by omega)) (by omega) Try.isAgg4
section
variable {w : World} {b o : Nat} {r : Wr} {m0 m1 : Nat}
/-- One of the rules: it answers v. -/
abbrev WhyP (fk : FuncId) (b o : Nat) (e : Ent) (w : World) (v : Bool) : Prop := Pure Try.prog fk #[.pointer (some ⟨b, o, none⟩), e.v] w (.bool v)
theorem why97 (h : WrAt w b o r m0 m1) (e : Ent) : WhyP 97 b o e w (decide (e.num ≤ r.marked)) := by
  obtain ⟨hlt, c0, c1, c2, c3, i0, i1⟩ := h
  refine Fn_of Try.func97 rfl (Nat.le_of_ble_eq_true rfl) ?_; intro A hd hA; simp only [ix, Nat.reduceAdd]; replace hA : A.tmps.size = 12 := hA
  repeat' (first | refine X_d (fun vb hvb => ?_) | refine X_dg (fun vb hvb => ?_) | refine X_q ?_ | refine X_g ?_ | refine X_gf ?_ | refine X_niln ?_ | refine X_nil ?_ | (refine X_var (fun yn bn hn1 hn2 hn3 hn4 hn5 => ?_)) | refine W_seqk (fun K hK => ?_) | refine W_seqr ?_ | refine W_draw (by kernel_rfl) (by kernel_rfl) ?_ | refine W_ret ?_ | refine W_skip ?_ | refine W_block ?_ | refine W_exit ?_ | (refine X_s (fun x K hK => ?_); go_simp; refine hK _ _ (Ext.alloc _ _) ?_; clear hK K; refine X_al x ?_; generalize (World.later _ x).heap.size = bn; intro yn hn1 hn2 hn3 hn4 hn5; clear x) | refine W_tt ?_ | refine W_ff ?_ | refine W_test (fun hc => ?_) (fun hc => ?_) | go_step)
  exact Body_ret hd ⟨rfl, by simp⟩
theorem why98 (h : WrAt w b o r m0 m1) (e : Ent) (ob : Bool) (hob : ob = true ↔ ∃ n, (r.opens n).isSome = true ∧ n ≠ e.num) : WhyP 98 b o e w (decide (e.num < r.high) || ob) := by
  have HH := Lib.hid h
  have HOB := Lib.hid hob
  obtain ⟨hlt, c0, c1, c2, c3, i0, i1⟩ := h
  clear hob i0 i1
  by_cases hq : e.num < r.high
  · have hv : (decide (e.num < r.high) || ob) = true := by simp [hq]
    rw [hv]
    refine Fn_of Try.func98 rfl (Nat.le_of_ble_eq_true rfl) ?_; intro A hd hA; simp only [ix, Nat.reduceAdd]; replace hA : A.tmps.size = 18 := hA
    repeat' (first | refine X_d (fun vb hvb => ?_) | refine X_dg (fun vb hvb => ?_) | refine X_q ?_ | refine X_g ?_ | refine X_gf ?_ | refine X_niln ?_ | refine X_nil ?_ | (refine X_var (fun yn bn hn1 hn2 hn3 hn4 hn5 => ?_)) | refine W_seqk (fun K hK => ?_) | refine W_seqr ?_ | refine W_ret ?_ | refine W_skip ?_ | refine W_block ?_ | refine W_exit ?_ | (refine X_s (fun x K hK => ?_); go_simp; refine hK _ _ (Ext.alloc _ _) ?_; clear hK K; refine X_al x ?_; generalize (World.later _ x).heap.size = bn; intro yn hn1 hn2 hn3 hn4 hn5; clear x) | refine W_tt ?_ | refine W_ff ?_ | refine W_test (fun hc => ?_) (fun hc => ?_) | go_step)
    refine W_draw (by kernel_rfl) (by kernel_rfl) ?_
    repeat' (first | (refine X_gf2 ?_) | refine X_gt ?_ | refine X_q ?_ | refine X_g ?_ | refine X_gf ?_ | refine X_niln ?_ | refine X_nil ?_ | (refine X_var (fun yn bn hn1 hn2 hn3 hn4 hn5 => ?_)) | refine W_seqk (fun K hK => ?_) | refine W_seqr ?_ | refine W_ret ?_ | refine W_skip ?_ | refine W_block ?_ | refine W_exit ?_ | (refine X_s (fun x K hK => ?_); go_simp; refine hK _ _ (Ext.alloc _ _) ?_; clear hK K; refine X_al x ?_; generalize (World.later _ x).heap.size = bn; intro yn hn1 hn2 hn3 hn4 hn5; clear x) | refine W_tt ?_ | refine W_ff ?_ | refine W_test (fun hc => ?_) (fun hc => ?_) | go_step)
    exact Body_ret hd ⟨rfl, by simp⟩
  · have hv : (decide (e.num < r.high) || ob) = ob := by simp [hq]
    rw [hv]
    refine Fn_of Try.func98 rfl (Nat.le_of_ble_eq_true rfl) ?_; intro A hd hA; simp only [ix, Nat.reduceAdd]; replace hA : A.tmps.size = 18 := hA
    repeat' (first | refine X_d (fun vb hvb => ?_) | refine X_dg (fun vb hvb => ?_) | refine X_q ?_ | refine X_g ?_ | refine X_gf ?_ | refine X_niln ?_ | refine X_nil ?_ | (refine X_var (fun yn bn hn1 hn2 hn3 hn4 hn5 => ?_)) | refine W_seqk (fun K hK => ?_) | refine W_seqr ?_ | refine W_ret ?_ | refine W_skip ?_ | refine W_block ?_ | refine W_exit ?_ | (refine X_s (fun x K hK => ?_); go_simp; refine hK _ _ (Ext.alloc _ _) ?_; clear hK K; refine X_al x ?_; generalize (World.later _ x).heap.size = bn; intro yn hn1 hn2 hn3 hn4 hn5; clear x) | refine W_tt ?_ | refine W_ff ?_ | refine W_test (fun hc => ?_) (fun hc => ?_) | go_step)
    refine W_draw (by kernel_rfl) (by kernel_rfl) ?_
    repeat' (first | refine X_pure Try.func99 (pother_calls (HH.out.later (by simp)) e.num ob HOB.out) ?_ | refine X_gpure Try.func99 (fun _ => pother_calls (HH.out.later (by simp)) e.num ob HOB.out) ?_ | refine X_gt ?_ | refine X_q ?_ | refine X_g ?_ | refine X_gf ?_ | refine X_niln ?_ | refine X_nil ?_ | (refine X_var (fun yn bn hn1 hn2 hn3 hn4 hn5 => ?_)) | refine W_seqk (fun K hK => ?_) | refine W_seqr ?_ | refine W_ret ?_ | refine W_skip ?_ | refine W_block ?_ | refine W_exit ?_ | (refine X_s (fun x K hK => ?_); go_simp; refine hK _ _ (Ext.alloc _ _) ?_; clear hK K; refine X_al x ?_; generalize (World.later _ x).heap.size = bn; intro yn hn1 hn2 hn3 hn4 hn5; clear x) | refine W_tt ?_ | refine W_ff ?_ | refine W_test (fun hc => ?_) (fun hc => ?_) | go_step)
    exact Body_ret hd ⟨rfl, by simp⟩
theorem why100 (h : WrAt w b o r m0 m1) (e : Ent) : WhyP 100 b o e w (decide (e.num ≤ r.marked) || decide (e.num < r.high)) := by
  obtain ⟨hlt, c0, c1, c2, c3, i0, i1⟩ := h
  by_cases hq : e.num ≤ r.marked
  · have hv : (decide (e.num ≤ r.marked) || decide (e.num < r.high)) = true := by simp [hq]
    rw [hv]
    refine Fn_of Try.func100 rfl (Nat.le_of_ble_eq_true rfl) ?_; intro A hd hA; simp only [ix, Nat.reduceAdd]; replace hA : A.tmps.size = 21 := hA
    repeat' (first | refine X_d (fun vb hvb => ?_) | refine X_dg (fun vb hvb => ?_) | refine X_q ?_ | refine X_g ?_ | refine X_gf ?_ | refine X_niln ?_ | refine X_nil ?_ | (refine X_var (fun yn bn hn1 hn2 hn3 hn4 hn5 => ?_)) | refine W_seqk (fun K hK => ?_) | refine W_seqr ?_ | refine W_ret ?_ | refine W_skip ?_ | refine W_block ?_ | refine W_exit ?_ | (refine X_s (fun x K hK => ?_); go_simp; refine hK _ _ (Ext.alloc _ _) ?_; clear hK K; refine X_al x ?_; generalize (World.later _ x).heap.size = bn; intro yn hn1 hn2 hn3 hn4 hn5; clear x) | refine W_tt ?_ | refine W_ff ?_ | refine W_test (fun hc => ?_) (fun hc => ?_) | go_step)
    refine W_draw (by kernel_rfl) (by kernel_rfl) ?_
    repeat' (first | refine X_gt ?_ | refine X_q ?_ | refine X_g ?_ | refine X_gf ?_ | refine X_niln ?_ | refine X_nil ?_ | (refine X_var (fun yn bn hn1 hn2 hn3 hn4 hn5 => ?_)) | refine W_seqk (fun K hK => ?_) | refine W_seqr ?_ | refine W_ret ?_ | refine W_skip ?_ | refine W_block ?_ | refine W_exit ?_ | (refine X_s (fun x K hK => ?_); go_simp; refine hK _ _ (Ext.alloc _ _) ?_; clear hK K; refine X_al x ?_; generalize (World.later _ x).heap.size = bn; intro yn hn1 hn2 hn3 hn4 hn5; clear x) | refine W_tt ?_ | refine W_ff ?_ | refine W_test (fun hc => ?_) (fun hc => ?_) | go_step)
    exact Body_ret hd ⟨rfl, by simp⟩
  · have hv : (decide (e.num ≤ r.marked) || decide (e.num < r.high)) = decide (e.num < r.high) := by simp [hq]
    rw [hv]
    refine Fn_of Try.func100 rfl (Nat.le_of_ble_eq_true rfl) ?_; intro A hd hA; simp only [ix, Nat.reduceAdd]; replace hA : A.tmps.size = 21 := hA
    repeat' (first | refine X_d (fun vb hvb => ?_) | refine X_dg (fun vb hvb => ?_) | refine X_q ?_ | refine X_g ?_ | refine X_gf ?_ | refine X_niln ?_ | refine X_nil ?_ | (refine X_var (fun yn bn hn1 hn2 hn3 hn4 hn5 => ?_)) | refine W_seqk (fun K hK => ?_) | refine W_seqr ?_ | refine W_ret ?_ | refine W_skip ?_ | refine W_block ?_ | refine W_exit ?_ | (refine X_s (fun x K hK => ?_); go_simp; refine hK _ _ (Ext.alloc _ _) ?_; clear hK K; refine X_al x ?_; generalize (World.later _ x).heap.size = bn; intro yn hn1 hn2 hn3 hn4 hn5; clear x) | refine W_tt ?_ | refine W_ff ?_ | refine W_test (fun hc => ?_) (fun hc => ?_) | go_step)
    refine W_draw (by kernel_rfl) (by kernel_rfl) ?_
    repeat' (first | refine X_gt ?_ | refine X_q ?_ | refine X_g ?_ | refine X_gf ?_ | refine X_niln ?_ | refine X_nil ?_ | (refine X_var (fun yn bn hn1 hn2 hn3 hn4 hn5 => ?_)) | refine W_seqk (fun K hK => ?_) | refine W_seqr ?_ | refine W_ret ?_ | refine W_skip ?_ | refine W_block ?_ | refine W_exit ?_ | (refine X_s (fun x K hK => ?_); go_simp; refine hK _ _ (Ext.alloc _ _) ?_; clear hK K; refine X_al x ?_; generalize (World.later _ x).heap.size = bn; intro yn hn1 hn2 hn3 hn4 hn5; clear x) | refine W_tt ?_ | refine W_ff ?_ | refine W_test (fun hc => ?_) (fun hc => ?_) | go_step)
    exact Body_ret hd ⟨rfl, by simp⟩
theorem why101 (h : WrAt w b o r m0 m1) (e : Ent) (ob : Bool) (hob : ob = true ↔ ∃ n, (r.opens n).isSome = true ∧ n ≠ e.num) : WhyP 101 b o e w ob := by
  have HH := Lib.hid h
  have HOB := Lib.hid hob
  clear h hob
  refine Fn_of Try.func101 rfl (Nat.le_of_ble_eq_true rfl) ?_; intro A hd hA; simp only [ix, Nat.reduceAdd]; replace hA : A.tmps.size = 9 := hA
  repeat' (first | refine X_pure Try.func99 (pother_calls (HH.out.later (by simp)) e.num ob HOB.out) ?_ | refine X_gpure Try.func99 (fun _ => pother_calls (HH.out.later (by simp)) e.num ob HOB.out) ?_ | refine X_gt ?_ | refine X_q ?_ | refine X_g ?_ | refine X_gf ?_ | refine X_niln ?_ | refine X_nil ?_ | (refine X_var (fun yn bn hn1 hn2 hn3 hn4 hn5 => ?_)) | refine W_seqk (fun K hK => ?_) | refine W_seqr ?_ | refine W_ret ?_ | refine W_skip ?_ | refine W_block ?_ | refine W_exit ?_ | (refine X_s (fun x K hK => ?_); go_simp; refine hK _ _ (Ext.alloc _ _) ?_; clear hK K; refine X_al x ?_; generalize (World.later _ x).heap.size = bn; intro yn hn1 hn2 hn3 hn4 hn5; clear x) | refine W_tt ?_ | refine W_ff ?_ | refine W_test (fun hc => ?_) (fun hc => ?_) | go_step)
  exact Body_ret hd ⟨rfl, by simp⟩
theorem why102 (h : WrAt w b o r m0 m1) (e : Ent) : WhyP 102 b o e w (decide (e.seq < (r.next e.num).getD 0)) := by
  have HH := Lib.hid h
  obtain ⟨hlt, c0, c1, c2, c3, i0, i1⟩ := h
  clear i0 i1
  refine Fn_of Try.func102 rfl (Nat.le_of_ble_eq_true rfl) ?_; intro A hd hA; simp only [ix, Nat.reduceAdd]; replace hA : A.tmps.size = 15 := hA
  repeat' (first | refine X_d (fun vb hvb => ?_) | refine X_dg (fun vb hvb => ?_) | refine X_q ?_ | refine X_g ?_ | refine X_gf ?_ | refine X_niln ?_ | refine X_nil ?_ | (refine X_var (fun yn bn hn1 hn2 hn3 hn4 hn5 => ?_)) | refine W_seqk (fun K hK => ?_) | refine W_seqr ?_ | refine W_ret ?_ | refine W_skip ?_ | refine W_block ?_ | refine W_exit ?_ | (refine X_s (fun x K hK => ?_); go_simp; refine hK _ _ (Ext.alloc _ _) ?_; clear hK K; refine X_al x ?_; generalize (World.later _ x).heap.size = bn; intro yn hn1 hn2 hn3 hn4 hn5; clear x) | refine W_tt ?_ | refine W_ff ?_ | refine W_test (fun hc => ?_) (fun hc => ?_) | go_step)
  refine W_draw (by kernel_rfl) (by kernel_rfl) ?_
  repeat' (first | refine X_gt ?_ | refine X_q ?_ | refine X_g ?_ | refine X_gf ?_ | refine X_niln ?_ | refine X_nil ?_ | (refine X_var (fun yn bn hn1 hn2 hn3 hn4 hn5 => ?_)) | refine W_seqk (fun K hK => ?_) | refine W_seqr ?_ | refine W_ret ?_ | refine W_skip ?_ | refine W_block ?_ | refine W_exit ?_ | (refine X_s (fun x K hK => ?_); go_simp; refine hK _ _ (Ext.alloc _ _) ?_; clear hK K; refine X_al x ?_; generalize (World.later _ x).heap.size = bn; intro yn hn1 hn2 hn3 hn4 hn5; clear x) | refine W_tt ?_ | refine W_ff ?_ | refine W_test (fun hc => ?_) (fun hc => ?_) | go_step)
  refine X_look (kenc := ki) (venc := ki) (z := 0) (HH.out.i0.later (by simp)) (ints_keys Try.underlying2) Try.underlying101 e.num ?_
  simp only [Bool.false_eq_true, if_false]
  generalize hnx : (r.next e.num).getD 0 = nx
  repeat' (first | refine X_gt ?_ | refine X_q ?_ | refine X_g ?_ | refine X_gf ?_ | refine X_niln ?_ | refine X_nil ?_ | (refine X_var (fun yn bn hn1 hn2 hn3 hn4 hn5 => ?_)) | refine W_seqk (fun K hK => ?_) | refine W_seqr ?_ | refine W_ret ?_ | refine W_skip ?_ | refine W_block ?_ | refine W_exit ?_ | (refine X_s (fun x K hK => ?_); go_simp; refine hK _ _ (Ext.alloc _ _) ?_; clear hK K; refine X_al x ?_; generalize (World.later _ x).heap.size = bn; intro yn hn1 hn2 hn3 hn4 hn5; clear x) | refine W_tt ?_ | refine W_ff ?_ | refine W_test (fun hc => ?_) (fun hc => ?_) | go_step)
  exact Body_ret hd ⟨by rw [hnx], by simp⟩
theorem why103 (h : WrAt w b o r m0 m1) (e : Ent) : WhyP 103 b o e w (decide ((r.next e.num).getD 0 < e.seq)) := by
  have HH := Lib.hid h
  obtain ⟨hlt, c0, c1, c2, c3, i0, i1⟩ := h
  clear i0 i1
  refine Fn_of Try.func103 rfl (Nat.le_of_ble_eq_true rfl) ?_; intro A hd hA; simp only [ix, Nat.reduceAdd]; replace hA : A.tmps.size = 15 := hA
  repeat' (first | refine X_d (fun vb hvb => ?_) | refine X_dg (fun vb hvb => ?_) | refine X_q ?_ | refine X_g ?_ | refine X_gf ?_ | refine X_niln ?_ | refine X_nil ?_ | (refine X_var (fun yn bn hn1 hn2 hn3 hn4 hn5 => ?_)) | refine W_seqk (fun K hK => ?_) | refine W_seqr ?_ | refine W_ret ?_ | refine W_skip ?_ | refine W_block ?_ | refine W_exit ?_ | (refine X_s (fun x K hK => ?_); go_simp; refine hK _ _ (Ext.alloc _ _) ?_; clear hK K; refine X_al x ?_; generalize (World.later _ x).heap.size = bn; intro yn hn1 hn2 hn3 hn4 hn5; clear x) | refine W_tt ?_ | refine W_ff ?_ | refine W_test (fun hc => ?_) (fun hc => ?_) | go_step)
  refine W_draw (by kernel_rfl) (by kernel_rfl) ?_
  repeat' (first | refine X_gt ?_ | refine X_q ?_ | refine X_g ?_ | refine X_gf ?_ | refine X_niln ?_ | refine X_nil ?_ | (refine X_var (fun yn bn hn1 hn2 hn3 hn4 hn5 => ?_)) | refine W_seqk (fun K hK => ?_) | refine W_seqr ?_ | refine W_ret ?_ | refine W_skip ?_ | refine W_block ?_ | refine W_exit ?_ | (refine X_s (fun x K hK => ?_); go_simp; refine hK _ _ (Ext.alloc _ _) ?_; clear hK K; refine X_al x ?_; generalize (World.later _ x).heap.size = bn; intro yn hn1 hn2 hn3 hn4 hn5; clear x) | refine W_tt ?_ | refine W_ff ?_ | refine W_test (fun hc => ?_) (fun hc => ?_) | go_step)
  refine X_look (kenc := ki) (venc := ki) (z := 0) (HH.out.i0.later (by simp)) (ints_keys Try.underlying2) Try.underlying101 e.num ?_
  simp only [Bool.false_eq_true, if_false]
  generalize hnx : (r.next e.num).getD 0 = nx
  repeat' (first | refine X_gt ?_ | refine X_q ?_ | refine X_g ?_ | refine X_gf ?_ | refine X_niln ?_ | refine X_nil ?_ | (refine X_var (fun yn bn hn1 hn2 hn3 hn4 hn5 => ?_)) | refine W_seqk (fun K hK => ?_) | refine W_seqr ?_ | refine W_ret ?_ | refine W_skip ?_ | refine W_block ?_ | refine W_exit ?_ | (refine X_s (fun x K hK => ?_); go_simp; refine hK _ _ (Ext.alloc _ _) ?_; clear hK K; refine X_al x ?_; generalize (World.later _ x).heap.size = bn; intro yn hn1 hn2 hn3 hn4 hn5; clear x) | refine W_tt ?_ | refine W_ff ?_ | refine W_test (fun hc => ?_) (fun hc => ?_) | go_step)
  exact Body_ret hd ⟨by rw [hnx], by simp⟩
end
/-- The closure of a rule: its box of the rule, its box of the error. -/
def Rule (w : World) (v : Value) (fk : FuncId) (E : Int) : Prop :=
  ∃ a c, v = .func (.func 96) #[] #[.pointer (some ⟨a, 0, none⟩), .pointer (some ⟨c, 0, none⟩)] ∧ a < w.heap.size ∧ c < w.heap.size ∧ w.cell? ⟨a, 0, none⟩ = some (.func (.func fk) #[] #[]) ∧ w.cell? ⟨c, 0, none⟩ = some (.int .i64 E)
theorem Rule.later {w w' : World} {v : Value} {fk : FuncId} {E : Int} (h : Rule w v fk E) (hE : Ext w w') : Rule w' v fk E := by
  obtain ⟨a, c, rfl, ha, hc, h1, h2⟩ := h
  exact ⟨a, c, rfl, Nat.lt_of_lt_of_le ha hE.size, Nat.lt_of_lt_of_le hc hE.size, by rw [cell?_mod hE ha (fun h => h)]; exact h1, by rw [cell?_mod hE hc (fun h => h)]; exact h2⟩
theorem isRule_calls {w : World} (E : Int) (fk : FuncId) : Ret Try.prog 95 #[.int .i64 E, .func (.func fk) #[] #[]] w fun v w' => Ext w w' ∧ Rule w' v fk E := by
  refine Fn_of Try.func95 rfl (Nat.le_of_ble_eq_true rfl) ?_; intro A hd hA; simp only [ix, Nat.reduceAdd]; replace hA : A.tmps.size = 6 := hA
  repeat' (first | refine X_gt ?_ | refine X_q ?_ | refine X_g ?_ | refine X_gf ?_ | refine X_niln ?_ | refine X_nil ?_ | (refine X_var (fun yn bn hn1 hn2 hn3 hn4 hn5 => ?_)) | refine W_seqk (fun K hK => ?_) | refine W_seqr ?_ | refine W_ret ?_ | refine W_skip ?_ | refine W_block ?_ | refine W_exit ?_ | (refine X_s (fun x K hK => ?_); go_simp; refine hK _ _ (Ext.alloc _ _) ?_; clear hK K; refine X_al x ?_; generalize (World.later _ x).heap.size = bn; intro yn hn1 hn2 hn3 hn4 hn5; clear x) | refine W_tt ?_ | refine W_ff ?_ | refine W_test (fun hc => ?_) (fun hc => ?_) | go_step)
  rename_i bc yc p1 p2 p3 p4 p5
  exact Body_ret hd ⟨by simp, bn, bc, rfl, hn2, by simp [p2], hn3 0, by rw [cell?_later _ yn _ _ p2]; exact p3 0⟩
theorem rule_calls {w : World} {a c b o : Nat} {fk : FuncId} {fn : Func} {E : Int} {v : Bool} {e : Ent} (hfk : Try.prog.funcs[fk]? = some fn) (hcall : callable fn = true) (ha : a < w.heap.size) (hc : c < w.heap.size) (h1 : w.cell? ⟨a, 0, none⟩ = some (.func (.func fk) #[] #[])) (h2 : w.cell? ⟨c, 0, none⟩ = some (.int .i64 E))
    (hy : ∀ w', Ext w w' → WhyP fk b o e w' v) : Pure Try.prog 96 #[.pointer (some ⟨b, o, none⟩), e.v, .pointer (some ⟨a, 0, none⟩), .pointer (some ⟨c, 0, none⟩)] w (.int .i64 (if v = true then E else 0)) := by
  have HY := Lib.hid hy
  clear hy
  cases v
  · simp only [Bool.false_eq_true, if_false]
    refine Fn_of Try.func96 rfl (Nat.le_of_ble_eq_true rfl) ?_; intro A hd hA; simp only [ix, Nat.reduceAdd]; replace hA : A.tmps.size = 12 := hA
    repeat' (first | refine X_gt ?_ | refine X_q ?_ | refine X_g ?_ | refine X_gf ?_ | refine X_niln ?_ | refine X_nil ?_ | (refine X_var (fun yn bn hn1 hn2 hn3 hn4 hn5 => ?_)) | refine W_seqk (fun K hK => ?_) | refine W_seqr ?_ | refine W_ret ?_ | refine W_skip ?_ | refine W_block ?_ | refine W_exit ?_ | (refine X_s (fun x K hK => ?_); go_simp; refine hK _ _ (Ext.alloc _ _) ?_; clear hK K; refine X_al x ?_; generalize (World.later _ x).heap.size = bn; intro yn hn1 hn2 hn3 hn4 hn5; clear x) | refine W_tt ?_ | refine W_ff ?_ | refine W_test (fun hc => ?_) (fun hc => ?_) | go_step)
    refine X_valret (lv := [.pointer (some ⟨b, o, none⟩), e.v]) (first := #[]) (captured := #[]) (R := fun v' w' => v' = .bool false ∧ Ext _ w') hfk (HY.out _ (by simp)) (fun v' w' hR => ?_) rfl rfl hcall
    obtain ⟨rfl, hE⟩ := hR
    obtain ⟨y', rfl⟩ := hE.get
    clear hE
    repeat' (first | refine X_gt ?_ | refine X_q ?_ | refine X_g ?_ | refine X_gf ?_ | refine X_niln ?_ | refine X_nil ?_ | (refine X_var (fun yn bn hn1 hn2 hn3 hn4 hn5 => ?_)) | refine W_seqk (fun K hK => ?_) | refine W_seqr ?_ | refine W_ret ?_ | refine W_skip ?_ | refine W_block ?_ | refine W_exit ?_ | (refine X_s (fun x K hK => ?_); go_simp; refine hK _ _ (Ext.alloc _ _) ?_; clear hK K; refine X_al x ?_; generalize (World.later _ x).heap.size = bn; intro yn hn1 hn2 hn3 hn4 hn5; clear x) | refine W_tt ?_ | refine W_ff ?_ | refine W_test (fun hc => ?_) (fun hc => ?_) | go_step)
    exact Body_ret hd ⟨rfl, by simp⟩
  · simp only [if_true]
    refine Fn_of Try.func96 rfl (Nat.le_of_ble_eq_true rfl) ?_; intro A hd hA; simp only [ix, Nat.reduceAdd]; replace hA : A.tmps.size = 12 := hA
    repeat' (first | refine X_gt ?_ | refine X_q ?_ | refine X_g ?_ | refine X_gf ?_ | refine X_niln ?_ | refine X_nil ?_ | (refine X_var (fun yn bn hn1 hn2 hn3 hn4 hn5 => ?_)) | refine W_seqk (fun K hK => ?_) | refine W_seqr ?_ | refine W_ret ?_ | refine W_skip ?_ | refine W_block ?_ | refine W_exit ?_ | (refine X_s (fun x K hK => ?_); go_simp; refine hK _ _ (Ext.alloc _ _) ?_; clear hK K; refine X_al x ?_; generalize (World.later _ x).heap.size = bn; intro yn hn1 hn2 hn3 hn4 hn5; clear x) | refine W_tt ?_ | refine W_ff ?_ | refine W_test (fun hc => ?_) (fun hc => ?_) | go_step)
    refine X_valret (lv := [.pointer (some ⟨b, o, none⟩), e.v]) (first := #[]) (captured := #[]) (R := fun v' w' => v' = .bool true ∧ Ext _ w') hfk (HY.out _ (by simp)) (fun v' w' hR => ?_) rfl rfl hcall
    obtain ⟨rfl, hE⟩ := hR
    obtain ⟨y', rfl⟩ := hE.get
    clear hE
    repeat' (first | refine X_gt ?_ | refine X_q ?_ | refine X_g ?_ | refine X_gf ?_ | refine X_niln ?_ | refine X_nil ?_ | (refine X_var (fun yn bn hn1 hn2 hn3 hn4 hn5 => ?_)) | refine W_seqk (fun K hK => ?_) | refine W_seqr ?_ | refine W_ret ?_ | refine W_skip ?_ | refine W_block ?_ | refine W_exit ?_ | (refine X_s (fun x K hK => ?_); go_simp; refine hK _ _ (Ext.alloc _ _) ?_; clear hK K; refine X_al x ?_; generalize (World.later _ x).heap.size = bn; intro yn hn1 hn2 hn3 hn4 hn5; clear x) | refine W_tt ?_ | refine W_ff ?_ | refine W_test (fun hc => ?_) (fun hc => ?_) | go_step)
    exact Body_ret hd ⟨rfl, by simp⟩
def rules (data : Bool) : List (FuncId × Int) := if data = true then [(100, 181), (101, 182), (102, 183), (103, 184)] else [(97, 183), (98, 181)]
theorem refuses_calls {w : World} (data : Bool) : Ret Try.prog 77 #[.bool data] w fun v w' => Ext w w' ∧ ∃ g, v = .slice (some ⟨g, 0, none⟩) (rules data).length (rules data).length ∧ g < w'.heap.size ∧
    ∀ (k : Nat) p, (rules data)[k]? = some p → ∃ u, w'.cell? ⟨g, k, none⟩ = some u ∧ Rule w' u p.1 p.2 := by
  cases data
  · refine Fn_of Try.func77 rfl (Nat.le_of_ble_eq_true rfl) ?_; intro A hd hA; simp only [ix, Nat.reduceAdd]; replace hA : A.tmps.size = 20 := hA
    repeat' (first | refine X_gt ?_ | refine X_q ?_ | refine X_g ?_ | refine X_gf ?_ | refine X_niln ?_ | refine X_nil ?_ | (refine X_var (fun yn bn hn1 hn2 hn3 hn4 hn5 => ?_)) | refine W_seqk (fun K hK => ?_) | refine W_seqr ?_ | refine W_ret ?_ | refine W_skip ?_ | refine W_block ?_ | refine W_exit ?_ | (refine X_s (fun x K hK => ?_); go_simp; refine hK _ _ (Ext.alloc _ _) ?_; clear hK K; refine X_al x ?_; generalize (World.later _ x).heap.size = bn; intro yn hn1 hn2 hn3 hn4 hn5; clear x) | refine W_tt ?_ | refine W_ff ?_ | refine W_test (fun hc => ?_) (fun hc => ?_) | go_step)
    refine X_valret (lv := [.int .i64 183, .func (.func 97) #[] #[]]) (first := #[]) (captured := #[]) Try.func95 (isRule_calls 183 97) (fun v1 w1 hR => ?_)
    obtain ⟨hE1, hR1⟩ := hR
    obtain ⟨y1, rfl⟩ := hE1.get
    have HR1 := Lib.hid hR1
    obtain ⟨a1, c1, rfl, -⟩ := hR1
    clear hE1
    repeat' (first | refine X_gt ?_ | refine X_q ?_ | refine X_g ?_ | refine X_gf ?_ | refine X_niln ?_ | refine X_nil ?_ | (refine X_var (fun yn bn hn1 hn2 hn3 hn4 hn5 => ?_)) | refine W_seqk (fun K hK => ?_) | refine W_seqr ?_ | refine W_ret ?_ | refine W_skip ?_ | refine W_block ?_ | refine W_exit ?_ | (refine X_s (fun x K hK => ?_); go_simp; refine hK _ _ (Ext.alloc _ _) ?_; clear hK K; refine X_al x ?_; generalize (World.later _ x).heap.size = bn; intro yn hn1 hn2 hn3 hn4 hn5; clear x) | refine W_tt ?_ | refine W_ff ?_ | refine W_test (fun hc => ?_) (fun hc => ?_) | go_step)
    refine X_valret (lv := [.int .i64 181, .func (.func 98) #[] #[]]) (first := #[]) (captured := #[]) Try.func95 (isRule_calls 181 98) (fun v2 w2 hR => ?_)
    obtain ⟨hE2, hR2⟩ := hR
    obtain ⟨y2, rfl⟩ := hE2.get
    have HR2 := Lib.hid hR2
    obtain ⟨a2, c2, rfl, -⟩ := hR2
    clear hE2
    repeat' (first | refine X_gt ?_ | refine X_q ?_ | refine X_g ?_ | refine X_gf ?_ | refine X_niln ?_ | refine X_nil ?_ | (refine X_var (fun yn bn hn1 hn2 hn3 hn4 hn5 => ?_)) | refine W_seqk (fun K hK => ?_) | refine W_seqr ?_ | refine W_ret ?_ | refine W_skip ?_ | refine W_block ?_ | refine W_exit ?_ | (refine X_s (fun x K hK => ?_); go_simp; refine hK _ _ (Ext.alloc _ _) ?_; clear hK K; refine X_al x ?_; generalize (World.later _ x).heap.size = bn; intro yn hn1 hn2 hn3 hn4 hn5; clear x) | refine W_tt ?_ | refine W_ff ?_ | refine W_test (fun hc => ?_) (fun hc => ?_) | go_step)
    refine Body_ret hd ⟨by simp, bn, rfl, hn2, ?_⟩
    intro k p hp
    match k, hp with
    | 0, hp => cases hp; exact ⟨_, hn3 0, (HR1.out.later y2.2).later yn.2⟩
    | 1, hp => cases hp; exact ⟨_, hn3 1, HR2.out.later yn.2⟩
  · refine Fn_of Try.func77 rfl (Nat.le_of_ble_eq_true rfl) ?_; intro A hd hA; simp only [ix, Nat.reduceAdd]; replace hA : A.tmps.size = 20 := hA
    repeat' (first | refine X_gt ?_ | refine X_q ?_ | refine X_g ?_ | refine X_gf ?_ | refine X_niln ?_ | refine X_nil ?_ | (refine X_var (fun yn bn hn1 hn2 hn3 hn4 hn5 => ?_)) | refine W_seqk (fun K hK => ?_) | refine W_seqr ?_ | refine W_ret ?_ | refine W_skip ?_ | refine W_block ?_ | refine W_exit ?_ | (refine X_s (fun x K hK => ?_); go_simp; refine hK _ _ (Ext.alloc _ _) ?_; clear hK K; refine X_al x ?_; generalize (World.later _ x).heap.size = bn; intro yn hn1 hn2 hn3 hn4 hn5; clear x) | refine W_tt ?_ | refine W_ff ?_ | refine W_test (fun hc => ?_) (fun hc => ?_) | go_step)
    refine X_valret (lv := [.int .i64 181, .func (.func 100) #[] #[]]) (first := #[]) (captured := #[]) Try.func95 (isRule_calls 181 100) (fun v1 w1 hR => ?_)
    obtain ⟨hE1, hR1⟩ := hR
    obtain ⟨y1, rfl⟩ := hE1.get
    have HR1 := Lib.hid hR1
    obtain ⟨a1, c1, rfl, -⟩ := hR1
    clear hE1
    repeat' (first | refine X_gt ?_ | refine X_q ?_ | refine X_g ?_ | refine X_gf ?_ | refine X_niln ?_ | refine X_nil ?_ | (refine X_var (fun yn bn hn1 hn2 hn3 hn4 hn5 => ?_)) | refine W_seqk (fun K hK => ?_) | refine W_seqr ?_ | refine W_ret ?_ | refine W_skip ?_ | refine W_block ?_ | refine W_exit ?_ | (refine X_s (fun x K hK => ?_); go_simp; refine hK _ _ (Ext.alloc _ _) ?_; clear hK K; refine X_al x ?_; generalize (World.later _ x).heap.size = bn; intro yn hn1 hn2 hn3 hn4 hn5; clear x) | refine W_tt ?_ | refine W_ff ?_ | refine W_test (fun hc => ?_) (fun hc => ?_) | go_step)
    refine X_valret (lv := [.int .i64 182, .func (.func 101) #[] #[]]) (first := #[]) (captured := #[]) Try.func95 (isRule_calls 182 101) (fun v2 w2 hR => ?_)
    obtain ⟨hE2, hR2⟩ := hR
    obtain ⟨y2, rfl⟩ := hE2.get
    have HR2 := Lib.hid hR2
    obtain ⟨a2, c2, rfl, -⟩ := hR2
    clear hE2
    repeat' (first | refine X_gt ?_ | refine X_q ?_ | refine X_g ?_ | refine X_gf ?_ | refine X_niln ?_ | refine X_nil ?_ | (refine X_var (fun yn bn hn1 hn2 hn3 hn4 hn5 => ?_)) | refine W_seqk (fun K hK => ?_) | refine W_seqr ?_ | refine W_ret ?_ | refine W_skip ?_ | refine W_block ?_ | refine W_exit ?_ | (refine X_s (fun x K hK => ?_); go_simp; refine hK _ _ (Ext.alloc _ _) ?_; clear hK K; refine X_al x ?_; generalize (World.later _ x).heap.size = bn; intro yn hn1 hn2 hn3 hn4 hn5; clear x) | refine W_tt ?_ | refine W_ff ?_ | refine W_test (fun hc => ?_) (fun hc => ?_) | go_step)
    refine X_valret (lv := [.int .i64 183, .func (.func 102) #[] #[]]) (first := #[]) (captured := #[]) Try.func95 (isRule_calls 183 102) (fun v3 w3 hR => ?_)
    obtain ⟨hE3, hR3⟩ := hR
    obtain ⟨y3, rfl⟩ := hE3.get
    have HR3 := Lib.hid hR3
    obtain ⟨a3, c3, rfl, -⟩ := hR3
    clear hE3
    repeat' (first | refine X_gt ?_ | refine X_q ?_ | refine X_g ?_ | refine X_gf ?_ | refine X_niln ?_ | refine X_nil ?_ | (refine X_var (fun yn bn hn1 hn2 hn3 hn4 hn5 => ?_)) | refine W_seqk (fun K hK => ?_) | refine W_seqr ?_ | refine W_ret ?_ | refine W_skip ?_ | refine W_block ?_ | refine W_exit ?_ | (refine X_s (fun x K hK => ?_); go_simp; refine hK _ _ (Ext.alloc _ _) ?_; clear hK K; refine X_al x ?_; generalize (World.later _ x).heap.size = bn; intro yn hn1 hn2 hn3 hn4 hn5; clear x) | refine W_tt ?_ | refine W_ff ?_ | refine W_test (fun hc => ?_) (fun hc => ?_) | go_step)
    refine X_valret (lv := [.int .i64 184, .func (.func 103) #[] #[]]) (first := #[]) (captured := #[]) Try.func95 (isRule_calls 184 103) (fun v4 w4 hR => ?_)
    obtain ⟨hE4, hR4⟩ := hR
    obtain ⟨y4, rfl⟩ := hE4.get
    have HR4 := Lib.hid hR4
    obtain ⟨a4, c4, rfl, -⟩ := hR4
    clear hE4
    repeat' (first | refine X_gt ?_ | refine X_q ?_ | refine X_g ?_ | refine X_gf ?_ | refine X_niln ?_ | refine X_nil ?_ | (refine X_var (fun yn bn hn1 hn2 hn3 hn4 hn5 => ?_)) | refine W_seqk (fun K hK => ?_) | refine W_seqr ?_ | refine W_ret ?_ | refine W_skip ?_ | refine W_block ?_ | refine W_exit ?_ | (refine X_s (fun x K hK => ?_); go_simp; refine hK _ _ (Ext.alloc _ _) ?_; clear hK K; refine X_al x ?_; generalize (World.later _ x).heap.size = bn; intro yn hn1 hn2 hn3 hn4 hn5; clear x) | refine W_tt ?_ | refine W_ff ?_ | refine W_test (fun hc => ?_) (fun hc => ?_) | go_step)
    refine Body_ret hd ⟨by simp, bn, rfl, hn2, ?_⟩
    intro k p hp
    match k, hp with
    | 0, hp => cases hp; exact ⟨_, hn3 0, (((HR1.out.later y2.2).later y3.2).later y4.2).later yn.2⟩
    | 1, hp => cases hp; exact ⟨_, hn3 1, ((HR2.out.later y3.2).later y4.2).later yn.2⟩
    | 2, hp => cases hp; exact ⟨_, hn3 2, (HR3.out.later y4.2).later yn.2⟩
    | 3, hp => cases hp; exact ⟨_, hn3 3, HR4.out.later yn.2⟩
end Go.Ws
