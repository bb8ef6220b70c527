import Derived.Test.YtkdcgmloapmpkaaLeast
import Derived.Test.YtkdcgmloapmpkaaPlain8
namespace Go.Ws
open Go Go.RowKit Go.Proofs
set_option maxHeartbeats 2000000
set_option maxRecDepth 100000
set_option linter.unusedVariables false
set_option linter.unusedSimpArgs false
set_option pp.deepTerms true
set_option pp.maxSteps 100000000

theorem look_iff {κ β : Type} [DecidableEq κ] {L : List (κ × β × Nat)} (hn : (L.map (·.1)).Nodup) (k : κ) (v : β) : look L k = some v ↔ ∃ b, (k, v, b) ∈ L := by
  unfold look
  constructor
  · intro h
    cases hf : L.find? (fun x => decide (x.1 = k)) with
    | none => rw [hf] at h; cases h
    | some x =>
      rw [hf] at h
      obtain ⟨x1, x2, x3⟩ := x
      simp only [Option.map_some, Option.some.injEq] at h
      have h1 := List.find?_some hf
      have h2 := List.mem_of_find?_eq_some hf
      simp only [decide_eq_true_eq] at h1
      subst h h1
      exact ⟨x3, h2⟩
  · rintro ⟨b, hb⟩
    cases hf : L.find? (fun x => decide (x.1 = k)) with
    | none =>
      have := List.find?_eq_none.1 hf _ hb
      simp at this
    | some x =>
      have h1 := List.find?_some hf
      have h2 := List.mem_of_find?_eq_some hf
      have := inj_of_nodup hn h2 hb (by simpa using h1)
      rw [this]; rfl
theorem mem_values {L : List (Int × Int × Nat)} (hn : (L.map (·.1)).Nodup) {xs : List Int} (h : AllOf L (·.2.1) xs) (x : Int) : x ∈ xs ↔ ∃ k, look L k = some x := by
  obtain ⟨P, hP, rfl⟩ := h
  rw [List.mem_map]
  constructor
  · rintro ⟨y, hy, rfl⟩
    exact ⟨y.1, (look_iff hn _ _).2 ⟨y.2.2, hP.mem_iff.1 hy⟩⟩
  · rintro ⟨k, hk⟩
    obtain ⟨b, hb⟩ := (look_iff hn _ _).1 hk
    exact ⟨_, hP.mem_iff.2 hb, rfl⟩
theorem of_right : ∀ (l log : List Ent), ofFrom log l = 0 → ∀ e ∈ l, rightB e = true
  | [], _, _, e, he => by cases he
  | x :: l, log, h, e, he => by
    rw [ofFrom] at h
    by_cases hx : appendNo log x = 0
    · rw [if_pos hx] at h
      rcases List.mem_cons.1 he with rfl | he
      · exact (of_no hx).1
      · exact of_right l _ h e he
    · rw [if_neg hx] at h; exact absurd h hx
theorem kinds_of {l : List Ent} (h : ofNo l = 0) : ∀ e ∈ l, 1 ≤ e.kind := fun e he => (right_bounds (of_right l [] h e he)).2.2.2.2.1
theorem tabStable_calls {b : Nat} {w : World} {F : Nat → Prop} {l : List Ent} (h : Tab w b F l) (hok : ofNo l = 0) : Pure Try.prog 53 #[.pointer (some ⟨b, 0, none⟩)] w (.int .i64 (stableB l)) := by
  obtain ⟨u, mb, g, h, hF⟩ := h
  have HT := Lib.hid h
  have hs := h.seen
  have hcell := Lib.hid (fun i (hi : i < 4) => (h.blk.cell (k := 1 + i * 5 + 3) (by omega)).trans (by rw [h.opens i hi]))
  clear h
  obtain ⟨hlt, hmade, hlog, hrd⟩ := hs
  obtain ⟨A0, c, rfl, hc, hcm, -⟩ := hrd.ent
  clear hrd hF
  refine Fn_of Try.func53 rfl (Nat.le_of_ble_eq_true rfl) ?_; intro A hd hA; simp only [ix, Nat.reduceAdd]; replace hA : A.tmps.size = 28 := hA
  repeat' (first | refine X_pure Try.func74 (none_calls (b := b) (by simp [hlt]) (by simp [hlt, hmade])) ?_ | refine X_gpure Try.func74 (fun _ => none_calls (b := b) (by simp [hlt]) (by simp [hlt, hmade])) ?_ | refine X_d (fun vb hvb => ?_) | refine X_dg (fun vb hvb => ?_) | refine X_q ?_ | refine X_g ?_ | refine X_gf ?_ | refine X_niln ?_ | refine X_nil ?_ | (refine X_var (fun yn bn hn1 hn2 hn3 hn4 hn5 => ?_)) | refine W_seqk (fun K hK => ?_) | refine W_seqr ?_ | refine W_ret ?_ | refine W_skip ?_ | refine W_block ?_ | refine W_exit ?_ | (refine X_s (fun x K hK => ?_); go_simp; refine hK _ _ (Ext.alloc _ _) ?_; clear hK K; refine X_al x ?_; generalize (World.later _ x).heap.size = bn; intro yn hn1 hn2 hn3 hn4 hn5; clear x) | refine W_tt ?_ | refine W_ff ?_ | refine W_test (fun hc => ?_) (fun hc => ?_) | go_step)
  refine W_loops [0, 3, 13] (fun n vs w' => ∃ (k : Nat) (y : Later w), w' = w.later y ∧ k + n = 4 ∧ vs = [.pointer (some ⟨b, 0, none⟩), .int .i64 (stTo l k), .int .i64 k]) 4 hd hA (by decide) ⟨0, ⟨w, Ext.refl w⟩, rfl, by omega, by simp [stTo]⟩ ?_
  clear hd hA A; intro n vs B w' hd hA _ ⟨k, y, hw, hk, hvs⟩; subst hw hvs
  simp only [List.zip_cons_cons, List.zip_nil_right, List.zip_nil_left]
  by_cases hk4 : k < 4
  · have hki : (k : Int) < 4 := by omega
    have r4 := hcell.out k hk4
    obtain ⟨L, clock, hL, hf⟩ := HT.out.mopens k hk4
    have HL := Lib.hid hL
    have Hf := Lib.hid hf
    clear hL hf
    repeat' (first | refine X_d (fun vb hvb => ?_) | refine X_dg (fun vb hvb => ?_) | refine X_q ?_ | refine X_g ?_ | refine X_gf ?_ | refine X_niln ?_ | refine X_nil ?_ | (refine X_var (fun yn bn hn1 hn2 hn3 hn4 hn5 => ?_)) | refine W_seqk (fun K hK => ?_) | refine W_seqr ?_ | refine W_ret ?_ | refine W_skip ?_ | refine W_block ?_ | refine W_exit ?_ | (refine X_s (fun x K hK => ?_); go_simp; refine hK _ _ (Ext.alloc _ _) ?_; clear hK K; refine X_al x ?_; generalize (World.later _ x).heap.size = bn; intro yn hn1 hn2 hn3 hn4 hn5; clear x) | refine W_tt ?_ | refine W_ff ?_ | refine W_test (fun hc => ?_) (fun hc => ?_) | go_step)
    refine X_ret Try.func79 valuesOf_calls (fun v' w' hR => ?_)
    obtain ⟨bx, rfl, hE', hbx1, hbx2, hbx3⟩ := hR
    obtain ⟨y', rfl⟩ := hE'.get
    clear hE'
    repeat' (first | refine X_d (fun vb hvb => ?_) | refine X_dg (fun vb hvb => ?_) | refine X_q ?_ | refine X_g ?_ | refine X_gf ?_ | refine X_niln ?_ | refine X_nil ?_ | (refine X_var (fun yn bn hn1 hn2 hn3 hn4 hn5 => ?_)) | refine W_seqk (fun K hK => ?_) | refine W_seqr ?_ | refine W_ret ?_ | refine W_skip ?_ | refine W_block ?_ | refine W_exit ?_ | (refine X_s (fun x K hK => ?_); go_simp; refine hK _ _ (Ext.alloc _ _) ?_; clear hK K; refine X_al x ?_; generalize (World.later _ x).heap.size = bn; intro yn hn1 hn2 hn3 hn4 hn5; clear x) | refine W_tt ?_ | refine W_ff ?_ | refine W_test (fun hc => ?_) (fun hc => ?_) | go_step)
    refine X_ret Try.func78 (least_calls (stTo l k) (values_iter hbx2 hbx3 (HL.out.later (by simp))) (fun j hj => by rcases hj with rfl | rfl; exact hbx2; exact (HL.out.later (by simp)).lt)) (fun v' w' hR => ?_)
    obtain ⟨xs, hS, rfl, hE'⟩ := hR
    obtain ⟨y2, rfl⟩ := hE'.get
    clear hE'
    repeat' (first | refine X_d (fun vb hvb => ?_) | refine X_dg (fun vb hvb => ?_) | refine X_q ?_ | refine X_g ?_ | refine X_gf ?_ | refine X_niln ?_ | refine X_nil ?_ | (refine X_var (fun yn bn hn1 hn2 hn3 hn4 hn5 => ?_)) | refine W_seqk (fun K hK => ?_) | refine W_seqr ?_ | refine W_ret ?_ | refine W_skip ?_ | refine W_block ?_ | refine W_exit ?_ | (refine X_s (fun x K hK => ?_); go_simp; refine hK _ _ (Ext.alloc _ _) ?_; clear hK K; refine X_al x ?_; generalize (World.later _ x).heap.size = bn; intro yn hn1 hn2 hn3 hn4 hn5; clear x) | refine W_tt ?_ | refine W_ff ?_ | refine W_test (fun hc => ?_) (fun hc => ?_) | go_step)
    refine ⟨_, _, rfl, hd, hA, n - 1, by omega, k + 1, (y.trans y').trans y2, rfl, by omega, ?_⟩
    have : stTo l (k + 1) = xs.foldl min (stTo l k) := by
      rw [stTo, minF_eq]
      refine foldl_min_congr _ fun x => ?_
      rw [mem_values HL.out.keys hS, List.mem_map]
      constructor
      · rintro ⟨o, ho, rfl⟩
        exact ⟨o.num, by rw [← Hf.out]; exact (opens_iff (kinds_of hok) k o.num o.first).2 ho⟩
      · rintro ⟨num, hnum⟩
        rw [← Hf.out] at hnum
        exact ⟨⟨num, x⟩, (opens_iff (kinds_of hok) k num x).1 hnum, rfl⟩
    rw [this]
    simp
  · obtain rfl : k = 4 := by omega
    repeat' (first | refine X_d (fun vb hvb => ?_) | refine X_dg (fun vb hvb => ?_) | refine X_q ?_ | refine X_g ?_ | refine X_gf ?_ | refine X_niln ?_ | refine X_nil ?_ | (refine X_var (fun yn bn hn1 hn2 hn3 hn4 hn5 => ?_)) | refine W_seqk (fun K hK => ?_) | refine W_seqr ?_ | refine W_ret ?_ | refine W_skip ?_ | refine W_block ?_ | refine W_exit ?_ | (refine X_s (fun x K hK => ?_); go_simp; refine hK _ _ (Ext.alloc _ _) ?_; clear hK K; refine X_al x ?_; generalize (World.later _ x).heap.size = bn; intro yn hn1 hn2 hn3 hn4 hn5; clear x) | refine W_tt ?_ | refine W_ff ?_ | refine W_test (fun hc => ?_) (fun hc => ?_) | go_step)
    exact Body_ret hd ⟨rfl, by simp⟩
end Go.Ws
