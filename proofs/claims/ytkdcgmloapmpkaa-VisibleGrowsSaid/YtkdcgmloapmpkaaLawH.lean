import Derived.Test.YtkdcgmloapmpkaaLawG
namespace Go.Ws
open Go Go.RowKit Go.Proofs
set_option maxHeartbeats 2000000
set_option maxRecDepth 100000
set_option linter.unusedVariables false
set_option linter.unusedSimpArgs false
set_option pp.deepTerms true
set_option pp.maxSteps 100000000

theorem seenB_same {p : List Ent} {x y : Ent} (hi : x.id = y.id) (hn : x.num = y.num) : seenB p x = seenB p y := by
  unfold seenB; rw [hi, hn]
theorem mem_same {p : List Ent} {S a b : Nat} {x y : Ent} (hS : stableB p = S) (ha : a < S) (hb : b < S) (hx : p[a]? = some x) (hy : p[b]? = some y) (k1 : x.kind = 1) (k2 : y.kind = 1) (hi : x.id = y.id) (hn : x.num = y.num) : (a : Int) ∈ viewL p ↔ (b : Int) ∈ viewL p := by
  unfold viewL
  rw [hS, Int.toNat_natCast, mem_viewTo, mem_viewTo]
  constructor
  · rintro ⟨k, hk, hkS, e, he, h1, h2⟩
    obtain rfl : k = a := by omega
    rw [hx] at he; cases he
    exact ⟨b, rfl, hb, y, hy, k2, by rw [← seenB_same hi hn]; exact h2⟩
  · rintro ⟨k, hk, hkS, e, he, h1, h2⟩
    obtain rfl : k = b := by omega
    rw [hy] at he; cases he
    exact ⟨a, rfl, ha, x, hx, k1, by rw [seenB_same hi hn]; exact h2⟩
/-- A reader amidst VisibleGrows: the log in a slice, its view, what was told. -/
structure Grown (w W : World) (rb : Nat) (G : Nat → Prop) (L : List Ent) (m : Nat) (u va tv : Value) : Prop where
  rd : Rdr W rb G L m (viewL (L.take m))
  g : ∀ k, G k → w.heap.size ≤ k ∧ k < W.heap.size ∧ u.ownBlock ≠ some k ∧ va.ownBlock ≠ some k ∧ tv.ownBlock ≠ some k
  lu : RdE W u L
  la : RdI W va (viewL L)
  own : OwnI W tv (viewL (L.take m))
  new : ∀ k, tv.ownBlock = some k → w.heap.size ≤ k ∧ u.ownBlock ≠ some k ∧ va.ownBlock ≠ some k
  good : goodP L = true
  le : m ≤ L.length
theorem Grown.later {w W W' : World} {rb : Nat} {G : Nat → Prop} {L : List Ent} {m : Nat} {u va tv : Value} (h : Grown w W rb G L m u va tv) (hE : Ext W W') : Grown w W' rb G L m u va tv :=
  ⟨h.rd.later hE, fun k hk => ⟨(h.g k hk).1, Nat.lt_of_lt_of_le (h.g k hk).2.1 hE.size, (h.g k hk).2.2⟩, h.lu.later hE, h.la.later hE, h.own.later hE, h.new, h.good, h.le⟩
/-- A reader, and the log that it has taken, in a slice of our own. -/
structure Taken (w W : World) (rb : Nat) (G : Nat → Prop) (L : List Ent) (u : Value) : Prop where
  rd : Rdr W rb G L 0 []
  g : ∀ k, G k → w.heap.size ≤ k ∧ k < W.heap.size ∧ u.ownBlock ≠ some k
  own : OwnE W u L
  new : ∀ k, u.ownBlock = some k → w.heap.size ≤ k
  good : goodP L = true
theorem grows_calls (l : List Ent) (ns : List Int) (v x : Value) (w : World) (hl : RdE w v l) (hx : RdI w x ns) : Pure Try.prog 7 #[v, x] w (.bool true) := by
  have hl0 := Lib.hid hl
  have hx0 := Lib.hid hx
  obtain ⟨A0, c, rfl, hc, hcm, HL⟩ := hl.ent
  obtain ⟨A1, c1, rfl, hc1, hcm1, HN⟩ := hx.int
  clear hl hx
  by_cases hlen : l.length ≤ 60
  · have hli : ¬ (60 : Int) < (l.length : Int) := by omega
    refine Fn_of Try.func7 rfl (Nat.le_of_ble_eq_true rfl) ?_; intro A hd hA; simp only [ix, Nat.reduceAdd]; replace hA : A.tmps.size = 183 := hA
    repeat' (first | refine X_gt ?_ | refine X_q ?_ | refine X_g ?_ | refine X_gf ?_ | refine X_niln ?_ | refine X_nil ?_ | (refine X_var (fun yn bn hn1 hn2 hn3 hn4 hn5 => ?_)) | refine W_seqk (fun K hK => ?_) | refine W_seqr ?_ | refine W_ret ?_ | refine W_skip ?_ | refine W_block ?_ | refine W_exit ?_ | (refine X_s (fun x K hK => ?_); go_simp; refine hK _ _ (Ext.alloc _ _) ?_; clear hK K; refine X_al x ?_; generalize (World.later _ x).heap.size = bn; intro yn hn1 hn2 hn3 hn4 hn5; clear x) | refine W_tt ?_ | refine W_ff ?_ | refine W_test (fun hc => ?_) (fun hc => ?_) | go_step)
    refine X_ret Try.func30 rnew_calls (fun v2 w1 hR => ?_)
    obtain ⟨rb, rfl, hE1, hR⟩ := hR
    have hT0 : Taken w w1 rb _ [] (.slice none 0 0) := ⟨hR.here, fun k hk => ⟨hk.1, hk.2, (by intro h; cases h)⟩, Own.nil _, (by intro k h; cases h), rfl⟩
    clear hR
    obtain ⟨y0, hy0⟩ := hE1.get
    subst hy0
    repeat' (first | refine X_gt ?_ | refine X_q ?_ | refine X_g ?_ | refine X_gf ?_ | refine X_niln ?_ | refine X_nil ?_ | (refine X_var (fun yn bn hn1 hn2 hn3 hn4 hn5 => ?_)) | refine W_seqk (fun K hK => ?_) | refine W_seqr ?_ | refine W_ret ?_ | refine W_skip ?_ | refine W_block ?_ | refine W_exit ?_ | (refine X_s (fun x K hK => ?_); go_simp; refine hK _ _ (Ext.alloc _ _) ?_; clear hK K; refine X_al x ?_; generalize (World.later _ x).heap.size = bn; intro yn hn1 hn2 hn3 hn4 hn5; clear x) | refine W_tt ?_ | refine W_ff ?_ | refine W_test (fun hc => ?_) (fun hc => ?_) | go_step)
    refine W_loops [0, 1, 5, 6, 7] (fun n vs w' => ∃ (k : Nat) (y : Later w) (G : Nat → Prop) (L : List Ent) (u : Value), w' = w.later y ∧ n + k = l.length ∧ vs = [.slice A0 l.length c, .slice A1 ns.length c1, .pointer (some ⟨rb, 0, none⟩), u, .int .i64 k] ∧ Taken w (w.later y) rb G L u ∧ L.length ≤ k) l.length hd hA (by decide) ⟨0, y0, _, [], _, rfl, by omega, by simp, hT0, by simp⟩ ?_
    clear hE1 hT0 y0
    clear hd hA A; intro n vs B w' hd hA _ ⟨k, y, G, L, u, hw, hk, hvs, hT, hL⟩; subst hw hvs
    simp only [List.zip_cons_cons, List.zip_nil_right, List.zip_nil_left]
    obtain ⟨Au, nu, cu, rfl⟩ : ∃ A n c, u = .slice A n c := by obtain ⟨A, c, h, _⟩ := hT.own.rd Ent.len; exact ⟨_, _, _, h⟩
    have HT := Lib.hid hT
    have hLl := Lib.hid hL
    clear hT hL
    by_cases hlt : k < l.length
    · obtain ⟨e, be, oe, he, hA0, hbe, r0, r1, r2, r3, r4, r5⟩ := HL.out k hlt
      subst hA0
      have hki : (k : Int) < l.length := by omega
      repeat' (first | refine X_gt ?_ | refine X_q ?_ | refine X_g ?_ | refine X_gf ?_ | refine X_niln ?_ | refine X_nil ?_ | (refine X_var (fun yn bn hn1 hn2 hn3 hn4 hn5 => ?_)) | refine W_seqk (fun K hK => ?_) | refine W_seqr ?_ | refine W_ret ?_ | refine W_skip ?_ | refine W_block ?_ | refine W_exit ?_ | (refine X_s (fun x K hK => ?_); go_simp; refine hK _ _ (Ext.alloc _ _) ?_; clear hK K; refine X_al x ?_; generalize (World.later _ x).heap.size = bn; intro yn hn1 hn2 hn3 hn4 hn5; clear x) | refine W_tt ?_ | refine W_ff ?_ | refine W_test (fun hc => ?_) (fun hc => ?_) | go_step)
      refine X_ret Try.func31 (rpush_calls HT.out.rd e) (fun v' w3 hR => ?_)
      obtain ⟨rfl, hM, hR⟩ := hR
      have hE3 : Ext w w3 := Ext.fresh y.2 hM (fun k h => (HT.out.g k h).1)
      have hs3 := hM.size
      have hO3 := HT.out.own.mod hM (fun k hk h => (HT.out.g k h).2.2 hk)
      have hul := HT.out.own.lt
      by_cases h0 : pushNo L e = 0
      · rw [h0]
        have hpl : pushLog L e = L ++ [e] := by unfold pushLog; rw [if_pos h0]
        rw [hpl] at hR
        have HG := Lib.hid (show goodP (L ++ [e]) = true by rw [goodP_snoc, HT.out.good, h0]; rfl)
        have HR := Lib.hid hR.here
        have HO3 := Lib.hid hO3
        have HUL := Lib.hid hul
        have HM := Lib.hid hM
        clear hR hM hO3 hul h0 hpl r0 r1 r2 r3 r4 r5
        obtain ⟨y3, rfl⟩ := hE3.get
        obtain ⟨e2, be2, oe2, he2, hA2, hbe2, r0, r1, r2, r3, r4, r5⟩ := HL.out k hlt
        cases hA2
        obtain rfl : e2 = e := by have h1 := he.out; have h2 := he2.out; rw [h1] at h2; exact (Option.some.inj h2).symm
        repeat' (first | refine X_pure Try.func24 (num9_calls _ _) ?_ | refine X_gpure Try.func24 (fun _ => num9_calls _ _) ?_ | refine X_gt ?_ | refine X_q ?_ | refine X_g ?_ | refine X_gf ?_ | refine X_niln ?_ | refine X_nil ?_ | (refine X_var (fun yn bn hn1 hn2 hn3 hn4 hn5 => ?_)) | refine W_seqk (fun K hK => ?_) | refine W_seqr ?_ | refine W_ret ?_ | refine W_skip ?_ | refine W_block ?_ | refine W_exit ?_ | (refine X_s (fun x K hK => ?_); go_simp; refine hK _ _ (Ext.alloc _ _) ?_; clear hK K; refine X_al x ?_; generalize (World.later _ x).heap.size = bn; intro yn hn1 hn2 hn3 hn4 hn5; clear x) | refine W_tt ?_ | refine W_ff ?_ | refine W_test (fun hc => ?_) (fun hc => ?_) | go_step)
        have hLe := hLl.out
        refine X_append (ys := [e2]) elemEnt (HO3.out.later (by simp)) (Rd.one (x := e2) hn2 hn3 rfl) (by simp; omega) (by unfold maxLen; simp; omega) (fun u' w5 hM5 hO5 hF5 _ => ?_)
        have hs35 := hM5.size
        have hE5 : Ext w w5 := Ext.fresh (by simp : Ext w ((w.later y3).later yn)) hM5 (fun k hk => HT.out.new k hk)
        have hu3 : (w.later y3).heap.size ≤ ((w.later y3).later yn).heap.size := yn.2.size
        have hR5 := (HR.out.later yn.2).mod hM5 (fun k hk hk2 => by
          rcases hk.1 with h | h
          · exact (HT.out.g k h).2.2 hk2
          · have := HUL.out k hk2; omega)
        have hT5 : Taken w w5 rb _ (L ++ [e2]) u' := ⟨hR5, fun k hk => by
          have hwy : w.heap.size ≤ (w.later y).heap.size := y.2.size
          refine ⟨hk.1.elim (fun h => (HT.out.g k h).1) (fun h => by omega), by have := hk.2; omega, fun hk2 => ?_⟩
          rcases hF5 with h | ⟨g, h, hg⟩
          · rw [h] at hk2
            rcases hk.1 with h1 | h1
            · exact (HT.out.g k h1).2.2 hk2
            · have := HUL.out k hk2; omega
          · rw [h] at hk2; cases hk2; have := hk.2; omega, hO5, fun k hk => by
          rcases hF5 with h | ⟨g, h, hg⟩
          · exact HT.out.new k (h ▸ hk)
          · rw [h] at hk; cases hk; have := hE3.size; omega, HG.out⟩
        obtain ⟨y5, hy5⟩ := hE5.get
        subst hy5
        repeat' (first | refine X_gt ?_ | refine X_q ?_ | refine X_g ?_ | refine X_gf ?_ | refine X_niln ?_ | refine X_nil ?_ | (refine X_var (fun yn bn hn1 hn2 hn3 hn4 hn5 => ?_)) | refine W_seqk (fun K hK => ?_) | refine W_seqr ?_ | refine W_ret ?_ | refine W_skip ?_ | refine W_block ?_ | refine W_exit ?_ | (refine X_s (fun x K hK => ?_); go_simp; refine hK _ _ (Ext.alloc _ _) ?_; clear hK K; refine X_al x ?_; generalize (World.later _ x).heap.size = bn; intro yn hn1 hn2 hn3 hn4 hn5; clear x) | refine W_tt ?_ | refine W_ff ?_ | refine W_test (fun hc => ?_) (fun hc => ?_) | go_step)
        exact ⟨_, _, rfl, hd, hA, n - 1, by omega, k + 1, y5, _, _, _, rfl, by omega, by simp, hT5, by simp; omega⟩
      · have hpl : pushLog L e = L := by unfold pushLog; rw [if_neg h0]
        rw [hpl] at hR
        have h0' : (pushNo L e == 0) = false := by simpa using h0
        have hT3 : Taken w w3 rb _ L (.slice Au nu cu) := ⟨hR.here, fun k hk => by
          have hwy : w.heap.size ≤ (w.later y).heap.size := y.2.size
          refine ⟨hk.1.elim (fun h => (HT.out.g k h).1) (fun h => by omega), hk.2, fun hk2 => ?_⟩
          rcases hk.1 with h | h
          · exact (HT.out.g k h).2.2 hk2
          · have := hul k hk2; omega, hO3, HT.out.new, HT.out.good⟩
        have HT3 := Lib.hid hT3
        clear hR hM hO3 hul hT3 h0 r0 r1 r2 r3 r4 r5
        obtain ⟨y3, rfl⟩ := hE3.get
        repeat' (first | refine X_pure Try.func24 (num9_calls _ _) ?_ | refine X_gpure Try.func24 (fun _ => num9_calls _ _) ?_ | refine X_gt ?_ | refine X_q ?_ | refine X_g ?_ | refine X_gf ?_ | refine X_niln ?_ | refine X_nil ?_ | (refine X_var (fun yn bn hn1 hn2 hn3 hn4 hn5 => ?_)) | refine W_seqk (fun K hK => ?_) | refine W_seqr ?_ | refine W_ret ?_ | refine W_skip ?_ | refine W_block ?_ | refine W_exit ?_ | (refine X_s (fun x K hK => ?_); go_simp; refine hK _ _ (Ext.alloc _ _) ?_; clear hK K; refine X_al x ?_; generalize (World.later _ x).heap.size = bn; intro yn hn1 hn2 hn3 hn4 hn5; clear x) | refine W_tt ?_ | refine W_ff ?_ | refine W_test (fun hc => ?_) (fun hc => ?_) | go_step)
        exact ⟨_, _, rfl, hd, hA, n - 1, by omega, k + 1, y3, _, L, _, rfl, by omega, by simp, HT3.out, by have := hLl.out; omega⟩
    · have hki : ¬ (k : Int) < l.length := by omega
      have hLL : L.length ≤ 60 := by have := hLl.out; omega
      have hlu := HT.out.own.rd Ent.len
      have hun : nu = L.length := hlu.length.symm
      subst hun
      have hok := goodP_ok HT.out.good
      have hlu0 := Lib.hid hlu
      clear hlu
      repeat' (first | refine X_pure Try.func28 (HT.out.good ▸ visGood_calls L _ _ hlu0.out) ?_ | refine X_gpure Try.func28 (fun _ => HT.out.good ▸ visGood_calls L _ _ hlu0.out) ?_ | refine X_gt ?_ | refine X_q ?_ | refine X_g ?_ | refine X_gf ?_ | refine X_niln ?_ | refine X_nil ?_ | (refine X_var (fun yn bn hn1 hn2 hn3 hn4 hn5 => ?_)) | refine W_seqk (fun K hK => ?_) | refine W_seqr ?_ | refine W_ret ?_ | refine W_skip ?_ | refine W_block ?_ | refine W_exit ?_ | (refine X_s (fun x K hK => ?_); go_simp; refine hK _ _ (Ext.alloc _ _) ?_; clear hK K; refine X_al x ?_; generalize (World.later _ x).heap.size = bn; intro yn hn1 hn2 hn3 hn4 hn5; clear x) | refine W_tt ?_ | refine W_ff ?_ | refine W_test (fun hc => ?_) (fun hc => ?_) | go_step)
      refine X_ret Try.func20 (visView_calls L _ L.length _ hlu0.out (by omega)) (fun v2 w2 hR => ?_)
      obtain ⟨hE, -, -, h3⟩ := hR
      obtain ⟨va, rfl, hva, hfa⟩ := h3 hok (by omega)
      rw [Int.toNat_natCast, List.take_length] at hva
      have hE2 : Ext w w2 := Ext.trans y.2 hE
      have hul := HT.out.own.lt
      have hG2 : Grown w w2 rb G L 0 (.slice Au L.length cu) va (.slice none 0 0) := ⟨HT.out.rd.later hE, fun k hk => ⟨(HT.out.g k hk).1, Nat.lt_of_lt_of_le (HT.out.g k hk).2.1 hE.size, (HT.out.g k hk).2.2, fun h => by have := hfa k h; have := (HT.out.g k hk).2.1; omega, (by intro h; cases h)⟩, hlu0.out.later hE, hva.rd (enc := ics) (k := 1) (fun _ => rfl), Own.nil _, (by intro k h; cases h), HT.out.good, Nat.zero_le _⟩
      have hvn : va = .slice none 0 0 ∨ True := .inr trivial
      obtain ⟨Aa, na, ca, rfl⟩ := slice_of (hva.rd (enc := ics) (k := 1) (fun _ => rfl))
      have hna : na = (viewL L).length := (hva.rd (enc := ics) (k := 1) (fun _ => rfl)).length.symm
      subst hna
      clear hva hfa h3 hE hul hvn hlu0 HT hLl
      obtain ⟨y2, hy2⟩ := hE2.get
      subst hy2
      repeat' (first | refine X_gt ?_ | refine X_q ?_ | refine X_g ?_ | refine X_gf ?_ | refine X_niln ?_ | refine X_nil ?_ | (refine X_var (fun yn bn hn1 hn2 hn3 hn4 hn5 => ?_)) | refine W_seqk (fun K hK => ?_) | refine W_seqr ?_ | refine W_ret ?_ | refine W_skip ?_ | refine W_block ?_ | refine W_exit ?_ | (refine X_s (fun x K hK => ?_); go_simp; refine hK _ _ (Ext.alloc _ _) ?_; clear hK K; refine X_al x ?_; generalize (World.later _ x).heap.size = bn; intro yn hn1 hn2 hn3 hn4 hn5; clear x) | refine W_tt ?_ | refine W_ff ?_ | refine W_test (fun hc => ?_) (fun hc => ?_) | go_step)
      refine W_loops [1, 5, 6, 8, 9, 10, 11] (fun n vs w' => ∃ (i : Nat) (y : Later w) (G : Nat → Prop) (m : Nat) (tv : Value), w' = w.later y ∧ n + i = ns.length ∧ vs = [.slice A1 ns.length c1, .pointer (some ⟨rb, 0, none⟩), .slice Au L.length cu, .slice Aa (viewL L).length ca, .int .i64 0, tv, .int .i64 i] ∧ Grown w (w.later y) rb G L m (.slice Au L.length cu) (.slice Aa (viewL L).length ca) tv) ns.length hd hA (by decide) ⟨0, y2, G, 0, _, rfl, by omega, by simp, hG2⟩ ?_
      clear hG2 hE2 y2
      clear hd hA B G y; intro n vs B w' hd hA _ ⟨i, y, G, m, tv, hw, hi, hvs, hG⟩; subst hw hvs
      simp only [List.zip_cons_cons, List.zip_nil_right, List.zip_nil_left]
      obtain ⟨At, nt, ct, rfl⟩ := slice_of (hG.own.rd (enc := ics) (k := 1) (fun _ => rfl))
      have HG := Lib.hid hG
      clear hG
      by_cases hin : i < ns.length
      · obtain ⟨ni, b1, o1, HX, hA1, hb1, cx⟩ := HN.out i hin
        subst hA1
        have hini : (i : Int) < ns.length := by omega
        repeat' (first | refine X_gt ?_ | refine X_q ?_ | refine X_g ?_ | refine X_gf ?_ | refine X_niln ?_ | refine X_nil ?_ | (refine X_var (fun yn bn hn1 hn2 hn3 hn4 hn5 => ?_)) | refine W_seqk (fun K hK => ?_) | refine W_seqr ?_ | refine W_ret ?_ | refine W_skip ?_ | refine W_block ?_ | refine W_exit ?_ | (refine X_s (fun x K hK => ?_); go_simp; refine hK _ _ (Ext.alloc _ _) ?_; clear hK K; refine X_al x ?_; generalize (World.later _ x).heap.size = bn; intro yn hn1 hn2 hn3 hn4 hn5; clear x) | refine W_tt ?_ | refine W_ff ?_ | refine W_test (fun hc => ?_) (fun hc => ?_) | go_step)
        have hNx : ∃ N : Nat, (if 0 < if (L.length : Int) < ni then (L.length : Int) else ni then if (L.length : Int) < ni then (L.length : Int) else ni else 0) = (N : Int) ∧ N ≤ L.length := by
          by_cases h1 : (L.length : Int) < ni
          · by_cases h2 : (0 : Int) < L.length
            · exact ⟨L.length, by rw [if_pos h1, if_pos h2], Nat.le_refl _⟩
            · exact ⟨0, by rw [if_pos h1, if_neg h2]; rfl, Nat.zero_le _⟩
          · by_cases h2 : 0 < ni
            · exact ⟨ni.toNat, by rw [if_neg h1, if_pos h2]; omega, by omega⟩
            · exact ⟨0, by rw [if_neg h1, if_neg h2]; rfl, Nat.zero_le _⟩
        obtain ⟨N, hN, hNl⟩ := hNx
        rw [hN]
        clear hN cx HX
        have hpre := view_prefix HG.out.good (m := N) (n := L.length) hNl
        rw [List.take_length] at hpre
        obtain ⟨tl, htl⟩ := hpre
        have hvN : (viewL (L.take N)).length ≤ (viewL L).length := by rw [htl]; simp
        have htk : (viewL L).take (viewL (L.take N)).length = viewL (L.take N) := by rw [htl]; simp
        have hvL : (viewL L).length ≤ 60 := by have := viewL_len L; omega
        have HTK := Lib.hid htk
        clear htl htk tl
        refine X_ret Try.func20 (visView_calls L _ N _ HG.out.lu (by omega)) (fun v2 w2 hR => ?_)
        obtain ⟨hE, -, -, h3⟩ := hR
        obtain ⟨vn, rfl, hvn, hfn⟩ := h3 hok (by omega)
        rw [Int.toNat_natCast] at hvn
        have hE2 : Ext w w2 := Ext.trans y.2 hE
        have HG2 := Lib.hid (HG.out.later hE)
        obtain ⟨An, nn, cn, rfl⟩ := slice_of (hvn.rd (enc := ics) (k := 1) (fun _ => rfl))
        have hnn : nn = (viewL (L.take N)).length := (hvn.rd (enc := ics) (k := 1) (fun _ => rfl)).length.symm
        subst hnn
        have HVN := Lib.hid (hvn.rd (enc := ics) (k := 1) (fun _ => rfl))
        have HFN : Hid (∀ k, Value.ownBlock (.slice An (viewL (L.take N)).length cn) = some k → ¬ G k ∧ Value.ownBlock (.slice At nt ct) ≠ some k ∧ k < w2.heap.size) := Lib.hid (fun k hk => by
          have h1 := hfn k hk
          refine ⟨fun h => by have := (HG.out.g k h).2.1; omega, fun h => by have := HG.out.own.lt k h; omega, hvn.lt k hk⟩)
        have hca : (viewL L).length ≤ ca := by obtain ⟨_, _, h1, h2, _⟩ := HG.out.la; cases h1; exact h2
        clear hvn hfn h3 hE
        obtain ⟨y2, hy2⟩ := hE2.get
        subst hy2
        have hvi : ((viewL (L.take N)).length : Int) ≤ (viewL L).length := by omega
        have hvi2 : ¬ ((viewL L).length : Int) < (viewL (L.take N)).length := by omega
        have hvc : ((viewL (L.take N)).length : Int) ≤ ca := by omega
        repeat' (first | refine X_pure Try.func24 (num9_calls _ _) ?_ | refine X_gpure Try.func24 (fun _ => num9_calls _ _) ?_ | refine X_gt ?_ | refine X_q ?_ | refine X_g ?_ | refine X_gf ?_ | refine X_niln ?_ | refine X_nil ?_ | (refine X_var (fun yn bn hn1 hn2 hn3 hn4 hn5 => ?_)) | refine W_seqk (fun K hK => ?_) | refine W_seqr ?_ | refine W_ret ?_ | refine W_skip ?_ | refine W_block ?_ | refine W_exit ?_ | (refine X_s (fun x K hK => ?_); go_simp; refine hK _ _ (Ext.alloc _ _) ?_; clear hK K; refine X_al x ?_; generalize (World.later _ x).heap.size = bn; intro yn hn1 hn2 hn3 hn4 hn5; clear x) | refine W_tt ?_ | refine W_ff ?_ | refine W_test (fun hc => ?_) (fun hc => ?_) | go_step)
        refine X_pure Try.func25 (same9_calls (viewL (L.take N)) (viewL (L.take N)) _ _ _ HVN.out (HTK.out ▸ HG2.out.la.take _ hvN)) ?_
        repeat' (first | refine X_gt ?_ | refine X_q ?_ | refine X_g ?_ | refine X_gf ?_ | refine X_niln ?_ | refine X_nil ?_ | (refine X_var (fun yn bn hn1 hn2 hn3 hn4 hn5 => ?_)) | refine W_seqk (fun K hK => ?_) | refine W_seqr ?_ | refine W_ret ?_ | refine W_skip ?_ | refine W_block ?_ | refine W_exit ?_ | (refine X_s (fun x K hK => ?_); go_simp; refine hK _ _ (Ext.alloc _ _) ?_; clear hK K; refine X_al x ?_; generalize (World.later _ x).heap.size = bn; intro yn hn1 hn2 hn3 hn4 hn5; clear x) | refine W_tt ?_ | refine W_ff ?_ | refine W_test (fun hc => ?_) (fun hc => ?_) | go_step)
        refine X_ret Try.func32 (rto_calls HG2.out.rd N (by omega) (by have := viewL_len (L.take m); simp at this; omega) (fun h => by
          have hmN : m ≤ N := by
            unfold toNo at h
            rw [if_neg (by omega)] at h
            by_cases h2 : (N : Int) < m
            · rw [if_pos h2] at h; cases h
            · omega
          simpa using (more_same HG.out.good hmN).1)) (fun v3 w3 hR => ?_)
        have key : ∃ mq : Value, v3 = .tuple #[mq, .int .i64 (toNo L m N)] ∧ Ext w w3 ∧ RdI w3 (.slice An (viewL (L.take N)).length cn) (viewL (L.take N)) ∧ (∀ k, Value.ownBlock (.slice An (viewL (L.take N)).length cn) = some k → Value.ownBlock (.slice At nt ct) ≠ some k ∧ k < w3.heap.size) ∧ OwnI w3 (.slice At nt ct) (viewL (L.take m)) ∧ RdE w3 (.slice Au L.length cu) L ∧ RdI w3 (.slice Aa (viewL L).length ca) (viewL L) ∧
            ((toNo L m N ≠ 0 ∧ Grown w w3 rb G L m (.slice Au L.length cu) (.slice Aa (viewL L).length ca) (.slice At nt ct)) ∨
             (toNo L m N = 0 ∧ m ≤ N ∧ ∃ G2 : Nat → Prop, Rdr w3 rb G2 L N (viewL (L.take N)) ∧ (∀ k, G2 k → w.heap.size ≤ k ∧ k < w3.heap.size ∧ Value.ownBlock (.slice Au L.length cu) ≠ some k ∧ Value.ownBlock (.slice Aa (viewL L).length ca) ≠ some k ∧ Value.ownBlock (.slice At nt ct) ≠ some k) ∧ RdI w3 mq (toMore L (viewL (L.take m)) N))) := by
          have hwz : w.heap.size ≤ (w.later y2).heap.size := y2.2.size
          by_cases h0 : toNo L m N = 0
          · have hmN : m ≤ N := by
              have h := h0
              unfold toNo at h
              rw [if_neg (by omega)] at h
              by_cases h2 : (N : Int) < m
              · rw [if_pos h2] at h; cases h
              · omega
            obtain ⟨q, rfl, hM, G2, hG2, hR2, hq, hfq⟩ := hR.2 h0
            rw [(more_same HG.out.good hmN).2.1] at hR2
            have hs := hM.size
            refine ⟨q, by rw [h0], Ext.fresh y2.2 hM (fun k h => (HG2.out.g k h).1), HVN.out.mod hM (fun k hk => (HFN.out k hk).1), fun k hk => ⟨(HFN.out k hk).2.1, by have := (HFN.out k hk).2.2; omega⟩, HG2.out.own.mod hM (fun k hk h => (HG2.out.g k h).2.2.2.2 hk), HG2.out.lu.mod hM (fun k hk h => (HG2.out.g k h).2.2.1 hk), HG2.out.la.mod hM (fun k hk h => (HG2.out.g k h).2.2.2.1 hk), .inr ⟨h0, hmN, _, hR2.here, fun k hk => ?_, hq.rd (enc := ics) (k := 1) (fun _ => rfl)⟩⟩
            rcases hG2 k hk.1 with h | h
            · have := HG2.out.g k h
              exact ⟨this.1, hk.2, this.2.2⟩
            · exact ⟨by omega, hk.2, fun h1 => by have := HG2.out.lu.own_lt k h1; omega, fun h1 => by have := HG2.out.la.own_lt k h1; omega, fun h1 => by have := HG2.out.own.lt k h1; omega⟩
          · obtain ⟨rfl, hE⟩ := hR.1 h0
            exact ⟨_, rfl, Ext.trans y2.2 hE, HVN.out.later hE, fun k hk => ⟨(HFN.out k hk).2.1, by have := (HFN.out k hk).2.2; have := hE.size; omega⟩, HG2.out.own.later hE, HG2.out.lu.later hE, HG2.out.la.later hE, .inl ⟨h0, HG2.out.later hE⟩⟩
        clear hR
        obtain ⟨mq, rfl, hE3, hVN, hFN, hOt, hLu, hLa, hcase⟩ := key
        have HVN3 := Lib.hid hVN
        have HFN3 := Lib.hid hFN
        have HOT := Lib.hid hOt
        have HLU := Lib.hid hLu
        have HLA := Lib.hid hLa
        have HC := Lib.hid hcase
        have HOLD := Lib.hid HG.out.new
        have hgood := HG.out.good
        have HGD := Lib.hid hgood
        clear hVN hFN hOt hLu hLa hcase HG2 HVN HFN HG hgood hvi hvi2 hvc
        obtain ⟨y3, hy3⟩ := hE3.get
        subst hy3
        repeat' (first | refine X_pure Try.func24 (num9_calls _ _) ?_ | refine X_gpure Try.func24 (fun _ => num9_calls _ _) ?_ | refine X_gt ?_ | refine X_q ?_ | refine X_g ?_ | refine X_gf ?_ | refine X_niln ?_ | refine X_nil ?_ | (refine X_var (fun yn bn hn1 hn2 hn3 hn4 hn5 => ?_)) | refine W_seqk (fun K hK => ?_) | refine W_seqr ?_ | refine W_ret ?_ | refine W_skip ?_ | refine W_block ?_ | refine W_exit ?_ | (refine X_s (fun x K hK => ?_); go_simp; refine hK _ _ (Ext.alloc _ _) ?_; clear hK K; refine X_al x ?_; generalize (World.later _ x).heap.size = bn; intro yn hn1 hn2 hn3 hn4 hn5; clear x) | refine W_tt ?_ | refine W_ff ?_ | go_step)
        refine W_cut [1, 5, 6, 8, 9, 10, 11, 12, 13] (fun vs w' => ∃ (y4 : Later w) (G : Nat → Prop) (m : Nat) (tv : Value), w' = w.later y4 ∧ vs = [.slice (some ⟨b1, o1, none⟩) ns.length c1, .pointer (some ⟨rb, 0, none⟩), .slice Au L.length cu, .slice Aa (viewL L).length ca, .int .i64 0, tv, .int .i64 i, .int .i64 N, .slice An (viewL (L.take N)).length cn] ∧
          Grown w (w.later y4) rb G L m (.slice Au L.length cu) (.slice Aa (viewL L).length ca) tv ∧ RdI (w.later y4) (.slice An (viewL (L.take N)).length cn) (viewL (L.take N))) hd hA (by decide) ?_ ?_
        · rcases HC.out with ⟨h0, hG3⟩ | ⟨h0, hmN, G2, hR2, hG2, hq⟩
          · have h0' : (toNo L m N == 0) = false := by simpa using h0
            clear h0 HC
            repeat' (first | refine X_gt ?_ | refine X_q ?_ | refine X_g ?_ | refine X_gf ?_ | refine X_niln ?_ | refine X_nil ?_ | (refine X_var (fun yn bn hn1 hn2 hn3 hn4 hn5 => ?_)) | refine W_seqk (fun K hK => ?_) | refine W_seqr ?_ | refine W_ret ?_ | refine W_skip ?_ | refine W_block ?_ | refine W_exit ?_ | (refine X_s (fun x K hK => ?_); go_simp; refine hK _ _ (Ext.alloc _ _) ?_; clear hK K; refine X_al x ?_; generalize (World.later _ x).heap.size = bn; intro yn hn1 hn2 hn3 hn4 hn5; clear x) | refine W_tt ?_ | refine W_ff ?_ | refine W_test (fun hc => ?_) (fun hc => ?_) | go_step)
            exact ⟨rfl, _, _, rfl, hd, hA, y3, G, m, _, rfl, by simp, hG3, HVN3.out⟩
          · rw [h0]
            have HQ := Lib.hid hq
            have HR2 := Lib.hid hR2
            have HG2 := Lib.hid hG2
            have hm2 := more_same HGD.out hmN
            have HM2 := Lib.hid hm2
            have hvm : (viewL (L.take m)).length ≤ 60 := by have := viewL_len (L.take m); simp at this; omega
            have hqn : (toMore L (viewL (L.take m)) N).length ≤ 60 := by
              have h1 := congrArg List.length hm2.2.1
              simp at h1; omega
            clear hq hR2 hG2 h0 HC hm2
            repeat' (first | refine X_gt ?_ | refine X_q ?_ | refine X_g ?_ | refine X_gf ?_ | refine X_niln ?_ | refine X_nil ?_ | (refine X_var (fun yn bn hn1 hn2 hn3 hn4 hn5 => ?_)) | refine W_seqk (fun K hK => ?_) | refine W_seqr ?_ | refine W_ret ?_ | refine W_skip ?_ | refine W_block ?_ | refine W_exit ?_ | (refine X_s (fun x K hK => ?_); go_simp; refine hK _ _ (Ext.alloc _ _) ?_; clear hK K; refine X_al x ?_; generalize (World.later _ x).heap.size = bn; intro yn hn1 hn2 hn3 hn4 hn5; clear x) | refine W_tt ?_ | refine W_ff ?_ | refine W_test (fun hc => ?_) (fun hc => ?_) | go_step)
            refine X_append (xs := viewL (L.take m)) (ys := toMore L (viewL (L.take m)) N) elemInt HOT.out HQ.out (by omega) (by unfold maxLen; omega) (fun t2 w4 hM4 hO4 hF4 _ => ?_)
            rw [HM2.out.2.1] at hO4
            have hE4 : Ext w w4 := Ext.fresh y3.2 hM4 (fun k hk => (HOLD.out k hk).1)
            have hs4 := hM4.size
            have hV4 := HVN3.out.mod hM4 (fun k hk hk2 => (HFN3.out k hk).1 hk2)
            have hnew : ∀ k, t2.ownBlock = some k → (Value.ownBlock (.slice At nt ct) = some k) ∨ (w.later y3).heap.size ≤ k := by
              intro k hk
              rcases hF4 with h | ⟨g, h, hg⟩
              · exact .inl (h ▸ hk)
              · rw [h] at hk; cases hk; exact .inr hg
            have hwz3 : w.heap.size ≤ (w.later y3).heap.size := y3.2.size
            have hG4 : Grown w w4 rb G2 L N (.slice Au L.length cu) (.slice Aa (viewL L).length ca) t2 := ⟨HR2.out.mod hM4 (fun k hk h => (HG2.out k hk).2.2.2.2 h), fun k hk => by
                have h := HG2.out k hk
                exact ⟨h.1, by have := h.2.1; omega, h.2.2.1, h.2.2.2.1, fun hk2 => (hnew k hk2).elim h.2.2.2.2 (fun h3 => by have := h.2.1; omega)⟩,
              HLU.out.mod hM4 (fun k hk hk2 => (HOLD.out k hk2).2.1 hk), HLA.out.mod hM4 (fun k hk hk2 => (HOLD.out k hk2).2.2 hk), hO4, fun k hk => by
                rcases hnew k hk with h | h
                · exact HOLD.out k h
                · exact ⟨by omega, fun h2 => by have := HLU.out.own_lt k h2; omega, fun h2 => by have := HLA.out.own_lt k h2; omega⟩, HGD.out, hNl⟩
            have HG4 := Lib.hid hG4
            have HV4 := Lib.hid hV4
            have HO4 := Lib.hid hO4
            clear hM4 hO4 hF4 hG4 hV4 hnew
            obtain ⟨y4, hy4⟩ := hE4.get
            subst hy4
            repeat' (first | refine X_pure Try.func25 (same9_calls (viewL (L.take N)) (viewL (L.take N)) _ _ _ (HO4.out.rd (enc := ics) (k := 1) (fun _ => rfl)) HV4.out) ?_ | refine X_gpure Try.func25 (fun _ => same9_calls (viewL (L.take N)) (viewL (L.take N)) _ _ _ (HO4.out.rd (enc := ics) (k := 1) (fun _ => rfl)) HV4.out) ?_ | refine X_gt ?_ | refine X_q ?_ | refine X_g ?_ | refine X_gf ?_ | refine X_niln ?_ | refine X_nil ?_ | (refine X_var (fun yn bn hn1 hn2 hn3 hn4 hn5 => ?_)) | refine W_seqk (fun K hK => ?_) | refine W_seqr ?_ | refine W_ret ?_ | refine W_skip ?_ | refine W_block ?_ | refine W_exit ?_ | (refine X_s (fun x K hK => ?_); go_simp; refine hK _ _ (Ext.alloc _ _) ?_; clear hK K; refine X_al x ?_; generalize (World.later _ x).heap.size = bn; intro yn hn1 hn2 hn3 hn4 hn5; clear x) | refine W_tt ?_ | refine W_ff ?_ | refine W_test (fun hc => ?_) (fun hc => ?_) | go_step)
            exact ⟨rfl, _, _, rfl, hd, hA, y4, G2, N, _, rfl, by simp, HG4.out, HV4.out⟩
        · clear hd hA HC HOLD HLA HLU HOT HFN3 HVN3 hE3 hE2
          rintro vs B2 w' hd hA ⟨y4, G4, m4, tv4, rfl, rfl, hG4, hV4⟩
          simp only [List.zip_cons_cons, List.zip_nil_right, List.zip_nil_left]
          refine hK _ _ ?_
          clear hK
          have HG4 := Lib.hid hG4
          have HV4 := Lib.hid hV4
          clear hG4 hV4
          repeat' (first | refine X_gt ?_ | refine X_q ?_ | refine X_g ?_ | refine X_gf ?_ | refine X_niln ?_ | refine X_nil ?_ | (refine X_var (fun yn bn hn1 hn2 hn3 hn4 hn5 => ?_)) | refine W_seqk (fun K hK => ?_) | refine W_seqr ?_ | refine W_ret ?_ | refine W_skip ?_ | refine W_block ?_ | refine W_exit ?_ | (refine X_s (fun x K hK => ?_); go_simp; refine hK _ _ (Ext.alloc _ _) ?_; clear hK K; refine X_al x ?_; generalize (World.later _ x).heap.size = bn; intro yn hn1 hn2 hn3 hn4 hn5; clear x) | refine W_tt ?_ | refine W_ff ?_ | refine W_test (fun hc => ?_) (fun hc => ?_) | go_step)
          refine X_ret Try.func21 (visStable_calls L _ N _ HG4.out.lu) (fun v5 w5 hR => ?_)
          obtain ⟨hE5, hR⟩ := hR
          rw [if_neg (fun h => h hok), if_neg (by omega), Int.toNat_natCast] at hR
          subst hR
          have hE5w : Ext w w5 := Ext.trans (by simp) hE5
          have HG5 := Lib.hid (HG4.out.later hE5)
          have HV5 := Lib.hid (HV4.out.later hE5)
          clear hE5 HG4 HV4
          obtain ⟨y5, hy5⟩ := hE5w.get
          subst hy5
          obtain ⟨S, hS⟩ : ∃ S : Nat, stableB (L.take N) = S := ⟨(stableB (L.take N)).toNat, by have := stableB_nonneg (L.take N); omega⟩
          have hSN : S ≤ N := by have := stableB_le (L.take N); simp at this; omega
          rw [hS]
          have HS := Lib.hid hS
          clear hS
          repeat' (first | refine X_pure Try.func24 (num9_calls _ _) ?_ | refine X_gpure Try.func24 (fun _ => num9_calls _ _) ?_ | refine X_gt ?_ | refine X_q ?_ | refine X_g ?_ | refine X_gf ?_ | refine X_niln ?_ | refine X_nil ?_ | (refine X_var (fun yn bn hn1 hn2 hn3 hn4 hn5 => ?_)) | refine W_seqk (fun K hK => ?_) | refine W_seqr ?_ | refine W_ret ?_ | refine W_skip ?_ | refine W_block ?_ | refine W_exit ?_ | (refine X_s (fun x K hK => ?_); go_simp; refine hK _ _ (Ext.alloc _ _) ?_; clear hK K; refine X_al x ?_; generalize (World.later _ x).heap.size = bn; intro yn hn1 hn2 hn3 hn4 hn5; clear x) | refine W_tt ?_ | refine W_ff ?_ | refine W_test (fun hc => ?_) (fun hc => ?_) | go_step)
          refine W_loops [1, 5, 6, 8, 9, 10, 11, 13, 17, 19] (fun n3 vs w' => ∃ (a : Nat) (y : Later w), w' = w.later y ∧ n3 + a = S ∧ vs = [.slice (some ⟨b1, o1, none⟩) ns.length c1, .pointer (some ⟨rb, 0, none⟩), .slice Au L.length cu, .slice Aa (viewL L).length ca, .int .i64 0, tv4, .int .i64 i, .slice An (viewL (L.take N)).length cn, .int .i64 S, .int .i64 a] ∧ Grown w (w.later y) rb G4 L m4 (.slice Au L.length cu) (.slice Aa (viewL L).length ca) tv4 ∧ RdI (w.later y) (.slice An (viewL (L.take N)).length cn) (viewL (L.take N))) S hd hA (by decide) ⟨0, y5, rfl, by omega, by simp, HG5.out, HV5.out⟩ ?_
          clear hd hA B2 HG5 HV5 hE5w y5 y4 y3 y2; intro n3 vs B3 w' hd hA _ ⟨a, y, hw, ha, hvs, hG6, hV6⟩; subst hw hvs
          simp only [List.zip_cons_cons, List.zip_nil_right, List.zip_nil_left]
          have HG6 := Lib.hid hG6
          have HV6 := Lib.hid hV6
          clear hG6 hV6
          by_cases haS : a < S
          · have hai : (a : Int) < S := by omega
            repeat' (first | refine X_gt ?_ | refine X_q ?_ | refine X_g ?_ | refine X_gf ?_ | refine X_niln ?_ | refine X_nil ?_ | (refine X_var (fun yn bn hn1 hn2 hn3 hn4 hn5 => ?_)) | refine W_seqk (fun K hK => ?_) | refine W_seqr ?_ | refine W_ret ?_ | refine W_skip ?_ | refine W_block ?_ | refine W_exit ?_ | (refine X_s (fun x K hK => ?_); go_simp; refine hK _ _ (Ext.alloc _ _) ?_; clear hK K; refine X_al x ?_; generalize (World.later _ x).heap.size = bn; intro yn hn1 hn2 hn3 hn4 hn5; clear x) | refine W_tt ?_ | refine W_ff ?_ | refine W_test (fun hc => ?_) (fun hc => ?_) | go_step)
            refine W_loops [1, 5, 6, 8, 9, 10, 11, 13, 17, 19, 20] (fun n4 vs w' => ∃ (b : Nat) (y : Later w), w' = w.later y ∧ n4 + b = S ∧ vs = [.slice (some ⟨b1, o1, none⟩) ns.length c1, .pointer (some ⟨rb, 0, none⟩), .slice Au L.length cu, .slice Aa (viewL L).length ca, .int .i64 0, tv4, .int .i64 i, .slice An (viewL (L.take N)).length cn, .int .i64 S, .int .i64 a, .int .i64 b] ∧ Grown w (w.later y) rb G4 L m4 (.slice Au L.length cu) (.slice Aa (viewL L).length ca) tv4 ∧ RdI (w.later y) (.slice An (viewL (L.take N)).length cn) (viewL (L.take N))) S hd hA (by decide) ⟨0, y, rfl, by omega, by simp, HG6.out, HV6.out⟩ ?_
            clear hd hA B3 HG6 HV6 y; intro n4 vs B4 w' hd hA _ ⟨b, y, hw, hb, hvs, hG6, hV6⟩; subst hw hvs
            simp only [List.zip_cons_cons, List.zip_nil_right, List.zip_nil_left]
            have HG6 := Lib.hid hG6
            have HV6 := Lib.hid hV6
            have hlu := hG6.lu
            clear hG6 hV6
            by_cases hbS : b < S
            · have hbi : (b : Int) < S := by omega
              obtain ⟨_, _, hvv, -, -, HLr⟩ := hlu.ent
              cases hvv
              obtain ⟨ex, bl, ol, hex, hAu, hbl, r0, r1, r2, r3, r4, r5⟩ := HLr.out a (by omega)
              subst hAu
              obtain ⟨ey, bl2, ol2, hey, hAu, hbl2, s0, s1, s2, s3, s4, s5⟩ := HLr.out b (by omega)
              cases hAu
              have haL : (a : Int) < L.length := by omega
              have hbL : (b : Int) < L.length := by omega
              clear HLr hlu hbl2
              repeat' (first | refine X_gt ?_ | refine X_q ?_ | refine X_g ?_ | refine X_gf ?_ | refine X_niln ?_ | refine X_nil ?_ | (refine X_var (fun yn bn hn1 hn2 hn3 hn4 hn5 => ?_)) | refine W_seqk (fun K hK => ?_) | refine W_seqr ?_ | refine W_ret ?_ | refine W_skip ?_ | refine W_block ?_ | refine W_exit ?_ | (refine X_s (fun x K hK => ?_); go_simp; refine hK _ _ (Ext.alloc _ _) ?_; clear hK K; refine X_al x ?_; generalize (World.later _ x).heap.size = bn; intro yn hn1 hn2 hn3 hn4 hn5; clear x) | refine W_tt ?_ | refine W_ff ?_ | refine W_test (fun hc => ?_) (fun hc => ?_) | go_step)
              refine W_cut [1, 5, 6, 8, 9, 10, 11, 13, 17, 19, 20, 21, 22] (fun vs w' => ∃ (W5 : World) (bx bz : Nat), Ext (w.later y) W5 ∧ (vs = [.slice (some ⟨b1, o1, none⟩) ns.length c1, .pointer (some ⟨rb, 0, none⟩), .slice (some ⟨bl, ol, none⟩) L.length cu, .slice Aa (viewL L).length ca, .int .i64 0, tv4, .int .i64 i, .slice An (viewL (L.take N)).length cn, .int .i64 S, .int .i64 a, .int .i64 b, .pointer (some ⟨bx, 0, none⟩), .pointer (some ⟨bz, 0, none⟩)] ∧ w' = W5) ∧ Blk W5 bx 39 6 (put (fun k => #[.int .i64 0, .int .i64 0, .int .i64 0, .int .i64 0, .int .i64 0, .int .i64 0].getD k undef) 0 ex.v.cells.toList) ∧ Blk W5 bz 39 6 (put (fun k => #[.int .i64 0, .int .i64 0, .int .i64 0, .int .i64 0, .int .i64 0, .int .i64 0].getD k undef) 0 ey.v.cells.toList)) hd hA (by decide) ?_ ?_
              · refine W_fork [10, 11] (by kernel_rfl) ?_
                refine F_q (i := 0) ?_
                refine F_q (i := 1) ?_
                refine F_q (i := 2) ?_
                refine F_q (i := 3) ?_
                refine F_q (i := 4) ?_
                refine F_q (i := 5) ?_
                refine F_alts (i := 6) (rs := [8, 9]) (S_cons ?_ (S_cons ?_ (S_cons ?_ (S_end))))
                · refine S_q ?_
                  refine F_alts (i := 7) (rs := [8, 9]) (S_cons ?_ (S_cons ?_ (S_cons ?_ (S_end))))
                  · refine S_q ?_
                    refine F_alts (i := 8) (rs := [9]) (S_cons ?_ (S_cons ?_ (S_end)))
                    · refine S_s (fun q K hK => ?_)
                      go_simp; refine hK _ _ _ (Ext.alloc _ _) (Ext.refl _) ?_; clear hK K; refine F_al q ?_; generalize (World.later _ q).heap.size = bx; intro yx x1 x2 x3 x4 x5; clear q
                      refine F_alts (i := 9) (rs := []) (S_cons ?_ (S_end))
                      refine S_s (fun q K hK => ?_)
                      go_simp; refine hK _ _ _ (Ext.alloc _ _) (Ext.refl _) ?_; clear hK K; refine F_al q ?_; generalize (World.later _ q).heap.size = bz; intro yz z1 z2 z3 z4 z5; clear q
                      have hs1 : (w.later y).heap.size ≤ ((w.later y).later yx).heap.size := yx.2.size
                      refine F_alts (i := 10) (rs := []) (S_cons ?_ (S_end))
                      refine S_store (off := 0) (v := ex.v) ((Blk.new x5.out).later yz.2) (fun W10 hM10 hB10 => ?_)
                      have hBz := (show Blk (((w.later y).later yx).later yz) bz 39 6 _ from (Blk.new z5.out)).mod hM10 (by omega)
                      have hs2 := hM10.size
                      refine F_alts (i := 11) (rs := []) (S_cons ?_ (S_end))
                      refine S_store (off := 0) (v := ey.v) hBz (fun W11 hM11 hB11 => ?_)
                      exact F_nil (by kernel_rfl) ⟨rfl, _, _, rfl, hd, hA, _, bx, bz, (Ext.fresh (F := fun k => k = bx ∨ k = bz) (by simp : Ext (w.later y) (((w.later y).later yx).later yz)) (Mod.trans hM10 hM11 (fun k _ h => .inl h) (fun k _ h => .inr h)) (by rintro k (rfl | rfl) <;> omega)), ⟨by simp, rfl⟩, hB10.mod hM11 (by omega), hB11⟩
                    · refine S_s (fun q K hK => ?_)
                      go_simp; refine hK _ _ _ (Ext.alloc _ _) (Ext.refl _) ?_; clear hK K; refine F_al q ?_; generalize (World.later _ q).heap.size = bz; intro yz z1 z2 z3 z4 z5; clear q
                      refine F_alts (i := 8) (rs := []) (S_cons ?_ (S_end))
                      refine S_s (fun q K hK => ?_)
                      go_simp; refine hK _ _ _ (Ext.alloc _ _) (Ext.refl _) ?_; clear hK K; refine F_al q ?_; generalize (World.later _ q).heap.size = bx; intro yx x1 x2 x3 x4 x5; clear q
                      have hs1 : (w.later y).heap.size ≤ ((w.later y).later yz).heap.size := yz.2.size
                      refine F_alts (i := 10) (rs := []) (S_cons ?_ (S_end))
                      refine S_store (off := 0) (v := ex.v) (Blk.new x5.out) (fun W10 hM10 hB10 => ?_)
                      have hBz := (show Blk (((w.later y).later yz).later yx) bz 39 6 _ from ((Blk.new z5.out).later yx.2)).mod hM10 (by omega)
                      have hs2 := hM10.size
                      refine F_alts (i := 11) (rs := []) (S_cons ?_ (S_end))
                      refine S_store (off := 0) (v := ey.v) hBz (fun W11 hM11 hB11 => ?_)
                      exact F_nil (by kernel_rfl) ⟨rfl, _, _, rfl, hd, hA, _, bx, bz, (Ext.fresh (F := fun k => k = bx ∨ k = bz) (by simp : Ext (w.later y) (((w.later y).later yz).later yx)) (Mod.trans hM10 hM11 (fun k _ h => .inl h) (fun k _ h => .inr h)) (by rintro k (rfl | rfl) <;> omega)), ⟨by simp, rfl⟩, hB10.mod hM11 (by omega), hB11⟩
                  · refine S_s (fun q K hK => ?_)
                    go_simp; refine hK _ _ _ (Ext.alloc _ _) (Ext.refl _) ?_; clear hK K; refine F_al q ?_; generalize (World.later _ q).heap.size = bx; intro yx x1 x2 x3 x4 x5; clear q
                    refine F_alts (i := 7) (rs := [9]) (S_cons ?_ (S_cons ?_ (S_end)))
                    · refine S_q ?_
                      refine F_alts (i := 9) (rs := []) (S_cons ?_ (S_end))
                      refine S_s (fun q K hK => ?_)
                      go_simp; refine hK _ _ _ (Ext.alloc _ _) (Ext.refl _) ?_; clear hK K; refine F_al q ?_; generalize (World.later _ q).heap.size = bz; intro yz z1 z2 z3 z4 z5; clear q
                      have hs1 : (w.later y).heap.size ≤ ((w.later y).later yx).heap.size := yx.2.size
                      refine F_alts (i := 10) (rs := []) (S_cons ?_ (S_end))
                      refine S_store (off := 0) (v := ex.v) ((Blk.new x5.out).later yz.2) (fun W10 hM10 hB10 => ?_)
                      have hBz := (show Blk (((w.later y).later yx).later yz) bz 39 6 _ from (Blk.new z5.out)).mod hM10 (by omega)
                      have hs2 := hM10.size
                      refine F_alts (i := 11) (rs := []) (S_cons ?_ (S_end))
                      refine S_store (off := 0) (v := ey.v) hBz (fun W11 hM11 hB11 => ?_)
                      exact F_nil (by kernel_rfl) ⟨rfl, _, _, rfl, hd, hA, _, bx, bz, (Ext.fresh (F := fun k => k = bx ∨ k = bz) (by simp : Ext (w.later y) (((w.later y).later yx).later yz)) (Mod.trans hM10 hM11 (fun k _ h => .inl h) (fun k _ h => .inr h)) (by rintro k (rfl | rfl) <;> omega)), ⟨by simp, rfl⟩, hB10.mod hM11 (by omega), hB11⟩
                    · refine S_s (fun q K hK => ?_)
                      go_simp; refine hK _ _ _ (Ext.alloc _ _) (Ext.refl _) ?_; clear hK K; refine F_al q ?_; generalize (World.later _ q).heap.size = bz; intro yz z1 z2 z3 z4 z5; clear q
                      have hs1 : (w.later y).heap.size ≤ ((w.later y).later yx).heap.size := yx.2.size
                      refine F_alts (i := 7) (rs := [10]) (S_cons ?_ (S_cons ?_ (S_end)))
                      · refine S_q ?_
                        refine F_alts (i := 10) (rs := []) (S_cons ?_ (S_end))
                        refine S_store (off := 0) (v := ex.v) ((Blk.new x5.out).later yz.2) (fun W10 hM10 hB10 => ?_)
                        have hBz := (show Blk (((w.later y).later yx).later yz) bz 39 6 _ from (Blk.new z5.out)).mod hM10 (by omega)
                        have hs2 := hM10.size
                        refine F_alts (i := 11) (rs := []) (S_cons ?_ (S_end))
                        refine S_store (off := 0) (v := ey.v) hBz (fun W11 hM11 hB11 => ?_)
                        exact F_nil (by kernel_rfl) ⟨rfl, _, _, rfl, hd, hA, _, bx, bz, (Ext.fresh (F := fun k => k = bx ∨ k = bz) (by simp : Ext (w.later y) (((w.later y).later yx).later yz)) (Mod.trans hM10 hM11 (fun k _ h => .inl h) (fun k _ h => .inr h)) (by rintro k (rfl | rfl) <;> omega)), ⟨by simp, rfl⟩, hB10.mod hM11 (by omega), hB11⟩
                      · refine S_store (off := 0) (v := ex.v) ((Blk.new x5.out).later yz.2) (fun W10 hM10 hB10 => ?_)
                        have hBz := (show Blk (((w.later y).later yx).later yz) bz 39 6 _ from (Blk.new z5.out)).mod hM10 (by omega)
                        have hs2 := hM10.size
                        have hEp : Ext (w.later y) (((w.later y).later yx).later yz) := by simp
                        have hsp := hEp.size
                        have tl : bl < W10.heap.size := by omega
                        have t0 := (cell?_mod hM10 (k := bl) (o := ol + b * 6) (by omega) (by omega)).trans ((World.cell?_of_block (hEp.block bl hbl (fun h => h))).trans s0)
                        have t1 := (cell?_mod hM10 (k := bl) (o := ol + b * 6 + 1) (by omega) (by omega)).trans ((World.cell?_of_block (hEp.block bl hbl (fun h => h))).trans s1)
                        have t2 := (cell?_mod hM10 (k := bl) (o := ol + b * 6 + 2) (by omega) (by omega)).trans ((World.cell?_of_block (hEp.block bl hbl (fun h => h))).trans s2)
                        have t3 := (cell?_mod hM10 (k := bl) (o := ol + b * 6 + 3) (by omega) (by omega)).trans ((World.cell?_of_block (hEp.block bl hbl (fun h => h))).trans s3)
                        have t4 := (cell?_mod hM10 (k := bl) (o := ol + b * 6 + 4) (by omega) (by omega)).trans ((World.cell?_of_block (hEp.block bl hbl (fun h => h))).trans s4)
                        have t5 := (cell?_mod hM10 (k := bl) (o := ol + b * 6 + 5) (by omega) (by omega)).trans ((World.cell?_of_block (hEp.block bl hbl (fun h => h))).trans s5)
                        refine F_alts (i := 7) (rs := []) (S_cons ?_ (S_end))
                        refine S_q ?_
                        refine F_alts (i := 11) (rs := []) (S_cons ?_ (S_end))
                        refine S_store (off := 0) (v := ey.v) hBz (fun W11 hM11 hB11 => ?_)
                        exact F_nil (by kernel_rfl) ⟨rfl, _, _, rfl, hd, hA, _, bx, bz, (Ext.fresh (F := fun k => k = bx ∨ k = bz) (by simp : Ext (w.later y) (((w.later y).later yx).later yz)) (Mod.trans hM10 hM11 (fun k _ h => .inl h) (fun k _ h => .inr h)) (by rintro k (rfl | rfl) <;> omega)), ⟨by simp, rfl⟩, hB10.mod hM11 (by omega), hB11⟩
                  · refine S_s (fun q K hK => ?_)
                    go_simp; refine hK _ _ _ (Ext.alloc _ _) (Ext.refl _) ?_; clear hK K; refine F_al q ?_; generalize (World.later _ q).heap.size = bz; intro yz z1 z2 z3 z4 z5; clear q
                    refine F_alts (i := 7) (rs := [8]) (S_cons ?_ (S_cons ?_ (S_end)))
                    · refine S_q ?_
                      refine F_alts (i := 8) (rs := []) (S_cons ?_ (S_end))
                      refine S_s (fun q K hK => ?_)
                      go_simp; refine hK _ _ _ (Ext.alloc _ _) (Ext.refl _) ?_; clear hK K; refine F_al q ?_; generalize (World.later _ q).heap.size = bx; intro yx x1 x2 x3 x4 x5; clear q
                      have hs1 : (w.later y).heap.size ≤ ((w.later y).later yz).heap.size := yz.2.size
                      refine F_alts (i := 10) (rs := []) (S_cons ?_ (S_end))
                      refine S_store (off := 0) (v := ex.v) (Blk.new x5.out) (fun W10 hM10 hB10 => ?_)
                      have hBz := (show Blk (((w.later y).later yz).later yx) bz 39 6 _ from ((Blk.new z5.out).later yx.2)).mod hM10 (by omega)
                      have hs2 := hM10.size
                      refine F_alts (i := 11) (rs := []) (S_cons ?_ (S_end))
                      refine S_store (off := 0) (v := ey.v) hBz (fun W11 hM11 hB11 => ?_)
                      exact F_nil (by kernel_rfl) ⟨rfl, _, _, rfl, hd, hA, _, bx, bz, (Ext.fresh (F := fun k => k = bx ∨ k = bz) (by simp : Ext (w.later y) (((w.later y).later yz).later yx)) (Mod.trans hM10 hM11 (fun k _ h => .inl h) (fun k _ h => .inr h)) (by rintro k (rfl | rfl) <;> omega)), ⟨by simp, rfl⟩, hB10.mod hM11 (by omega), hB11⟩
                    · refine S_s (fun q K hK => ?_)
                      go_simp; refine hK _ _ _ (Ext.alloc _ _) (Ext.refl _) ?_; clear hK K; refine F_al q ?_; generalize (World.later _ q).heap.size = bx; intro yx x1 x2 x3 x4 x5; clear q
                      have hs1 : (w.later y).heap.size ≤ ((w.later y).later yz).heap.size := yz.2.size
                      refine F_alts (i := 7) (rs := [10]) (S_cons ?_ (S_cons ?_ (S_end)))
                      · refine S_q ?_
                        refine F_alts (i := 10) (rs := []) (S_cons ?_ (S_end))
                        refine S_store (off := 0) (v := ex.v) (Blk.new x5.out) (fun W10 hM10 hB10 => ?_)
                        have hBz := (show Blk (((w.later y).later yz).later yx) bz 39 6 _ from ((Blk.new z5.out).later yx.2)).mod hM10 (by omega)
                        have hs2 := hM10.size
                        refine F_alts (i := 11) (rs := []) (S_cons ?_ (S_end))
                        refine S_store (off := 0) (v := ey.v) hBz (fun W11 hM11 hB11 => ?_)
                        exact F_nil (by kernel_rfl) ⟨rfl, _, _, rfl, hd, hA, _, bx, bz, (Ext.fresh (F := fun k => k = bx ∨ k = bz) (by simp : Ext (w.later y) (((w.later y).later yz).later yx)) (Mod.trans hM10 hM11 (fun k _ h => .inl h) (fun k _ h => .inr h)) (by rintro k (rfl | rfl) <;> omega)), ⟨by simp, rfl⟩, hB10.mod hM11 (by omega), hB11⟩
                      · refine S_store (off := 0) (v := ex.v) (Blk.new x5.out) (fun W10 hM10 hB10 => ?_)
                        have hBz := (show Blk (((w.later y).later yz).later yx) bz 39 6 _ from ((Blk.new z5.out).later yx.2)).mod hM10 (by omega)
                        have hs2 := hM10.size
                        have hEp : Ext (w.later y) (((w.later y).later yz).later yx) := by simp
                        have hsp := hEp.size
                        have tl : bl < W10.heap.size := by omega
                        have t0 := (cell?_mod hM10 (k := bl) (o := ol + b * 6) (by omega) (by omega)).trans ((World.cell?_of_block (hEp.block bl hbl (fun h => h))).trans s0)
                        have t1 := (cell?_mod hM10 (k := bl) (o := ol + b * 6 + 1) (by omega) (by omega)).trans ((World.cell?_of_block (hEp.block bl hbl (fun h => h))).trans s1)
                        have t2 := (cell?_mod hM10 (k := bl) (o := ol + b * 6 + 2) (by omega) (by omega)).trans ((World.cell?_of_block (hEp.block bl hbl (fun h => h))).trans s2)
                        have t3 := (cell?_mod hM10 (k := bl) (o := ol + b * 6 + 3) (by omega) (by omega)).trans ((World.cell?_of_block (hEp.block bl hbl (fun h => h))).trans s3)
                        have t4 := (cell?_mod hM10 (k := bl) (o := ol + b * 6 + 4) (by omega) (by omega)).trans ((World.cell?_of_block (hEp.block bl hbl (fun h => h))).trans s4)
                        have t5 := (cell?_mod hM10 (k := bl) (o := ol + b * 6 + 5) (by omega) (by omega)).trans ((World.cell?_of_block (hEp.block bl hbl (fun h => h))).trans s5)
                        refine F_alts (i := 7) (rs := []) (S_cons ?_ (S_end))
                        refine S_q ?_
                        refine F_alts (i := 11) (rs := []) (S_cons ?_ (S_end))
                        refine S_store (off := 0) (v := ey.v) hBz (fun W11 hM11 hB11 => ?_)
                        exact F_nil (by kernel_rfl) ⟨rfl, _, _, rfl, hd, hA, _, bx, bz, (Ext.fresh (F := fun k => k = bx ∨ k = bz) (by simp : Ext (w.later y) (((w.later y).later yz).later yx)) (Mod.trans hM10 hM11 (fun k _ h => .inl h) (fun k _ h => .inr h)) (by rintro k (rfl | rfl) <;> omega)), ⟨by simp, rfl⟩, hB10.mod hM11 (by omega), hB11⟩
                · refine S_s (fun q K hK => ?_)
                  go_simp; refine hK _ _ _ (Ext.alloc _ _) (Ext.refl _) ?_; clear hK K; refine F_al q ?_; generalize (World.later _ q).heap.size = bx; intro yx x1 x2 x3 x4 x5; clear q
                  refine F_alts (i := 6) (rs := [9]) (S_cons ?_ (S_cons ?_ (S_end)))
                  · refine S_q ?_
                    refine F_alts (i := 7) (rs := [9]) (S_cons ?_ (S_cons ?_ (S_end)))
                    · refine S_q ?_
                      refine F_alts (i := 9) (rs := []) (S_cons ?_ (S_end))
                      refine S_s (fun q K hK => ?_)
                      go_simp; refine hK _ _ _ (Ext.alloc _ _) (Ext.refl _) ?_; clear hK K; refine F_al q ?_; generalize (World.later _ q).heap.size = bz; intro yz z1 z2 z3 z4 z5; clear q
                      have hs1 : (w.later y).heap.size ≤ ((w.later y).later yx).heap.size := yx.2.size
                      refine F_alts (i := 10) (rs := []) (S_cons ?_ (S_end))
                      refine S_store (off := 0) (v := ex.v) ((Blk.new x5.out).later yz.2) (fun W10 hM10 hB10 => ?_)
                      have hBz := (show Blk (((w.later y).later yx).later yz) bz 39 6 _ from (Blk.new z5.out)).mod hM10 (by omega)
                      have hs2 := hM10.size
                      refine F_alts (i := 11) (rs := []) (S_cons ?_ (S_end))
                      refine S_store (off := 0) (v := ey.v) hBz (fun W11 hM11 hB11 => ?_)
                      exact F_nil (by kernel_rfl) ⟨rfl, _, _, rfl, hd, hA, _, bx, bz, (Ext.fresh (F := fun k => k = bx ∨ k = bz) (by simp : Ext (w.later y) (((w.later y).later yx).later yz)) (Mod.trans hM10 hM11 (fun k _ h => .inl h) (fun k _ h => .inr h)) (by rintro k (rfl | rfl) <;> omega)), ⟨by simp, rfl⟩, hB10.mod hM11 (by omega), hB11⟩
                    · refine S_s (fun q K hK => ?_)
                      go_simp; refine hK _ _ _ (Ext.alloc _ _) (Ext.refl _) ?_; clear hK K; refine F_al q ?_; generalize (World.later _ q).heap.size = bz; intro yz z1 z2 z3 z4 z5; clear q
                      have hs1 : (w.later y).heap.size ≤ ((w.later y).later yx).heap.size := yx.2.size
                      refine F_alts (i := 7) (rs := [10]) (S_cons ?_ (S_cons ?_ (S_end)))
                      · refine S_q ?_
                        refine F_alts (i := 10) (rs := []) (S_cons ?_ (S_end))
                        refine S_store (off := 0) (v := ex.v) ((Blk.new x5.out).later yz.2) (fun W10 hM10 hB10 => ?_)
                        have hBz := (show Blk (((w.later y).later yx).later yz) bz 39 6 _ from (Blk.new z5.out)).mod hM10 (by omega)
                        have hs2 := hM10.size
                        refine F_alts (i := 11) (rs := []) (S_cons ?_ (S_end))
                        refine S_store (off := 0) (v := ey.v) hBz (fun W11 hM11 hB11 => ?_)
                        exact F_nil (by kernel_rfl) ⟨rfl, _, _, rfl, hd, hA, _, bx, bz, (Ext.fresh (F := fun k => k = bx ∨ k = bz) (by simp : Ext (w.later y) (((w.later y).later yx).later yz)) (Mod.trans hM10 hM11 (fun k _ h => .inl h) (fun k _ h => .inr h)) (by rintro k (rfl | rfl) <;> omega)), ⟨by simp, rfl⟩, hB10.mod hM11 (by omega), hB11⟩
                      · refine S_store (off := 0) (v := ex.v) ((Blk.new x5.out).later yz.2) (fun W10 hM10 hB10 => ?_)
                        have hBz := (show Blk (((w.later y).later yx).later yz) bz 39 6 _ from (Blk.new z5.out)).mod hM10 (by omega)
                        have hs2 := hM10.size
                        have hEp : Ext (w.later y) (((w.later y).later yx).later yz) := by simp
                        have hsp := hEp.size
                        have tl : bl < W10.heap.size := by omega
                        have t0 := (cell?_mod hM10 (k := bl) (o := ol + b * 6) (by omega) (by omega)).trans ((World.cell?_of_block (hEp.block bl hbl (fun h => h))).trans s0)
                        have t1 := (cell?_mod hM10 (k := bl) (o := ol + b * 6 + 1) (by omega) (by omega)).trans ((World.cell?_of_block (hEp.block bl hbl (fun h => h))).trans s1)
                        have t2 := (cell?_mod hM10 (k := bl) (o := ol + b * 6 + 2) (by omega) (by omega)).trans ((World.cell?_of_block (hEp.block bl hbl (fun h => h))).trans s2)
                        have t3 := (cell?_mod hM10 (k := bl) (o := ol + b * 6 + 3) (by omega) (by omega)).trans ((World.cell?_of_block (hEp.block bl hbl (fun h => h))).trans s3)
                        have t4 := (cell?_mod hM10 (k := bl) (o := ol + b * 6 + 4) (by omega) (by omega)).trans ((World.cell?_of_block (hEp.block bl hbl (fun h => h))).trans s4)
                        have t5 := (cell?_mod hM10 (k := bl) (o := ol + b * 6 + 5) (by omega) (by omega)).trans ((World.cell?_of_block (hEp.block bl hbl (fun h => h))).trans s5)
                        refine F_alts (i := 7) (rs := []) (S_cons ?_ (S_end))
                        refine S_q ?_
                        refine F_alts (i := 11) (rs := []) (S_cons ?_ (S_end))
                        refine S_store (off := 0) (v := ey.v) hBz (fun W11 hM11 hB11 => ?_)
                        exact F_nil (by kernel_rfl) ⟨rfl, _, _, rfl, hd, hA, _, bx, bz, (Ext.fresh (F := fun k => k = bx ∨ k = bz) (by simp : Ext (w.later y) (((w.later y).later yx).later yz)) (Mod.trans hM10 hM11 (fun k _ h => .inl h) (fun k _ h => .inr h)) (by rintro k (rfl | rfl) <;> omega)), ⟨by simp, rfl⟩, hB10.mod hM11 (by omega), hB11⟩
                  · refine S_s (fun q K hK => ?_)
                    go_simp; refine hK _ _ _ (Ext.alloc _ _) (Ext.refl _) ?_; clear hK K; refine F_al q ?_; generalize (World.later _ q).heap.size = bz; intro yz z1 z2 z3 z4 z5; clear q
                    have hs1 : (w.later y).heap.size ≤ ((w.later y).later yx).heap.size := yx.2.size
                    refine F_alts (i := 6) (rs := [10]) (S_cons ?_ (S_cons ?_ (S_end)))
                    · refine S_q ?_
                      refine F_alts (i := 7) (rs := [10]) (S_cons ?_ (S_cons ?_ (S_end)))
                      · refine S_q ?_
                        refine F_alts (i := 10) (rs := []) (S_cons ?_ (S_end))
                        refine S_store (off := 0) (v := ex.v) ((Blk.new x5.out).later yz.2) (fun W10 hM10 hB10 => ?_)
                        have hBz := (show Blk (((w.later y).later yx).later yz) bz 39 6 _ from (Blk.new z5.out)).mod hM10 (by omega)
                        have hs2 := hM10.size
                        refine F_alts (i := 11) (rs := []) (S_cons ?_ (S_end))
                        refine S_store (off := 0) (v := ey.v) hBz (fun W11 hM11 hB11 => ?_)
                        exact F_nil (by kernel_rfl) ⟨rfl, _, _, rfl, hd, hA, _, bx, bz, (Ext.fresh (F := fun k => k = bx ∨ k = bz) (by simp : Ext (w.later y) (((w.later y).later yx).later yz)) (Mod.trans hM10 hM11 (fun k _ h => .inl h) (fun k _ h => .inr h)) (by rintro k (rfl | rfl) <;> omega)), ⟨by simp, rfl⟩, hB10.mod hM11 (by omega), hB11⟩
                      · refine S_store (off := 0) (v := ex.v) ((Blk.new x5.out).later yz.2) (fun W10 hM10 hB10 => ?_)
                        have hBz := (show Blk (((w.later y).later yx).later yz) bz 39 6 _ from (Blk.new z5.out)).mod hM10 (by omega)
                        have hs2 := hM10.size
                        have hEp : Ext (w.later y) (((w.later y).later yx).later yz) := by simp
                        have hsp := hEp.size
                        have tl : bl < W10.heap.size := by omega
                        have t0 := (cell?_mod hM10 (k := bl) (o := ol + b * 6) (by omega) (by omega)).trans ((World.cell?_of_block (hEp.block bl hbl (fun h => h))).trans s0)
                        have t1 := (cell?_mod hM10 (k := bl) (o := ol + b * 6 + 1) (by omega) (by omega)).trans ((World.cell?_of_block (hEp.block bl hbl (fun h => h))).trans s1)
                        have t2 := (cell?_mod hM10 (k := bl) (o := ol + b * 6 + 2) (by omega) (by omega)).trans ((World.cell?_of_block (hEp.block bl hbl (fun h => h))).trans s2)
                        have t3 := (cell?_mod hM10 (k := bl) (o := ol + b * 6 + 3) (by omega) (by omega)).trans ((World.cell?_of_block (hEp.block bl hbl (fun h => h))).trans s3)
                        have t4 := (cell?_mod hM10 (k := bl) (o := ol + b * 6 + 4) (by omega) (by omega)).trans ((World.cell?_of_block (hEp.block bl hbl (fun h => h))).trans s4)
                        have t5 := (cell?_mod hM10 (k := bl) (o := ol + b * 6 + 5) (by omega) (by omega)).trans ((World.cell?_of_block (hEp.block bl hbl (fun h => h))).trans s5)
                        refine F_alts (i := 7) (rs := []) (S_cons ?_ (S_end))
                        refine S_q ?_
                        refine F_alts (i := 11) (rs := []) (S_cons ?_ (S_end))
                        refine S_store (off := 0) (v := ey.v) hBz (fun W11 hM11 hB11 => ?_)
                        exact F_nil (by kernel_rfl) ⟨rfl, _, _, rfl, hd, hA, _, bx, bz, (Ext.fresh (F := fun k => k = bx ∨ k = bz) (by simp : Ext (w.later y) (((w.later y).later yx).later yz)) (Mod.trans hM10 hM11 (fun k _ h => .inl h) (fun k _ h => .inr h)) (by rintro k (rfl | rfl) <;> omega)), ⟨by simp, rfl⟩, hB10.mod hM11 (by omega), hB11⟩
                    · refine S_store (off := 0) (v := ex.v) ((Blk.new x5.out).later yz.2) (fun W10 hM10 hB10 => ?_)
                      have hBz := (show Blk (((w.later y).later yx).later yz) bz 39 6 _ from (Blk.new z5.out)).mod hM10 (by omega)
                      have hs2 := hM10.size
                      have hEp : Ext (w.later y) (((w.later y).later yx).later yz) := by simp
                      have hsp := hEp.size
                      have tl : bl < W10.heap.size := by omega
                      have t0 := (cell?_mod hM10 (k := bl) (o := ol + b * 6) (by omega) (by omega)).trans ((World.cell?_of_block (hEp.block bl hbl (fun h => h))).trans s0)
                      have t1 := (cell?_mod hM10 (k := bl) (o := ol + b * 6 + 1) (by omega) (by omega)).trans ((World.cell?_of_block (hEp.block bl hbl (fun h => h))).trans s1)
                      have t2 := (cell?_mod hM10 (k := bl) (o := ol + b * 6 + 2) (by omega) (by omega)).trans ((World.cell?_of_block (hEp.block bl hbl (fun h => h))).trans s2)
                      have t3 := (cell?_mod hM10 (k := bl) (o := ol + b * 6 + 3) (by omega) (by omega)).trans ((World.cell?_of_block (hEp.block bl hbl (fun h => h))).trans s3)
                      have t4 := (cell?_mod hM10 (k := bl) (o := ol + b * 6 + 4) (by omega) (by omega)).trans ((World.cell?_of_block (hEp.block bl hbl (fun h => h))).trans s4)
                      have t5 := (cell?_mod hM10 (k := bl) (o := ol + b * 6 + 5) (by omega) (by omega)).trans ((World.cell?_of_block (hEp.block bl hbl (fun h => h))).trans s5)
                      refine F_alts (i := 6) (rs := []) (S_cons ?_ (S_end))
                      refine S_q ?_
                      refine F_alts (i := 7) (rs := []) (S_cons ?_ (S_end))
                      refine S_q ?_
                      refine F_alts (i := 11) (rs := []) (S_cons ?_ (S_end))
                      refine S_store (off := 0) (v := ey.v) hBz (fun W11 hM11 hB11 => ?_)
                      exact F_nil (by kernel_rfl) ⟨rfl, _, _, rfl, hd, hA, _, bx, bz, (Ext.fresh (F := fun k => k = bx ∨ k = bz) (by simp : Ext (w.later y) (((w.later y).later yx).later yz)) (Mod.trans hM10 hM11 (fun k _ h => .inl h) (fun k _ h => .inr h)) (by rintro k (rfl | rfl) <;> omega)), ⟨by simp, rfl⟩, hB10.mod hM11 (by omega), hB11⟩
                · refine S_s (fun q K hK => ?_)
                  go_simp; refine hK _ _ _ (Ext.alloc _ _) (Ext.refl _) ?_; clear hK K; refine F_al q ?_; generalize (World.later _ q).heap.size = bz; intro yz z1 z2 z3 z4 z5; clear q
                  refine F_alts (i := 6) (rs := [8]) (S_cons ?_ (S_cons ?_ (S_end)))
                  · refine S_q ?_
                    refine F_alts (i := 7) (rs := [8]) (S_cons ?_ (S_cons ?_ (S_end)))
                    · refine S_q ?_
                      refine F_alts (i := 8) (rs := []) (S_cons ?_ (S_end))
                      refine S_s (fun q K hK => ?_)
                      go_simp; refine hK _ _ _ (Ext.alloc _ _) (Ext.refl _) ?_; clear hK K; refine F_al q ?_; generalize (World.later _ q).heap.size = bx; intro yx x1 x2 x3 x4 x5; clear q
                      have hs1 : (w.later y).heap.size ≤ ((w.later y).later yz).heap.size := yz.2.size
                      refine F_alts (i := 10) (rs := []) (S_cons ?_ (S_end))
                      refine S_store (off := 0) (v := ex.v) (Blk.new x5.out) (fun W10 hM10 hB10 => ?_)
                      have hBz := (show Blk (((w.later y).later yz).later yx) bz 39 6 _ from ((Blk.new z5.out).later yx.2)).mod hM10 (by omega)
                      have hs2 := hM10.size
                      refine F_alts (i := 11) (rs := []) (S_cons ?_ (S_end))
                      refine S_store (off := 0) (v := ey.v) hBz (fun W11 hM11 hB11 => ?_)
                      exact F_nil (by kernel_rfl) ⟨rfl, _, _, rfl, hd, hA, _, bx, bz, (Ext.fresh (F := fun k => k = bx ∨ k = bz) (by simp : Ext (w.later y) (((w.later y).later yz).later yx)) (Mod.trans hM10 hM11 (fun k _ h => .inl h) (fun k _ h => .inr h)) (by rintro k (rfl | rfl) <;> omega)), ⟨by simp, rfl⟩, hB10.mod hM11 (by omega), hB11⟩
                    · refine S_s (fun q K hK => ?_)
                      go_simp; refine hK _ _ _ (Ext.alloc _ _) (Ext.refl _) ?_; clear hK K; refine F_al q ?_; generalize (World.later _ q).heap.size = bx; intro yx x1 x2 x3 x4 x5; clear q
                      have hs1 : (w.later y).heap.size ≤ ((w.later y).later yz).heap.size := yz.2.size
                      refine F_alts (i := 7) (rs := [10]) (S_cons ?_ (S_cons ?_ (S_end)))
                      · refine S_q ?_
                        refine F_alts (i := 10) (rs := []) (S_cons ?_ (S_end))
                        refine S_store (off := 0) (v := ex.v) (Blk.new x5.out) (fun W10 hM10 hB10 => ?_)
                        have hBz := (show Blk (((w.later y).later yz).later yx) bz 39 6 _ from ((Blk.new z5.out).later yx.2)).mod hM10 (by omega)
                        have hs2 := hM10.size
                        refine F_alts (i := 11) (rs := []) (S_cons ?_ (S_end))
                        refine S_store (off := 0) (v := ey.v) hBz (fun W11 hM11 hB11 => ?_)
                        exact F_nil (by kernel_rfl) ⟨rfl, _, _, rfl, hd, hA, _, bx, bz, (Ext.fresh (F := fun k => k = bx ∨ k = bz) (by simp : Ext (w.later y) (((w.later y).later yz).later yx)) (Mod.trans hM10 hM11 (fun k _ h => .inl h) (fun k _ h => .inr h)) (by rintro k (rfl | rfl) <;> omega)), ⟨by simp, rfl⟩, hB10.mod hM11 (by omega), hB11⟩
                      · refine S_store (off := 0) (v := ex.v) (Blk.new x5.out) (fun W10 hM10 hB10 => ?_)
                        have hBz := (show Blk (((w.later y).later yz).later yx) bz 39 6 _ from ((Blk.new z5.out).later yx.2)).mod hM10 (by omega)
                        have hs2 := hM10.size
                        have hEp : Ext (w.later y) (((w.later y).later yz).later yx) := by simp
                        have hsp := hEp.size
                        have tl : bl < W10.heap.size := by omega
                        have t0 := (cell?_mod hM10 (k := bl) (o := ol + b * 6) (by omega) (by omega)).trans ((World.cell?_of_block (hEp.block bl hbl (fun h => h))).trans s0)
                        have t1 := (cell?_mod hM10 (k := bl) (o := ol + b * 6 + 1) (by omega) (by omega)).trans ((World.cell?_of_block (hEp.block bl hbl (fun h => h))).trans s1)
                        have t2 := (cell?_mod hM10 (k := bl) (o := ol + b * 6 + 2) (by omega) (by omega)).trans ((World.cell?_of_block (hEp.block bl hbl (fun h => h))).trans s2)
                        have t3 := (cell?_mod hM10 (k := bl) (o := ol + b * 6 + 3) (by omega) (by omega)).trans ((World.cell?_of_block (hEp.block bl hbl (fun h => h))).trans s3)
                        have t4 := (cell?_mod hM10 (k := bl) (o := ol + b * 6 + 4) (by omega) (by omega)).trans ((World.cell?_of_block (hEp.block bl hbl (fun h => h))).trans s4)
                        have t5 := (cell?_mod hM10 (k := bl) (o := ol + b * 6 + 5) (by omega) (by omega)).trans ((World.cell?_of_block (hEp.block bl hbl (fun h => h))).trans s5)
                        refine F_alts (i := 7) (rs := []) (S_cons ?_ (S_end))
                        refine S_q ?_
                        refine F_alts (i := 11) (rs := []) (S_cons ?_ (S_end))
                        refine S_store (off := 0) (v := ey.v) hBz (fun W11 hM11 hB11 => ?_)
                        exact F_nil (by kernel_rfl) ⟨rfl, _, _, rfl, hd, hA, _, bx, bz, (Ext.fresh (F := fun k => k = bx ∨ k = bz) (by simp : Ext (w.later y) (((w.later y).later yz).later yx)) (Mod.trans hM10 hM11 (fun k _ h => .inl h) (fun k _ h => .inr h)) (by rintro k (rfl | rfl) <;> omega)), ⟨by simp, rfl⟩, hB10.mod hM11 (by omega), hB11⟩
                  · refine S_s (fun q K hK => ?_)
                    go_simp; refine hK _ _ _ (Ext.alloc _ _) (Ext.refl _) ?_; clear hK K; refine F_al q ?_; generalize (World.later _ q).heap.size = bx; intro yx x1 x2 x3 x4 x5; clear q
                    have hs1 : (w.later y).heap.size ≤ ((w.later y).later yz).heap.size := yz.2.size
                    refine F_alts (i := 6) (rs := [10]) (S_cons ?_ (S_cons ?_ (S_end)))
                    · refine S_q ?_
                      refine F_alts (i := 7) (rs := [10]) (S_cons ?_ (S_cons ?_ (S_end)))
                      · refine S_q ?_
                        refine F_alts (i := 10) (rs := []) (S_cons ?_ (S_end))
                        refine S_store (off := 0) (v := ex.v) (Blk.new x5.out) (fun W10 hM10 hB10 => ?_)
                        have hBz := (show Blk (((w.later y).later yz).later yx) bz 39 6 _ from ((Blk.new z5.out).later yx.2)).mod hM10 (by omega)
                        have hs2 := hM10.size
                        refine F_alts (i := 11) (rs := []) (S_cons ?_ (S_end))
                        refine S_store (off := 0) (v := ey.v) hBz (fun W11 hM11 hB11 => ?_)
                        exact F_nil (by kernel_rfl) ⟨rfl, _, _, rfl, hd, hA, _, bx, bz, (Ext.fresh (F := fun k => k = bx ∨ k = bz) (by simp : Ext (w.later y) (((w.later y).later yz).later yx)) (Mod.trans hM10 hM11 (fun k _ h => .inl h) (fun k _ h => .inr h)) (by rintro k (rfl | rfl) <;> omega)), ⟨by simp, rfl⟩, hB10.mod hM11 (by omega), hB11⟩
                      · refine S_store (off := 0) (v := ex.v) (Blk.new x5.out) (fun W10 hM10 hB10 => ?_)
                        have hBz := (show Blk (((w.later y).later yz).later yx) bz 39 6 _ from ((Blk.new z5.out).later yx.2)).mod hM10 (by omega)
                        have hs2 := hM10.size
                        have hEp : Ext (w.later y) (((w.later y).later yz).later yx) := by simp
                        have hsp := hEp.size
                        have tl : bl < W10.heap.size := by omega
                        have t0 := (cell?_mod hM10 (k := bl) (o := ol + b * 6) (by omega) (by omega)).trans ((World.cell?_of_block (hEp.block bl hbl (fun h => h))).trans s0)
                        have t1 := (cell?_mod hM10 (k := bl) (o := ol + b * 6 + 1) (by omega) (by omega)).trans ((World.cell?_of_block (hEp.block bl hbl (fun h => h))).trans s1)
                        have t2 := (cell?_mod hM10 (k := bl) (o := ol + b * 6 + 2) (by omega) (by omega)).trans ((World.cell?_of_block (hEp.block bl hbl (fun h => h))).trans s2)
                        have t3 := (cell?_mod hM10 (k := bl) (o := ol + b * 6 + 3) (by omega) (by omega)).trans ((World.cell?_of_block (hEp.block bl hbl (fun h => h))).trans s3)
                        have t4 := (cell?_mod hM10 (k := bl) (o := ol + b * 6 + 4) (by omega) (by omega)).trans ((World.cell?_of_block (hEp.block bl hbl (fun h => h))).trans s4)
                        have t5 := (cell?_mod hM10 (k := bl) (o := ol + b * 6 + 5) (by omega) (by omega)).trans ((World.cell?_of_block (hEp.block bl hbl (fun h => h))).trans s5)
                        refine F_alts (i := 7) (rs := []) (S_cons ?_ (S_end))
                        refine S_q ?_
                        refine F_alts (i := 11) (rs := []) (S_cons ?_ (S_end))
                        refine S_store (off := 0) (v := ey.v) hBz (fun W11 hM11 hB11 => ?_)
                        exact F_nil (by kernel_rfl) ⟨rfl, _, _, rfl, hd, hA, _, bx, bz, (Ext.fresh (F := fun k => k = bx ∨ k = bz) (by simp : Ext (w.later y) (((w.later y).later yz).later yx)) (Mod.trans hM10 hM11 (fun k _ h => .inl h) (fun k _ h => .inr h)) (by rintro k (rfl | rfl) <;> omega)), ⟨by simp, rfl⟩, hB10.mod hM11 (by omega), hB11⟩
                    · refine S_store (off := 0) (v := ex.v) (Blk.new x5.out) (fun W10 hM10 hB10 => ?_)
                      have hBz := (show Blk (((w.later y).later yz).later yx) bz 39 6 _ from ((Blk.new z5.out).later yx.2)).mod hM10 (by omega)
                      have hs2 := hM10.size
                      have hEp : Ext (w.later y) (((w.later y).later yz).later yx) := by simp
                      have hsp := hEp.size
                      have tl : bl < W10.heap.size := by omega
                      have t0 := (cell?_mod hM10 (k := bl) (o := ol + b * 6) (by omega) (by omega)).trans ((World.cell?_of_block (hEp.block bl hbl (fun h => h))).trans s0)
                      have t1 := (cell?_mod hM10 (k := bl) (o := ol + b * 6 + 1) (by omega) (by omega)).trans ((World.cell?_of_block (hEp.block bl hbl (fun h => h))).trans s1)
                      have t2 := (cell?_mod hM10 (k := bl) (o := ol + b * 6 + 2) (by omega) (by omega)).trans ((World.cell?_of_block (hEp.block bl hbl (fun h => h))).trans s2)
                      have t3 := (cell?_mod hM10 (k := bl) (o := ol + b * 6 + 3) (by omega) (by omega)).trans ((World.cell?_of_block (hEp.block bl hbl (fun h => h))).trans s3)
                      have t4 := (cell?_mod hM10 (k := bl) (o := ol + b * 6 + 4) (by omega) (by omega)).trans ((World.cell?_of_block (hEp.block bl hbl (fun h => h))).trans s4)
                      have t5 := (cell?_mod hM10 (k := bl) (o := ol + b * 6 + 5) (by omega) (by omega)).trans ((World.cell?_of_block (hEp.block bl hbl (fun h => h))).trans s5)
                      refine F_alts (i := 6) (rs := []) (S_cons ?_ (S_end))
                      refine S_q ?_
                      refine F_alts (i := 7) (rs := []) (S_cons ?_ (S_end))
                      refine S_q ?_
                      refine F_alts (i := 11) (rs := []) (S_cons ?_ (S_end))
                      refine S_store (off := 0) (v := ey.v) hBz (fun W11 hM11 hB11 => ?_)
                      exact F_nil (by kernel_rfl) ⟨rfl, _, _, rfl, hd, hA, _, bx, bz, (Ext.fresh (F := fun k => k = bx ∨ k = bz) (by simp : Ext (w.later y) (((w.later y).later yz).later yx)) (Mod.trans hM10 hM11 (fun k _ h => .inl h) (fun k _ h => .inr h)) (by rintro k (rfl | rfl) <;> omega)), ⟨by simp, rfl⟩, hB10.mod hM11 (by omega), hB11⟩
              · clear hd hA r0 r1 r2 r3 r4 r5 s0 s1 s2 s3 s4 s5 haL hbL
                rintro vs B5 w' hd hA ⟨W5, bx, bz, hE, ⟨rfl, rfl⟩, hX, hZ⟩
                simp only [List.zip_cons_cons, List.zip_nil_right, List.zip_nil_left]
                refine hK _ _ ?_
                clear hK
                have x1 : w'.cell? ⟨bx, 1, none⟩ = some (.int .i64 ex.id) := (hX.cell (k := 1) (by omega)).trans rfl
                have x2 : w'.cell? ⟨bx, 2, none⟩ = some (.int .i64 ex.num) := (hX.cell (k := 2) (by omega)).trans rfl
                have x4 : w'.cell? ⟨bx, 4, none⟩ = some (.int .i64 ex.kind) := (hX.cell (k := 4) (by omega)).trans rfl
                have z1 : w'.cell? ⟨bz, 1, none⟩ = some (.int .i64 ey.id) := (hZ.cell (k := 1) (by omega)).trans rfl
                have z2 : w'.cell? ⟨bz, 2, none⟩ = some (.int .i64 ey.num) := (hZ.cell (k := 2) (by omega)).trans rfl
                have z4 : w'.cell? ⟨bz, 4, none⟩ = some (.int .i64 ey.kind) := (hZ.cell (k := 4) (by omega)).trans rfl
                have xl := hX.lt
                have zl := hZ.lt
                have hEw : Ext w w' := Ext.trans y.2 hE
                have HG7 := Lib.hid (HG6.out.later hE)
                have HV7 := Lib.hid (HV6.out.later hE)
                have hea : (L.take N)[a]? = some ex := by rw [List.getElem?_take, if_pos (by omega)]; exact hex.out
                have heb : (L.take N)[b]? = some ey := by rw [List.getElem?_take, if_pos (by omega)]; exact hey.out
                have HEA := Lib.hid hea
                have HEB := Lib.hid heb
                clear hX hZ HG6 HV6 hE hea heb
                obtain ⟨y7, hy7⟩ := hEw.get
                subst hy7
                repeat' (first | (refine X_gpure Try.func33 (fun _ => among_calls (viewL (L.take N)) _ a _ HV7.out) ?_) | (refine X_gpure Try.func33 (fun _ => among_calls (viewL (L.take N)) _ b _ HV7.out) ?_) | refine X_d (fun vb hvb => ?_) | refine X_dg (fun vb hvb => ?_) | refine X_q ?_ | refine X_g ?_ | refine X_gf ?_ | refine X_niln ?_ | refine X_nil ?_ | (refine X_var (fun yn bn hn1 hn2 hn3 hn4 hn5 => ?_)) | refine W_seqk (fun K hK => ?_) | refine W_seqr ?_ | refine W_ret ?_ | refine W_skip ?_ | refine W_block ?_ | refine W_exit ?_ | (refine X_s (fun x K hK => ?_); go_simp; refine hK _ _ (Ext.alloc _ _) ?_; clear hK K; refine X_al x ?_; generalize (World.later _ x).heap.size = bn; intro yn hn1 hn2 hn3 hn4 hn5; clear x) | refine W_tt ?_ | refine W_ff ?_ | refine W_test (fun hc => ?_) (fun hc => ?_) | go_step)
                · exfalso
                  repeat cases ‹Eqn _ _›
                  rw [Bool.and_eq_true] at hc
                  obtain ⟨h1, h2⟩ := hc
                  simp only [Bool.and_eq_true, beq_iff_eq, decide_eq_true_eq] at h1
                  have hm := mem_same HS.out haS hbS HEA.out HEB.out h1.1.2 h1.2 h1.1.1.1.2 h1.1.1.2
                  have he : decide ((a : Int) ∈ viewL (L.take N)) = decide ((b : Int) ∈ viewL (L.take N)) := decide_eq_decide.2 hm
                  rw [he] at h2
                  cases decide ((b : Int) ∈ viewL (L.take N)) <;> simp at h2
                · exact ⟨_, _, rfl, hd, hA, n4 - 1, by omega, b + 1, y7, rfl, by omega, by simp, HG7.out, HV7.out⟩
            · have hbi : ¬ (b : Int) < S := by omega
              repeat' (first | refine X_gt ?_ | refine X_q ?_ | refine X_g ?_ | refine X_gf ?_ | refine X_niln ?_ | refine X_nil ?_ | (refine X_var (fun yn bn hn1 hn2 hn3 hn4 hn5 => ?_)) | refine W_seqk (fun K hK => ?_) | refine W_seqr ?_ | refine W_ret ?_ | refine W_skip ?_ | refine W_block ?_ | refine W_exit ?_ | (refine X_s (fun x K hK => ?_); go_simp; refine hK _ _ (Ext.alloc _ _) ?_; clear hK K; refine X_al x ?_; generalize (World.later _ x).heap.size = bn; intro yn hn1 hn2 hn3 hn4 hn5; clear x) | refine W_tt ?_ | refine W_ff ?_ | refine W_test (fun hc => ?_) (fun hc => ?_) | go_step)
              exact ⟨_, _, rfl, hd, hA, n3 - 1, by omega, a + 1, y, rfl, by omega, by simp, HG6.out, HV6.out⟩
          · have hai : ¬ (a : Int) < S := by omega
            repeat' (first | refine X_gt ?_ | refine X_q ?_ | refine X_g ?_ | refine X_gf ?_ | refine X_niln ?_ | refine X_nil ?_ | (refine X_var (fun yn bn hn1 hn2 hn3 hn4 hn5 => ?_)) | refine W_seqk (fun K hK => ?_) | refine W_seqr ?_ | refine W_ret ?_ | refine W_skip ?_ | refine W_block ?_ | refine W_exit ?_ | (refine X_s (fun x K hK => ?_); go_simp; refine hK _ _ (Ext.alloc _ _) ?_; clear hK K; refine X_al x ?_; generalize (World.later _ x).heap.size = bn; intro yn hn1 hn2 hn3 hn4 hn5; clear x) | refine W_tt ?_ | refine W_ff ?_ | refine W_test (fun hc => ?_) (fun hc => ?_) | go_step)
            exact ⟨_, _, rfl, hd, hA, n - 1, by omega, i + 1, y, G4, m4, _, rfl, by omega, by simp, HG6.out⟩
      · have hini : ¬ (i : Int) < ns.length := by omega
        repeat' (first | refine X_pure Try.func24 (num9_calls _ _) ?_ | refine X_gpure Try.func24 (fun _ => num9_calls _ _) ?_ | refine X_pure Try.func19 (works_calls) ?_ | refine X_gpure Try.func19 (fun _ => works_calls) ?_ | refine X_gt ?_ | refine X_q ?_ | refine X_g ?_ | refine X_gf ?_ | refine X_niln ?_ | refine X_nil ?_ | (refine X_var (fun yn bn hn1 hn2 hn3 hn4 hn5 => ?_)) | refine W_seqk (fun K hK => ?_) | refine W_seqr ?_ | refine W_ret ?_ | refine W_skip ?_ | refine W_block ?_ | refine W_exit ?_ | (refine X_s (fun x K hK => ?_); go_simp; refine hK _ _ (Ext.alloc _ _) ?_; clear hK K; refine X_al x ?_; generalize (World.later _ x).heap.size = bn; intro yn hn1 hn2 hn3 hn4 hn5; clear x) | refine W_tt ?_ | refine W_ff ?_ | refine W_test (fun hc => ?_) (fun hc => ?_) | go_step)
        exact Body_ret hd ⟨rfl, by simp⟩
  · have hli : (60 : Int) < l.length := by omega
    refine Fn_of Try.func7 rfl (Nat.le_of_ble_eq_true rfl) ?_; intro A hd hA; simp only [ix, Nat.reduceAdd]; replace hA : A.tmps.size = 183 := hA
    repeat' (first | refine X_pure Try.func19 (works_calls) ?_ | refine X_gpure Try.func19 (fun _ => works_calls) ?_ | refine X_gt ?_ | refine X_q ?_ | refine X_g ?_ | refine X_gf ?_ | refine X_niln ?_ | refine X_nil ?_ | (refine X_var (fun yn bn hn1 hn2 hn3 hn4 hn5 => ?_)) | refine W_seqk (fun K hK => ?_) | refine W_seqr ?_ | refine W_ret ?_ | refine W_skip ?_ | refine W_block ?_ | refine W_exit ?_ | (refine X_s (fun x K hK => ?_); go_simp; refine hK _ _ (Ext.alloc _ _) ?_; clear hK K; refine X_al x ?_; generalize (World.later _ x).heap.size = bn; intro yn hn1 hn2 hn3 hn4 hn5; clear x) | refine W_tt ?_ | refine W_ff ?_ | refine W_test (fun hc => ?_) (fun hc => ?_) | go_step)
    exact Body_ret hd ⟨rfl, by simp⟩
end Go.Ws
