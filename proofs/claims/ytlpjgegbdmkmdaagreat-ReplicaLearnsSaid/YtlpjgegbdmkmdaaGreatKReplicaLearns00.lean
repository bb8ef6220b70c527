/- Lemmas for the statements of this layer (joined texts); no condition. -/
import Derived.Test.YtlpjgegbdmkmdaaGreatBa27
namespace Go.Ws
open Go Go.RowKit Go.Proofs
set_option maxHeartbeats 4000000
set_option maxRecDepth 100000
set_option linter.unusedVariables false
set_option linter.unusedSimpArgs false

theorem all4 {P : Nat → Prop} (h : P 0 ∧ P 1 ∧ P 2 ∧ P 3) : ∀ k, k < 4 → P k := by
  obtain ⟨h0, h1, h2, h3⟩ := h
  intro k hk
  obtain rfl | rfl | rfl | rfl : k = 0 ∨ k = 1 ∨ k = 2 ∨ k = 3 := by omega
  all_goals assumption
theorem learns_calls (self : Int) (l : List Quad) (v : Value) (w : World) (hl : RdQ w v l) (hq : ∀ q ∈ l, q.in) : Pure Tryz.prog 4 #[.int .i64 self, v] w (.bool true) := by
  have HL := Lib.hid hl
  have HQI := Lib.hid hq
  obtain ⟨A0, c0, rfl, hc0, hcm0, HRD⟩ := hl.quad
  clear hl hq
  by_cases h30 : l.length ≤ 30
  · have h30i : ¬ (30 : Int) < l.length := by omega
    refine Fn_of Tryz.func4 rfl (Nat.le_of_ble_eq_true rfl) ?_; intro A hd hA; simp only [ix, Nat.reduceAdd]; replace hA : A.tmps.size = 131 := hA
    repeat' (first | refine X_q ?_ | refine X_nil ?_ | refine W_seqk (fun K hK => ?_) | refine W_seqr ?_ | refine W_skip ?_ | refine W_block ?_ | refine W_ff ?_ | go_step)
    refine W_loops [0, 1, 4, 5, 6, 7, 8] (fun n vs w' => ∃ (i : Nat) (u : Value) (l' : List ActW) (ep ve : Int), Ext w w' ∧ i + n = l.length ∧ l'.length ≤ 3 * i ∧ vs = [.int .i64 self, .slice A0 l.length c0, .bool false, u, .int .i64 ep, .int .i64 ve, .int .i64 i] ∧ ActsAt w w' u l' ∧ (-(2 * (i : Int)) ≤ ep ∧ ep ≤ 3 * i) ∧ (-(2 * (i : Int)) ≤ ve ∧ ve ≤ 3 * i)) l.length hd hA (by decide) ⟨0, _, _, 0, 0, Ext.refl _, by omega, by simp, by simp, ActsAt.nil _ _, by omega, by omega⟩ ?_
    clear hd hA A; intro n vs B w' hd hA _ ⟨i, u, l', ep, ve, hE, hi, hl', hvs, hX, hep, hve⟩; subst hvs
    have HX := Lib.hid hX
    obtain ⟨y, rfl⟩ := hE.get
    clear hX hE
    obtain ⟨A1, m1, c1, rfl⟩ := own_slice HX.out.own
    simp only [List.zip_cons_cons, List.zip_nil_right, List.zip_nil_left]
    by_cases hlt : i < l.length
    · obtain ⟨q, b, o, HQ, rfl, hb, q0, q1, q2, q3⟩ := HRD.out i hlt
      have hii : (i : Int) < l.length := by omega
      obtain ⟨⟨qa1, qa2⟩, ⟨qb1, qb2⟩, ⟨qc1, qc2⟩, ⟨qd1, qd2⟩⟩ := HQI.out q (mem_of_get HQ.out)
      by_cases z1 : q.a % 7 = 6
      · have z1b : (q.a % 7 == 6) = true := by simp [z1]
        clear z1
        repeat' (first | refine X_q ?_ | refine X_nil ?_ | refine W_seqk (fun K hK => ?_) | refine W_seqr ?_ | refine W_skip ?_ | refine W_block ?_ | (refine X_s (fun x K hK => ?_); go_simp; refine hK _ _ (Ext.alloc _ _) ?_; clear hK K; refine X_al x ?_; generalize (World.later _ x).heap.size = bn; intro yn hn1 hn2 hn3 hn4 hn5; clear x) | refine W_tt ?_ | go_step)
        refine X_acts (w0 := w) (by simp) elemAct (HX.out.later yn.ext) (Rd.built (xs := [⟨{ ActD.zero with kind := 8, n := q.b % 3 }, Sl.nil, Sl.nil, Sl.nil⟩, ⟨{ ActD.zero with kind := 2, ent := ⟨0, -1, 0, 0, 1, 0⟩ }, Sl.nil, Sl.nil, Sl.nil⟩]) hn2 hn3 rfl (by simp [maxLen])) (fun a ha => by
          simp only [List.mem_cons, List.not_mem_nil, or_false] at ha
          rcases ha with rfl | rfl
          · exact ActW.fit_plain _ _ rfl rfl rfl (by simp)
          · exact ActW.fit_plain _ _ rfl rfl rfl (by simp)) (by simp; omega) (by unfold maxLen; simp; omega) (fun y2 v' hO hM => ?_)
        have HO := Lib.hid hO
        clear hO hM
        repeat' (first | refine X_q ?_ | refine X_nil ?_ | refine W_seqr ?_ | refine W_exit ?_ | go_step)
        exact ⟨_, _, rfl, hd, hA, n - 1, by omega, i + 1, _, _, ep, ve, y2.ext, by omega, by simp; omega, by simp, HO.out, by omega, by omega⟩
      · have z1b : (q.a % 7 == 6) = false := by simp [z1]
        clear z1
        repeat' (first | refine X_q ?_ | refine X_nil ?_ | refine W_seqk (fun K hK => ?_) | refine W_seqr ?_ | refine W_skip ?_ | refine W_block ?_ | refine W_tt ?_ | refine W_ff ?_ | go_step)
        refine W_drawσ [(0, 0), (1, 0), (2, 0), (3, 0), (4, 0), (5, 0), (6, 0), (7, 0), (8, 0), (9, 0), (10, 0), (11, 0), (12, 0), (13, 0), (14, 0), (15, 0), (16, 0), (17, 0), (18, 0), (19, 0), (20, 0), (21, 0), (22, 0), (23, 0), (24, 0), (25, 0), (26, 0), (27, 0), (28, 0), (29, 0), (30, 0), (31, 0), (32, 0), (33, 0), (34, 0), (35, 0), (36, 0)] (by kernel_rfl) (by kernel_rfl) ?_
        repeat' (first | refine X_q ?_ | refine X_niln ?_ | refine X_nil ?_ | (refine X_var (fun yn bn hn1 hn2 hn3 hn4 hn5 => ?_)) | refine W_seqk (fun K hK => ?_) | refine W_seqr ?_ | refine W_block ?_ | go_step)
        obtain ⟨b9, hb9⟩ : ∃ b9 : Nat, b9 = bn := ⟨_, rfl⟩
        subst hb9
        have hep' : -(2 * ((i + 1 : Nat) : Int)) ≤ ep + q.b % 3 - q.d % 2 ∧ ep + q.b % 3 - q.d % 2 ≤ 3 * ((i + 1 : Nat) : Int) := by omega
        have hve' : -(2 * ((i + 1 : Nat) : Int)) ≤ ve + q.c % 3 - q.d / 2 % 2 ∧ ve + q.c % 3 - q.d / 2 % 2 ≤ 3 * ((i + 1 : Nat) : Int) := by omega
        generalize (if q.d % 2 < ep + q.b % 3 then ep + q.b % 3 - q.d % 2 else 0) = E at *
        generalize (if q.d / 2 % 2 < ve + q.c % 3 then ve + q.c % 3 - q.d / 2 % 2 else 0) = V at *
        generalize ep + q.b % 3 - q.d % 2 = ep2 at *
        generalize q.a % 5 - 1 = L at *
        generalize ve + q.c % 3 - q.d / 2 % 2 = ve2 at *
        have HP0 := Lib.hid (Blk.new hn5.out)
        have h9w : (w.later y).heap.size ≤ b9 := hn1
        have h1l : ∀ k, (Value.slice A1 m1 c1).ownBlock = some k → k < (w.later y).heap.size := HX.out.own.lt
        have H1L := Lib.hid h1l
        have HE9 : Hid (Ext (w.later y) ((w.later y).later yn)) := Lib.hid yn.ext
        clear hn1 hn2 hn3 hn4 hn5 h1l hep hve
        refine W_loops [0, 1, 4, 5, 6, 7, 8, 9, 10] (fun j vs w' => ∃ (k : Nat) (u : Value) (bs : List Int), Ext (w.later y) w' ∧ k + j = 4 ∧ bs.length ≤ k ∧ vs = [.int .i64 self, .slice (some ⟨b, o, none⟩) l.length c0, .bool false, .slice A1 m1 c1, .int .i64 ep2, .int .i64 ve2, .int .i64 i, .pointer (some ⟨b9, 0, none⟩), .int .i64 k] ∧ Blk w' b9 42 4 (fun k => [Value.int .i64 L, .int .i64 E, .int .i64 V, u].getD k undef) ∧ Own ics 1 3 w' u bs ∧ ∀ g, u.ownBlock = some g → b9 < g) 4 hd hA (by decide) ⟨0, .slice none 0 0, [], HE9.out, by omega, by simp, by simp, HP0.out.congr (all4 ⟨rfl, rfl, rfl, rfl⟩), Own.nil _, fun g hg => by cases hg⟩ ?_
        clear hd hA B HP0 HE9 yn; intro j vs B w' hd hA _ ⟨k, u, bs, hE, hk, hes, hvs, hBk, hown, hfr⟩; subst hvs
        have HP := Lib.hid hBk
        have Ho := Lib.hid hown
        have Hf := Lib.hid hfr
        obtain ⟨A5, m5, c5, rfl⟩ := own_slice hown
        obtain rfl : m5 = bs.length := by have := Rd.length (hown.rd (enc := ics) (k := 1) (fun _ => rfl)); omega
        clear hBk hown hfr
        obtain ⟨y9, rfl⟩ := hE.get
        clear hE
        have HES := Lib.hid hes
        clear hes
        have f0 := HP.out.cell (k := 0) (by simp)
        have f1 := HP.out.cell (k := 1) (by simp)
        have f2 := HP.out.cell (k := 2) (by simp)
        have f3 := HP.out.cell (k := 3) (by simp)
        simp at f0 f1 f2 f3
        have hpl := HP.out.lt
        simp only [List.zip_cons_cons, List.zip_nil_right, List.zip_nil_left]
        by_cases hk4 : k < 4
        · have hki : (k : Int) < 4 := by omega
          by_cases z3 : bits BinOp.and IntKind.u8 (q.d / 2 ^ (k + 2)) 1 = 0
          · have z3b : (bits BinOp.and IntKind.u8 (q.d / 2 ^ (k + 2)) 1 != 0) = false := by simp [z3]
            by_cases z2 : (k : Int) = L
            · have z2b : ((k : Int) == L) = true := by simp [z2]
              clear z2
              repeat' (first | refine X_gt ?_ | refine X_q ?_ | refine X_nil ?_ | refine W_seqk (fun K hK => ?_) | refine W_seqr ?_ | refine W_skip ?_ | refine W_block ?_ | (refine X_s (fun x K hK => ?_); go_simp; refine hK _ _ (Ext.alloc _ _) ?_; clear hK K; refine X_al x ?_; generalize (World.later _ x).heap.size = bn; intro yn hn1 hn2 hn3 hn4 hn5; clear x) | refine W_tt ?_ | go_step)
              have hbl : bs.length ≤ 4 := by have := HES.out; omega
              refine X_append (xs := bs) elemInt (Ho.out.later yn.ext) (Rd.one (x := (k : Int)) hn2 hn3 rfl) (by simp; omega) (by unfold maxLen; simp; omega) (fun v' W4 hM4 hO4 hF4 hN4 => ?_)
              have hpl2 := ((HP.out.later yn.ext)).lt
              have HE4 : Hid (Ext (w.later y) W4) := Lib.hid (Ext.fresh (by simp) hM4 (fun k hk => by have := Hf.out k hk; omega))
              have HP4 := Lib.hid ((HP.out.later yn.ext).mod hM4 (fun h => by have := Hf.out _ h; omega))
              have HF4 : Hid (∀ g, v'.ownBlock = some g → b9 < g) := Lib.hid (fun g hg => by
                rcases hF4 with h | ⟨g', h, hg'⟩
                · exact Hf.out g (h ▸ hg)
                · rw [h] at hg; cases hg; omega)
              have HO4 := Lib.hid hO4
              obtain ⟨A6, m6, c6, rfl⟩ := own_slice hO4
              clear hM4 hO4 hF4 hN4 hn1 hn2 hn3 hn4 hn5 f0 f1 f2 f3 hpl hpl2
              have h9l2 := HP4.out.lt
              repeat' (first | refine X_q ?_ | fail)
              refine X_store (off := 3) HP4.out (fun W5 hM5 hB5 => ?_)
              have HE5 := Lib.hid (Ext.fresh HE4.out hM5 (fun k hk => by subst hk; exact h9w))
              have HB5 := Lib.hid hB5
              have HO5 := Lib.hid (HO4.out.mod hM5 (fun g hg he => by subst he; have := HF4.out _ hg; omega))
              clear hM5 hB5
              repeat' (first | refine X_q ?_ | refine X_nil ?_ | refine W_seqr ?_ | go_step)
              exact ⟨_, _, rfl, hd, hA, j - 1, by omega, k + 1, _, bs ++ [(k : Int)], HE5.out, by omega, by have := HES.out; simp; omega, by simp, HB5.out.congr (all4 ⟨rfl, rfl, rfl, rfl⟩), HO5.out, HF4.out⟩
            · have z2b : ((k : Int) == L) = false := by simp [z2]
              clear z2
              repeat' (first | refine X_gt ?_ | refine X_q ?_ | refine X_nil ?_ | refine W_seqk (fun K hK => ?_) | refine W_seqr ?_ | refine W_skip ?_ | refine W_block ?_ | refine W_tt ?_ | refine W_ff ?_ | go_step)
              exact ⟨_, _, rfl, hd, hA, j - 1, by omega, k + 1, _, bs, y9.ext, by omega, by have := HES.out; omega, by simp, HP.out, Ho.out, Hf.out⟩
          · have z3b : (bits BinOp.and IntKind.u8 (q.d / 2 ^ (k + 2)) 1 != 0) = true := by simp [z3]
            repeat' (first | refine X_q ?_ | refine X_g ?_ | refine X_gf ?_ | refine X_nil ?_ | refine W_seqk (fun K hK => ?_) | refine W_seqr ?_ | refine W_skip ?_ | refine W_block ?_ | (refine X_s (fun x K hK => ?_); go_simp; refine hK _ _ (Ext.alloc _ _) ?_; clear hK K; refine X_al x ?_; generalize (World.later _ x).heap.size = bn; intro yn hn1 hn2 hn3 hn4 hn5; clear x) | refine W_tt ?_ | go_step)
            have hbl : bs.length ≤ 4 := by have := HES.out; omega
            refine X_append (xs := bs) elemInt (Ho.out.later yn.ext) (Rd.one (x := (k : Int)) hn2 hn3 rfl) (by simp; omega) (by unfold maxLen; simp; omega) (fun v' W4 hM4 hO4 hF4 hN4 => ?_)
            have hpl2 := ((HP.out.later yn.ext)).lt
            have HE4 : Hid (Ext (w.later y) W4) := Lib.hid (Ext.fresh (by simp) hM4 (fun k hk => by have := Hf.out k hk; omega))
            have HP4 := Lib.hid ((HP.out.later yn.ext).mod hM4 (fun h => by have := Hf.out _ h; omega))
            have HF4 : Hid (∀ g, v'.ownBlock = some g → b9 < g) := Lib.hid (fun g hg => by
              rcases hF4 with h | ⟨g', h, hg'⟩
              · exact Hf.out g (h ▸ hg)
              · rw [h] at hg; cases hg; omega)
            have HO4 := Lib.hid hO4
            obtain ⟨A6, m6, c6, rfl⟩ := own_slice hO4
            clear hM4 hO4 hF4 hN4 hn1 hn2 hn3 hn4 hn5 f0 f1 f2 f3 hpl hpl2
            have h9l2 := HP4.out.lt
            repeat' (first | refine X_q ?_ | fail)
            refine X_store (off := 3) HP4.out (fun W5 hM5 hB5 => ?_)
            have HE5 := Lib.hid (Ext.fresh HE4.out hM5 (fun k hk => by subst hk; exact h9w))
            have HB5 := Lib.hid hB5
            have HO5 := Lib.hid (HO4.out.mod hM5 (fun g hg he => by subst he; have := HF4.out _ hg; omega))
            clear hM5 hB5
            repeat' (first | refine X_q ?_ | refine X_nil ?_ | refine W_seqr ?_ | go_step)
            exact ⟨_, _, rfl, hd, hA, j - 1, by omega, k + 1, _, bs ++ [(k : Int)], HE5.out, by omega, by have := HES.out; simp; omega, by simp, HB5.out.congr (all4 ⟨rfl, rfl, rfl, rfl⟩), HO5.out, HF4.out⟩
        · have hki : ¬ (k : Int) < 4 := by omega
          have HX9 := Lib.hid (HX.out.later y9.ext)
          have HU9 : Hid (∀ W, Ext ((w.later y).later y9) W → RdIN (fun k => (Value.slice A1 m1 c1).ownBlock = some k) W (.slice A5 bs.length c5) bs) := Lib.hid (fun W hE => ⟨(Ho.out.rd (enc := ics) (k := 1) (fun _ => rfl)).later hE, fun k hk hk2 => by have := Hf.out k hk; have := H1L.out k hk2; omega⟩)
          repeat' (first | refine X_q ?_ | refine X_nil ?_ | refine W_seqk (fun K hK => ?_) | refine W_seqr ?_ | refine W_exit ?_ | (refine X_s (fun x K hK => ?_); go_simp; refine hK _ _ (Ext.alloc _ _) ?_; clear hK K; refine X_al x ?_; generalize (World.later _ x).heap.size = bn; intro yn hn1 hn2 hn3 hn4 hn5; clear x) | refine W_ff ?_ | go_step)
          refine X_acts (w0 := w) (by simp) elemAct (HX9.out.later yn.ext) (Rd.built (xs := [⟨{ ActD.zero with kind := 1, view := ⟨L, E, V, bs⟩ }, ⟨A5, bs.length, c5⟩, Sl.nil, Sl.nil⟩, ⟨{ ActD.zero with kind := 2, ent := ⟨0, -1, 0, 0, 1, 0⟩ }, Sl.nil, Sl.nil, Sl.nil⟩, ⟨{ ActD.zero with kind := 3 }, Sl.nil, Sl.nil, Sl.nil⟩]) hn2 hn3 rfl (by simp [maxLen])) (fun a ha => by
            simp only [List.mem_cons, List.not_mem_nil, or_false] at ha
            rcases ha with rfl | rfl | rfl
            · exact ⟨⟨HU9.out _ yn.ext, RdN.nil _, RdN.nil _⟩, by simp⟩
            · exact ActW.fit_plain _ _ rfl rfl rfl (by simp)
            · exact ActW.fit_plain _ _ rfl rfl rfl (by simp)) (by simp; omega) (by unfold maxLen; simp; omega) (fun y2 v' hO hM => ?_)
          have HO := Lib.hid hO
          clear hO hM
          repeat' (first | refine X_q ?_ | refine X_nil ?_ | refine W_seqr ?_ | go_step)
          exact ⟨_, _, rfl, hd, hA, n - 1, by omega, i + 1, _, _, ep2, ve2, y2.ext, by omega, by simp; omega, by simp, HO.out, hep', hve'⟩
    · have hii : ¬ (i : Int) < l.length := by omega
      have hml : l'.length = m1 := Rd.length HX.out.rd
      obtain ⟨A7, c7, e7, hlc, -, -⟩ := HX.out.rd.actV
      cases e7
      rw [List.length_map] at *
      have HML := Lib.hid hml
      clear hml
      by_cases h40 : l'.length ≤ 40
      · have h40a : ¬ (40 : Int) < l'.length := by omega
        have h40b : ((l'.length : Int)) ≤ c1 := by omega
        have HPL := Lib.hid (HX.out.play self 1)
        clear HX HML
        repeat' (first | refine X_pure Tryz.func18 (HPL.out) ?_ | refine X_q ?_ | refine X_nil ?_ | refine W_seqk (fun K hK => ?_) | refine W_seqr ?_ | refine W_ret ?_ | refine W_exit ?_ | refine W_ff ?_ | go_step)
        exact Body_ret hd ⟨rfl, by simp⟩
      · have h40a : (40 : Int) < l'.length := by omega
        have h40b : (40 : Int) ≤ c1 := by omega
        have HPL : Hid (Pure Tryz.prog 18 #[.int .i64 self, .int .i64 1, .slice A1 40 c1] (w.later y) (.bool true)) := Lib.hid (play_acts self 1 (HX.out.rd.take 40 (by omega)) (fun a ha => ⟨(HX.out.fit a (List.mem_of_mem_take ha)).1.wide (fun k hk => hk.elim), (HX.out.fit a (List.mem_of_mem_take ha)).2⟩))
        clear HX HML
        repeat' (first | refine X_pure Tryz.func18 (HPL.out) ?_ | refine X_q ?_ | refine X_nil ?_ | refine W_seqk (fun K hK => ?_) | refine W_seqr ?_ | refine W_ret ?_ | refine W_exit ?_ | refine W_ff ?_ | go_step)
        exact Body_ret hd ⟨rfl, by simp⟩
  · have h30i : (30 : Int) < l.length := by omega
    clear HRD
    refine Fn_of Tryz.func4 rfl (Nat.le_of_ble_eq_true rfl) ?_; intro A hd hA; simp only [ix, Nat.reduceAdd]; replace hA : A.tmps.size = 131 := hA
    repeat' (first | refine X_pure Tryz.func12 (known11_calls) ?_ | refine X_q ?_ | refine X_nil ?_ | refine W_seqk (fun K hK => ?_) | refine W_seqr ?_ | refine W_ret ?_ | refine W_tt ?_ | go_step)
    exact Body_ret hd ⟨rfl, by simp⟩
end Go.Ws
