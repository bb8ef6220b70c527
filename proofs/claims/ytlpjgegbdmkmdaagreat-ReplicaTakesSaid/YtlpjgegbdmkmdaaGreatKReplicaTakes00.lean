/- Lemmas for the statements of this layer (joined texts); no condition. -/
import Derived.Test.YtlpjgegbdmkmdaaGreatBa27
namespace Go.Ws
open Go Go.RowKit Go.Proofs
set_option maxHeartbeats 4000000
set_option maxRecDepth 100000
set_option linter.unusedVariables false
set_option linter.unusedSimpArgs false

theorem takes_calls (l : List Quad) (v : Value) (w : World) (hl : RdQ w v l) (hq : ∀ q ∈ l, q.in) : Pure Tryz.prog 8 #[v] w (.bool true) := by
  have HL := Lib.hid hl
  have HQI := Lib.hid hq
  obtain ⟨A0, c0, rfl, hc0, hcm0, HRD⟩ := hl.quad
  clear hl hq
  by_cases h20 : l.length ≤ 20
  · have h20i : ¬ (20 : Int) < l.length := by omega
    refine Fn_of Tryz.func8 rfl (Nat.le_of_ble_eq_true rfl) ?_; intro A hd hA; simp only [ix, Nat.reduceAdd]; replace hA : A.tmps.size = 120 := hA
    repeat' (first | refine X_q ?_ | refine X_nil ?_ | refine W_seqk (fun K hK => ?_) | refine W_seqr ?_ | refine W_skip ?_ | refine W_block ?_ | (refine X_s (fun x K hK => ?_); go_simp; refine hK _ _ (Ext.alloc _ _) ?_; clear hK K; refine X_al x ?_; generalize (World.later _ x).heap.size = bn; intro yn hn1 hn2 hn3 hn4 hn5; clear x) | refine W_ff ?_ | go_step)
    rename_i b1 y1 p1 p2 p3 p4 p5
    have hx0 : ActsAt w ((w.later y1).later yn) (.slice (some ⟨bn, 0, none⟩) 1 1) [⟨{ ActD.zero with kind := 1, view := ⟨1, 3, 0, [0, 1]⟩ }, ⟨some ⟨b1, 0, none⟩, 2, 2⟩, Sl.nil, Sl.nil⟩] :=
      ActsAt.made (xs := [⟨{ ActD.zero with kind := 1, view := ⟨1, 3, 0, [0, 1]⟩ }, ⟨some ⟨b1, 0, none⟩, 2, 2⟩, Sl.nil, Sl.nil⟩]) rfl hn5.out (by simp [maxLen]) (by have := y1.ext.size; omega) (fun a ha => by
        obtain rfl : a = _ := by simpa using ha
        exact ⟨⟨(RdI.built (xs := [0, 1]) rfl p5.out (by simp [maxLen]) (by omega)).later yn.ext, RdN.nil _, RdN.nil _⟩, by simp⟩)
    have hE0 : Ext w ((w.later y1).later yn) := by simp
    have HX := Lib.hid hx0
    have HE := Lib.hid hE0
    generalize World.later _ yn = W0 at *
    clear hx0 hE0 p1 p2 p3 p4 p5 hn1 hn2 hn3 hn4 hn5 yn y1
    refine W_loops [0, 2, 3, 4] (fun n vs w' => ∃ (i : Nat) (u : Value) (l' : List ActW), Ext w w' ∧ i + n = l.length ∧ l'.length ≤ 2 * i + 1 ∧ vs = [.slice A0 l.length c0, .bool false, u, .int .i64 i] ∧ ActsAt w w' u l') l.length hd hA (by decide) ⟨0, _, _, HE.out, by omega, by simp, by simp, HX.out⟩ ?_
    clear hd hA A; intro n vs B w' hd hA _ ⟨i, u, l', hE, hi, hl', hvs, hX⟩; subst hvs
    replace HX := Lib.hid hX
    obtain ⟨y, rfl⟩ := hE.get
    clear hX hE HE
    obtain ⟨A1, m1, c1, rfl⟩ := own_slice HX.out.own
    simp only [List.zip_cons_cons, List.zip_nil_right, List.zip_nil_left]
    by_cases hlt : i < l.length
    · obtain ⟨q, b, o, HQ, rfl, hb, q0, q1, q2, q3⟩ := HRD.out i hlt
      have hii : (i : Int) < l.length := by omega
      obtain ⟨⟨qa1, qa2⟩, ⟨qb1, qb2⟩, ⟨qc1, qc2⟩, ⟨qd1, qd2⟩⟩ := HQI.out q (mem_of_get HQ.out)
      by_cases z1 : q.d % 5 = 0
      · have z1b : (q.d % 5 == 0) = true := by simp [z1]
        clear z1
        repeat' (first | refine X_q ?_ | refine X_nil ?_ | refine W_seqk (fun K hK => ?_) | refine W_seqr ?_ | refine W_skip ?_ | refine W_block ?_ | refine W_tt ?_ | go_step)
        refine W_drawσ [(0, 0), (1, 0), (2, 0), (3, 0), (4, 0), (5, 0), (6, 0), (7, 0), (8, 0), (9, 0), (10, 0), (11, 0), (12, 0), (13, 0), (14, 0), (15, 0), (16, 0), (17, 0), (18, 0), (19, 0), (20, 0), (21, 0), (22, 0), (23, 0), (24, 0), (25, 0), (26, 0), (27, 0), (28, 0), (29, 0), (30, 0), (31, 0), (32, 0), (33, 0), (34, 0), (35, 0), (36, 1), (37, 2)] (by kernel_rfl) (by kernel_rfl) ?_
        repeat' (first | refine X_q ?_ | refine X_niln ?_ | refine X_nil ?_ | (refine X_var (fun yn bn hn1 hn2 hn3 hn4 hn5 => ?_)) | refine W_seqk (fun K hK => ?_) | refine W_seqr ?_ | refine W_tt ?_ | go_step)
        obtain ⟨b8, hb8⟩ : ∃ b8 : Nat, b8 = bn := ⟨_, rfl⟩
        subst hb8
        have HP := Lib.hid (Blk.new hn5.out)
        have h8l := HP.out.lt
        have h8w : (w.later y).heap.size ≤ b8 := hn1
        have HE : Hid (Ext (w.later y) ((w.later y).later yn)) := Lib.hid yn.ext
        have hsy := y.ext.size
        obtain ⟨G, hG⟩ : ∃ G : Nat → Prop, G = (fun k => k = b8) := ⟨_, rfl⟩; have HGo : Hid (G b8) := Lib.hid (by subst hG; rfl); have hGb : ¬ G b := (by subst hG; show ¬ b = b8; omega); clear hG
        refine W_drawG G [(0, 0), (1, 0), (2, 0), (3, 0), (4, 0), (5, 0), (6, 0), (7, 0), (8, 0), (9, 0), (10, 0), (11, 0), (12, 0), (13, 0), (14, 0), (15, 2), (16, 0), (17, 2), (18, 0), (19, 2)] (by kernel_rfl) (by kernel_rfl) ?_
        repeat' (first | refine Y_q ?_ | fail)
        refine Y_store (off := 3) HP.out HGo.out (fun W1 hM1 hG1 hB1 => ?_); replace HE := Lib.hid (Ext.fresh HE.out hM1 (fun k hk => by subst hk; omega)); replace HP := Lib.hid hB1; clear hM1 hB1 hG1
        have h8l := HP.out.lt
        repeat' (first | refine Y_q ?_ | fail)
        refine Y_store (off := 4) HP.out HGo.out (fun W1 hM1 hG1 hB1 => ?_); replace HE := Lib.hid (Ext.fresh HE.out hM1 (fun k hk => by subst hk; omega)); replace HP := Lib.hid hB1; clear hM1 hB1 hG1
        have h8l := HP.out.lt
        repeat' (first | refine Y_q ?_ | fail)
        refine Y_store (off := 5) HP.out HGo.out (fun W1 hM1 hG1 hB1 => ?_); replace HE := Lib.hid (Ext.fresh HE.out hM1 (fun k hk => by subst hk; omega)); replace HP := Lib.hid hB1; clear hM1 hB1 hG1
        replace HP := Lib.hid (HP.out.congr (g' := fun k => (Reply.cs ⟨-(q.a % 5 / 4), -(q.b % 8 / 7), -(q.c % 8 / 7), true, q.c % 4, q.b % 9, [], q.d % 3 - 1⟩ (.slice none 0 0)).getD k undef) (alln8 ⟨rfl, rfl, rfl, rfl, rfl, rfl, rfl, rfl⟩))
        repeat' (first | refine Y_nil ?_)
        have HX9 := Lib.hid (HX.out.later HE.out)
        have hE9 := Ext.trans y.ext HE.out
        obtain ⟨y9, rfl⟩ := hE9.get
        clear hE9
        have f0 := HP.out.cell (k := 0) (by simp)
        have f1 := HP.out.cell (k := 1) (by simp)
        have f2 := HP.out.cell (k := 2) (by simp)
        have f3 := HP.out.cell (k := 3) (by simp)
        have f4 := HP.out.cell (k := 4) (by simp)
        have f5 := HP.out.cell (k := 5) (by simp)
        have f6 := HP.out.cell (k := 6) (by simp)
        have f7 := HP.out.cell (k := 7) (by simp)
        simp at f0 f1 f2 f3 f4 f5 f6 f7
        have hpl := HP.out.lt
        repeat' (first | refine X_q ?_ | refine W_seqk (fun K hK => ?_) | refine W_seqr ?_ | (refine X_s (fun x K hK => ?_); go_simp; refine hK _ _ (Ext.alloc _ _) ?_; clear hK K; refine X_al x ?_; generalize (World.later _ x).heap.size = bn; intro yn hn1 hn2 hn3 hn4 hn5; clear x) | go_step)
        refine X_acts (w0 := w) (by simp) elemAct (HX9.out.later yn.ext) (Rd.built (xs := [⟨{ ActD.zero with kind := 6, near := true, reply := ⟨-(q.a % 5 / 4), -(q.b % 8 / 7), -(q.c % 8 / 7), true, q.c % 4, q.b % 9, [], q.d % 3 - 1⟩ }, Sl.nil, Sl.nil, Sl.nil⟩]) hn2 hn3 rfl (by simp [maxLen])) (fun a ha => by
          obtain rfl : a = _ := by simpa using ha
          exact ⟨⟨RdN.nil _, RdN.nil _, RdN.nil _⟩, by simp⟩) (by simp; omega) (by unfold maxLen; simp; omega) (fun y2 v' hO hM => ?_)
        have HO := Lib.hid hO
        clear hO hM hn1 hn2 hn3 hn4 hn5 yn
        obtain ⟨A3, m3, c3, rfl⟩ := own_slice HO.out.own
        by_cases z3 : q.a % 3 = 0
        · have z3b : (q.a % 3 == 0) = true := by simp [z3]
          clear z3
          repeat' (first | refine X_q ?_ | refine X_nil ?_ | refine W_seqk (fun K hK => ?_) | refine W_seqr ?_ | (refine X_s (fun x K hK => ?_); go_simp; refine hK _ _ (Ext.alloc _ _) ?_; clear hK K; refine X_al x ?_; generalize (World.later _ x).heap.size = bn; intro yn hn1 hn2 hn3 hn4 hn5; clear x) | refine W_tt ?_ | go_step)
          refine X_acts (w0 := w) (by simp) elemAct (HO.out.later yn.ext) (Rd.built (xs := [⟨{ ActD.zero with kind := 3 }, Sl.nil, Sl.nil, Sl.nil⟩]) hn2 hn3 rfl (by simp [maxLen])) (fun a ha => by
            obtain rfl : a = _ := by simpa using ha
            exact ActW.fit_plain _ _ rfl rfl rfl (by simp)) (by simp; omega) (by unfold maxLen; simp; omega) (fun y2 v' hO hM => ?_)
          have HO2 := Lib.hid hO
          clear hO hM
          repeat' (first | refine X_q ?_ | refine X_nil ?_ | refine W_seqr ?_ | go_step)
          exact ⟨_, _, rfl, hd, hA, n - 1, by omega, i + 1, _, _, y2.ext, by omega, by simp; omega, by simp, HO2.out⟩
        · have z3b : (q.a % 3 == 0) = false := by simp [z3]
          clear z3
          repeat' (first | refine X_q ?_ | refine X_nil ?_ | refine W_seqk (fun K hK => ?_) | refine W_seqr ?_ | refine W_skip ?_ | refine W_ff ?_ | go_step)
          exact ⟨_, _, rfl, hd, hA, n - 1, by omega, i + 1, _, _, y2.ext, by omega, by simp; omega, by simp, HO.out⟩
      · have z1b : (q.d % 5 == 0) = false := by simp [z1]
        clear z1
        repeat' (first | refine X_q ?_ | refine X_nil ?_ | refine W_seqk (fun K hK => ?_) | refine W_seqr ?_ | refine W_skip ?_ | refine W_block ?_ | refine W_tt ?_ | go_step)
        refine W_drawσ [(0, 0), (1, 0), (2, 0), (3, 0), (4, 0), (5, 0), (6, 0), (7, 0), (8, 0), (9, 0), (10, 0), (11, 0), (12, 0), (13, 0), (14, 0), (15, 0), (16, 0), (17, 0), (18, 0), (19, 0), (20, 0), (21, 0), (22, 0), (23, 0), (24, 0), (25, 0), (26, 0), (27, 0), (28, 0), (29, 0), (30, 0), (31, 0), (32, 0), (33, 0), (34, 0), (35, 0), (36, 1), (37, 2)] (by kernel_rfl) (by kernel_rfl) ?_
        repeat' (first | refine X_q ?_ | refine X_niln ?_ | refine X_nil ?_ | (refine X_var (fun yn bn hn1 hn2 hn3 hn4 hn5 => ?_)) | refine W_seqk (fun K hK => ?_) | refine W_seqr ?_ | refine W_block ?_ | refine W_ff ?_ | go_step)
        obtain ⟨b8, hb8⟩ : ∃ b8 : Nat, b8 = bn := ⟨_, rfl⟩
        subst hb8
        have HP0 := Lib.hid (Blk.new hn5.out)
        have h8w : (w.later y).heap.size ≤ b8 := hn1
        have h1l : ∀ k, (Value.slice A1 m1 c1).ownBlock = some k → k < (w.later y).heap.size := HX.out.own.lt
        have H1L := Lib.hid h1l
        have HE8 : Hid (Ext (w.later y) ((w.later y).later yn)) := Lib.hid yn.ext
        clear hn1 hn2 hn3 hn4 hn5 h1l
        refine W_loops [0, 2, 3, 4, 5, 6] (fun j vs w' => ∃ (k : Nat) (u : Value) (es : List Ent), Ext (w.later y) w' ∧ k + j = 3 ∧ es.length = k ∧ vs = [.slice (some ⟨b, o, none⟩) l.length c0, .bool false, .slice A1 m1 c1, .int .i64 i, .pointer (some ⟨b8, 0, none⟩), .int .u8 k] ∧ Blk w' b8 49 8 (fun k => (Reply.cs ⟨-(q.a % 5 / 4), -(q.b % 8 / 7), -(q.c % 8 / 7), false, 0, 0, es, q.d % 3 - 1⟩ u).getD k undef) ∧ OwnE w' u es ∧ ∀ g, u.ownBlock = some g → b8 < g) 3 hd hA (by decide) ⟨0, .slice none 0 0, [], HE8.out, by omega, rfl, by simp, HP0.out.congr (alln8 ⟨rfl, rfl, rfl, rfl, rfl, rfl, rfl, rfl⟩), Own.nil _, fun g hg => by cases hg⟩ ?_
        clear hd hA B HP0 HE8 yn; intro j vs B w' hd hA _ ⟨k, u, es, hE, hk, hes, hvs, hBk, hown, hfr⟩; subst hvs
        have HP := Lib.hid hBk
        have Ho := Lib.hid hown
        have Hf := Lib.hid hfr
        obtain ⟨A5, m5, c5, rfl⟩ := own_slice hown
        obtain rfl : m5 = es.length := by have := Rd.length (hown.rd Ent.len); omega
        clear hBk hown hfr
        have HES := Lib.hid hes
        have hel : es.length ≤ 3 := by omega
        clear hes
        obtain ⟨y9, rfl⟩ := hE.get
        clear hE
        simp only [List.zip_cons_cons, List.zip_nil_right, List.zip_nil_left]
        have f0 := HP.out.cell (k := 0) (by simp)
        have f1 := HP.out.cell (k := 1) (by simp)
        have f2 := HP.out.cell (k := 2) (by simp)
        have f3 := HP.out.cell (k := 3) (by simp)
        have f4 := HP.out.cell (k := 4) (by simp)
        have f5 := HP.out.cell (k := 5) (by simp)
        have f6 := HP.out.cell (k := 6) (by simp)
        have f7 := HP.out.cell (k := 7) (by simp)
        simp at f0 f1 f2 f3 f4 f5 f6 f7
        have hpl := HP.out.lt
        repeat' (first | refine X_q ?_ | refine X_nil ?_ | refine W_seqk (fun K hK => ?_) | refine W_seqr ?_ | refine W_skip ?_ | refine W_block ?_ | refine W_exit ?_ | (refine X_s (fun x K hK => ?_); go_simp; refine hK _ _ (Ext.alloc _ _) ?_; clear hK K; refine X_al x ?_; generalize (World.later _ x).heap.size = bn; intro yn hn1 hn2 hn3 hn4 hn5; clear x) | refine W_test (fun hc => ?_) (fun hc => ?_) | go_step)
        · have hk4 : (k : Int) < q.d % 4 := of_decide_eq_true hc
          have hk3 : k < 3 := by omega
          clear hc
          refine X_append (xs := es) elemEnt (Ho.out.later yn.ext) (Rd.one (x := (⟨3, -1, 0, 0, 1, i⟩ : Ent)) hn2 hn3 rfl) (by simp; omega) (by unfold maxLen; simp; omega) (fun v' W4 hM4 hO4 hF4 hN4 => ?_)
          have hpl2 := ((HP.out.later yn.ext)).lt
          have HE4 : Hid (Ext (w.later y) W4) := Lib.hid (Ext.fresh (by simp) hM4 (fun k hk => by have := Hf.out k hk; omega))
          have HP4 := Lib.hid ((HP.out.later yn.ext).mod hM4 (fun h => by have := Hf.out _ h; omega))
          have HF4 : Hid (∀ g, v'.ownBlock = some g → b8 < g) := Lib.hid (fun g hg => by
            rcases hF4 with h | ⟨g', h, hg'⟩
            · exact Hf.out g (h ▸ hg)
            · rw [h] at hg; cases hg; omega)
          have HO4 := Lib.hid hO4
          obtain ⟨A6, m6, c6, rfl⟩ := own_slice hO4
          clear hM4 hO4 hF4 hN4 hn1 hn2 hn3 hn4 hn5 f0 f1 f2 f3 f4 f5 f6 f7 hpl hpl2
          have h8l2 := HP4.out.lt
          repeat' (first | refine X_q ?_ | fail)
          refine X_store (off := 6) HP4.out (fun W5 hM5 hB5 => ?_)
          have HE5 := Lib.hid (Ext.fresh HE4.out hM5 (fun k hk => by subst hk; exact h8w))
          have HB5 := Lib.hid hB5
          have HO5 := Lib.hid (HO4.out.mod hM5 (fun g hg he => by subst he; have := HF4.out _ hg; omega))
          clear hM5 hB5
          repeat' (first | refine X_q ?_ | refine X_nil ?_ | refine W_seqr ?_ | go_step)
          exact ⟨_, _, rfl, hd, hA, j - 1, by omega, k + 1, _, es ++ [(⟨3, -1, 0, 0, 1, i⟩ : Ent)], HE5.out, by omega, by have := HES.out; simp; omega, by simp, HB5.out.congr (alln8 ⟨rfl, rfl, rfl, rfl, rfl, rfl, rfl, rfl⟩), HO5.out, HF4.out⟩
        · clear hc
          have HX9 := Lib.hid (HX.out.later y9.ext)
          have HU9 : Hid (∀ W, Ext ((w.later y).later y9) W → RdEN (fun k => (Value.slice A1 m1 c1).ownBlock = some k) W (.slice A5 es.length c5) es) := Lib.hid (fun W hE => ⟨(Ho.out.rd Ent.len).later hE, fun k hk hk2 => by have := Hf.out k hk; have := H1L.out k hk2; omega⟩)
          have f0 := HP.out.cell (k := 0) (by simp)
          have f1 := HP.out.cell (k := 1) (by simp)
          have f2 := HP.out.cell (k := 2) (by simp)
          have f3 := HP.out.cell (k := 3) (by simp)
          have f4 := HP.out.cell (k := 4) (by simp)
          have f5 := HP.out.cell (k := 5) (by simp)
          have f6 := HP.out.cell (k := 6) (by simp)
          have f7 := HP.out.cell (k := 7) (by simp)
          simp at f0 f1 f2 f3 f4 f5 f6 f7
          have hpl := HP.out.lt
          skip
          refine X_acts (w0 := w) (by simp) elemAct (HX9.out.later yn.ext) (Rd.built (xs := [⟨{ ActD.zero with kind := 6, near := true, reply := ⟨-(q.a % 5 / 4), -(q.b % 8 / 7), -(q.c % 8 / 7), false, 0, 0, es, q.d % 3 - 1⟩ }, Sl.nil, ⟨A5, es.length, c5⟩, Sl.nil⟩]) hn2 hn3 rfl (by simp [maxLen])) (fun a ha => by
            obtain rfl : a = _ := by simpa using ha
            exact ⟨⟨RdN.nil _, HU9.out _ yn.ext, RdN.nil _⟩, by simp⟩) (by simp; omega) (by unfold maxLen; simp; omega) (fun y2 v' hO hM => ?_)
          have HO := Lib.hid hO
          clear hO hM hn1 hn2 hn3 hn4 hn5 yn
          obtain ⟨A3, m3, c3, rfl⟩ := own_slice HO.out.own
          by_cases z3 : q.a % 3 = 0
          · have z3b : (q.a % 3 == 0) = true := by simp [z3]
            clear z3
            repeat' (first | refine X_q ?_ | refine X_nil ?_ | refine W_seqk (fun K hK => ?_) | refine W_seqr ?_ | (refine X_s (fun x K hK => ?_); go_simp; refine hK _ _ (Ext.alloc _ _) ?_; clear hK K; refine X_al x ?_; generalize (World.later _ x).heap.size = bn; intro yn hn1 hn2 hn3 hn4 hn5; clear x) | refine W_tt ?_ | go_step)
            refine X_acts (w0 := w) (by simp) elemAct (HO.out.later yn.ext) (Rd.built (xs := [⟨{ ActD.zero with kind := 3 }, Sl.nil, Sl.nil, Sl.nil⟩]) hn2 hn3 rfl (by simp [maxLen])) (fun a ha => by
              obtain rfl : a = _ := by simpa using ha
              exact ActW.fit_plain _ _ rfl rfl rfl (by simp)) (by simp; omega) (by unfold maxLen; simp; omega) (fun y2 v' hO hM => ?_)
            have HO2 := Lib.hid hO
            clear hO hM
            repeat' (first | refine X_q ?_ | refine X_nil ?_ | refine W_seqr ?_ | go_step)
            exact ⟨_, _, rfl, hd, hA, n - 1, by omega, i + 1, _, _, y2.ext, by omega, by simp; omega, by simp, HO2.out⟩
          · have z3b : (q.a % 3 == 0) = false := by simp [z3]
            clear z3
            repeat' (first | refine X_q ?_ | refine X_nil ?_ | refine W_seqk (fun K hK => ?_) | refine W_seqr ?_ | refine W_skip ?_ | refine W_ff ?_ | go_step)
            exact ⟨_, _, rfl, hd, hA, n - 1, by omega, i + 1, _, _, y2.ext, by omega, by simp; omega, by simp, HO.out⟩
    · have hii : ¬ (i : Int) < l.length := by omega
      have hml : l'.length = m1 := Rd.length HX.out.rd
      obtain ⟨A7, c7, e7, hlc, -, -⟩ := HX.out.rd.actV
      cases e7
      rw [List.length_map] at *
      have HML := Lib.hid hml
      clear hml
      have hlc1 : l'.length ≤ c1 := hlc
      have hcl := hlc
      by_cases h40 : l'.length ≤ 40
      · have h40a : ¬ (40 : Int) < l'.length := by omega
        have h40b : ((l'.length : Int)) ≤ c1 := by omega
        have HPL := Lib.hid (HX.out.play 0 1)
        clear HX HML
        repeat' (first | refine X_pure Tryz.func18 (HPL.out) ?_ | refine X_q ?_ | refine X_nil ?_ | refine W_seqk (fun K hK => ?_) | refine W_seqr ?_ | refine W_ret ?_ | refine W_exit ?_ | refine W_ff ?_ | go_step)
        exact Body_ret hd ⟨rfl, by simp⟩
      · have h40a : (40 : Int) < l'.length := by omega
        have h40b : (40 : Int) ≤ c1 := by omega
        have HPL : Hid (Pure Tryz.prog 18 #[.int .i64 0, .int .i64 1, .slice A1 40 c1] (w.later y) (.bool true)) := Lib.hid (play_acts 0 1 (HX.out.rd.take 40 (by omega)) (fun a ha => ⟨(HX.out.fit a (List.mem_of_mem_take ha)).1.wide (fun k hk => hk.elim), (HX.out.fit a (List.mem_of_mem_take ha)).2⟩))
        clear HX HML
        repeat' (first | refine X_pure Tryz.func18 (HPL.out) ?_ | refine X_q ?_ | refine X_nil ?_ | refine W_seqk (fun K hK => ?_) | refine W_seqr ?_ | refine W_ret ?_ | refine W_exit ?_ | refine W_ff ?_ | go_step)
        exact Body_ret hd ⟨rfl, by simp⟩
  · have h20i : (20 : Int) < l.length := by omega
    clear HRD
    refine Fn_of Tryz.func8 rfl (Nat.le_of_ble_eq_true rfl) ?_; intro A hd hA; simp only [ix, Nat.reduceAdd]; replace hA : A.tmps.size = 120 := hA
    repeat' (first | refine X_pure Tryz.func12 (known11_calls) ?_ | refine X_q ?_ | refine X_nil ?_ | refine W_seqk (fun K hK => ?_) | refine W_seqr ?_ | refine W_ret ?_ | refine W_tt ?_ | go_step)
    exact Body_ret hd ⟨rfl, by simp⟩
end Go.Ws
