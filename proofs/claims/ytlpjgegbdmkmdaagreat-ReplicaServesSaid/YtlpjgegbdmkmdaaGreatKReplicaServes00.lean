/- Lemmas for the statements of this layer (joined texts); no condition. -/
import Derived.Test.YtlpjgegbdmkmdaaGreatBa27
namespace Go.Ws
open Go Go.RowKit Go.Proofs
set_option maxHeartbeats 4000000
set_option maxRecDepth 100000
set_option linter.unusedVariables false
set_option linter.unusedSimpArgs false

theorem serves_calls (n : Int) (l : List Quad) (v : Value) (w : World) (hn : 0 ≤ n ∧ n ≤ 255) (hl : RdQ w v l) (hq : ∀ q ∈ l, q.in) : Pure Tryz.prog 6 #[.int .u8 n, v] w (.bool true) := by
  have HL := Lib.hid hl
  have HQI := Lib.hid hq
  obtain ⟨A0, c0, rfl, hc0, hcm0, HRD⟩ := hl.quad
  clear hl hq
  by_cases h12 : l.length ≤ 12
  · have h12i : ¬ (12 : Int) < l.length := by omega
    obtain ⟨hn1, hn2⟩ := hn
    refine Fn_of Tryz.func6 rfl (Nat.le_of_ble_eq_true rfl) ?_; intro A hd hA; simp only [ix, Nat.reduceAdd]; replace hA : A.tmps.size = 96 := hA
    repeat' (first | refine X_q ?_ | refine X_nil ?_ | refine W_seqk (fun K hK => ?_) | refine W_seqr ?_ | refine W_skip ?_ | refine W_block ?_ | (refine X_s (fun x K hK => ?_); go_simp; refine hK _ _ (Ext.alloc _ _) ?_; clear hK K; refine X_al x ?_; generalize (World.later _ x).heap.size = bn; intro yn hn1 hn2 hn3 hn4 hn5; clear x) | refine W_ff ?_ | go_step)
    rename_i b1 y1 p1 p2 p3 p4 p5
    have hx0 : ActsAt w ((w.later y1).later yn) (.slice (some ⟨bn, 0, none⟩) 1 1) [⟨{ ActD.zero with kind := 1, view := ⟨1, 1, 0, [0, 1, 2]⟩ }, ⟨some ⟨b1, 0, none⟩, 3, 3⟩, Sl.nil, Sl.nil⟩] :=
      ActsAt.made (xs := [⟨{ ActD.zero with kind := 1, view := ⟨1, 1, 0, [0, 1, 2]⟩ }, ⟨some ⟨b1, 0, none⟩, 3, 3⟩, Sl.nil, Sl.nil⟩]) rfl hn5.out (by simp [maxLen]) (by have := y1.ext.size; omega) (fun a ha => by
        obtain rfl : a = _ := by simpa using ha
        exact ⟨⟨(RdI.built (xs := [0, 1, 2]) rfl p5.out (by simp [maxLen]) (by omega)).later yn.ext, RdN.nil _, RdN.nil _⟩, by simp⟩)
    have hE0 : Ext w ((w.later y1).later yn) := by simp
    have HX := Lib.hid hx0
    have HE := Lib.hid hE0
    generalize World.later _ yn = W0 at *
    clear hx0 hE0 p1 p2 p3 p4 p5 hn1 hn2 hn3 hn4 hn5 yn y1
    refine W_loops [0, 1, 4, 5, 6] (fun j vs w' => ∃ (k : Nat) (u : Value) (l' : List ActW), Ext w w' ∧ k + j = 12 ∧ l'.length = k + 1 ∧ vs = [.int .u8 n, .slice A0 l.length c0, .bool false, u, .int .u8 k] ∧ ActsAt w w' u l') 12 hd hA (by decide) ⟨0, _, _, HE.out, by omega, rfl, by simp, HX.out⟩ ?_
    clear hd hA A; intro j vs B w' hd hA _ ⟨k, u, l', hE, hk, hl', hvs, hX⟩; subst hvs
    replace HX := Lib.hid hX
    obtain ⟨y, rfl⟩ := hE.get
    clear hX hE HE
    obtain ⟨A1, m1, c1, rfl⟩ := own_slice HX.out.own
    simp only [List.zip_cons_cons, List.zip_nil_right, List.zip_nil_left]
    repeat' (first | refine X_q ?_ | refine X_nil ?_ | refine W_seqk (fun K hK => ?_) | refine W_seqr ?_ | refine W_skip ?_ | refine W_block ?_ | refine W_exit ?_ | (refine X_s (fun x K hK => ?_); go_simp; refine hK _ _ (Ext.alloc _ _) ?_; clear hK K; refine X_al x ?_; generalize (World.later _ x).heap.size = bn; intro yn hn1 hn2 hn3 hn4 hn5; clear x) | refine W_test (fun hc => ?_) (fun hc => ?_) | go_step)
    · have hkn : (k : Int) < n % 13 := of_decide_eq_true hc
      have hk12 : k < 12 := by omega
      clear hc
      refine X_acts (w0 := w) (by simp) elemAct (HX.out.later yn.ext) (Rd.built (xs := [⟨{ ActD.zero with kind := 2, ent := ⟨0, -1, 0, 0, 1, k⟩ }, Sl.nil, Sl.nil, Sl.nil⟩]) hn2 hn3 rfl (by simp [maxLen])) (fun a ha => by
        obtain rfl : a = _ := by simpa using ha
        exact ActW.fit_plain _ _ rfl rfl rfl (by simp)) (by simp; omega) (by unfold maxLen; simp; omega) (fun y2 v' hO hM => ?_)
      have HO := Lib.hid hO
      clear hO hM
      repeat' (first | refine X_q ?_ | refine X_nil ?_ | refine W_seqr ?_ | go_step)
      exact ⟨_, _, rfl, hd, hA, j - 1, by omega, k + 1, _, _, y2.ext, by omega, by simp; omega, by simp, HO.out⟩
    · clear hc
      refine X_acts (w0 := w) (by simp) elemAct (HX.out.later yn.ext) (Rd.built (xs := [⟨{ ActD.zero with kind := 3 }, Sl.nil, Sl.nil, Sl.nil⟩]) hn2 hn3 rfl (by simp [maxLen])) (fun a ha => by
        obtain rfl : a = _ := by simpa using ha
        exact ActW.fit_plain _ _ rfl rfl rfl (by simp)) (by simp; omega) (by unfold maxLen; simp; omega) (fun y2 v' hO hM => ?_)
      have HO := Lib.hid hO
      clear hO hM
      repeat' (first | refine X_q ?_ | refine X_nil ?_ | refine W_seqk (fun K hK => ?_) | refine W_seqr ?_ | refine W_block ?_ | go_step)
      refine W_loops [0, 1, 4, 5, 7] (fun j vs w' => ∃ (k : Nat) (u : Value) (l' : List ActW), Ext w w' ∧ k + j = l.length ∧ l'.length ≤ k + 14 ∧ vs = [.int .u8 n, .slice A0 l.length c0, .bool false, u, .int .i64 k] ∧ ActsAt w w' u l') l.length hd hA (by decide) ⟨0, _, _, y2.ext, by omega, by simp; omega, by simp, HO.out⟩ ?_
      clear hd hA B HX HO y2 yn hn1 hn2 hn3 hn4 hn5 hl'; intro j2 vs B w' hd hA _ ⟨i, u, l2, hE, hi, hl2, hvs, hX⟩; subst hvs
      have HX := Lib.hid hX
      clear y
      obtain ⟨y, rfl⟩ := hE.get
      clear hX hE
      obtain ⟨A2, m2, c2, rfl⟩ := own_slice HX.out.own
      simp only [List.zip_cons_cons, List.zip_nil_right, List.zip_nil_left]
      by_cases hlt : i < l.length
      · obtain ⟨q, b, o, HQ, rfl, hb, q0, q1, q2, q3⟩ := HRD.out i hlt
        have hii : (i : Int) < l.length := by omega
        obtain ⟨⟨qa1, qa2⟩, ⟨qb1, qb2⟩, ⟨qc1, qc2⟩, ⟨qd1, qd2⟩⟩ := HQI.out q (mem_of_get HQ.out)
        repeat' (first | refine X_q ?_ | refine X_nil ?_ | refine W_seqk (fun K hK => ?_) | refine W_seqr ?_ | refine W_skip ?_ | refine W_block ?_ | refine W_tt ?_ | go_step)
        by_cases z1 : 0 < q.b % 15
        · by_cases z2 : q.c % 4 = 0
          · have z2b : (q.c % 4 != 0) = false := by simp [z2]
            clear z2
            refine W_drawσ [(0, 0), (1, 0), (2, 0), (3, 0), (4, 0), (5, 0), (6, 0), (7, 0), (8, 0), (9, 0), (10, 0), (11, 0), (12, 0), (13, 0), (14, 0), (15, 0), (16, 0), (17, 0), (18, 0), (19, 0), (20, 0), (21, 0), (22, 0), (23, 0), (24, 0), (25, 0), (26, 0), (27, 0), (28, 0), (29, 1), (30, 2)] (by kernel_rfl) (by kernel_rfl) ?_
            repeat' (first | refine X_gt ?_ | refine X_q ?_ | refine X_niln ?_ | refine X_nil ?_ | (refine X_var (fun yn bn hn1 hn2 hn3 hn4 hn5 => ?_)) | refine W_seqk (fun K hK => ?_) | refine W_seqr ?_ | refine W_skip ?_ | refine W_ff ?_ | go_step)
            obtain ⟨b8, hb8⟩ : ∃ b8 : Nat, b8 = bn := ⟨_, rfl⟩
            subst hb8
            have HB8 := Lib.hid (Blk.new hn5.out)
            have h8l := HB8.out.lt
            have h8w : (w.later y).heap.size ≤ b8 := hn1
            have f0 := HB8.out.cell (k := 0) (by simp)
            have f1 := HB8.out.cell (k := 1) (by simp)
            have f2 := HB8.out.cell (k := 2) (by simp)
            have f3 := HB8.out.cell (k := 3) (by simp)
            have f4 := HB8.out.cell (k := 4) (by simp)
            simp at f0 f1 f2 f3 f4
            clear hn1 hn2 hn3 hn4 hn5
            skip
            refine W_drawσ [(0, 0), (1, 0), (2, 0), (3, 0), (4, 0), (5, 0), (6, 0), (7, 0), (8, 0), (9, 0), (10, 1), (11, 2), (12, 0)] (by kernel_rfl) (by kernel_rfl) ?_
            repeat' (first | refine X_q ?_ | (refine X_s (fun x K hK => ?_); go_simp; refine hK _ _ (Ext.alloc _ _) ?_; clear hK K; refine X_al x ?_; generalize (World.later _ x).heap.size = bn; intro yn hn1 hn2 hn3 hn4 hn5; clear x) | fail)
            refine X_acts (w0 := w) (by simp) elemAct (HX.out.later (by simp)) (Rd.built (xs := [⟨{ ActD.zero with kind := 5, n := q.d % 5, fetch := ⟨q.a % 4, 1, q.b % 15, q.c % 3, q.d % 15⟩ }, Sl.nil, Sl.nil, Sl.nil⟩]) hn2 hn3 rfl (by simp [maxLen])) (fun a ha => by
              obtain rfl : a = _ := by simpa using ha
              exact ActW.fit_plain _ _ rfl rfl rfl (by simp)) (by simp; omega) (by unfold maxLen; simp; omega) (fun y2 v' hO hM => ?_)
            have HO := Lib.hid hO
            clear hO hM
            repeat' (first | refine X_q ?_ | refine X_niln ?_ | refine X_nil ?_ | refine W_seqr ?_ | go_step)
            exact ⟨_, _, rfl, hd, hA, j2 - 1, by omega, i + 1, _, _, y2.ext, by omega, by simp; omega, by simp, HO.out⟩
          · have z2b : (q.c % 4 != 0) = true := by simp [z2]
            clear z2
            refine W_drawσ [(0, 0), (1, 0), (2, 0), (3, 0), (4, 0), (5, 0), (6, 0), (7, 0), (8, 0), (9, 0), (10, 0), (11, 0), (12, 0), (13, 0), (14, 0), (15, 0), (16, 0), (17, 0), (18, 0), (19, 0), (20, 0), (21, 0), (22, 0), (23, 0), (24, 0), (25, 0), (26, 0), (27, 0), (28, 0), (29, 1), (30, 2)] (by kernel_rfl) (by kernel_rfl) ?_
            repeat' (first | refine X_gt ?_ | refine X_q ?_ | refine X_niln ?_ | refine X_nil ?_ | (refine X_var (fun yn bn hn1 hn2 hn3 hn4 hn5 => ?_)) | refine W_seqk (fun K hK => ?_) | refine W_seqr ?_ | refine W_tt ?_ | go_step)
            obtain ⟨b8, hb8⟩ : ∃ b8 : Nat, b8 = bn := ⟨_, rfl⟩
            subst hb8
            have HB8 := Lib.hid (Blk.new hn5.out)
            have h8l := HB8.out.lt
            have h8w : (w.later y).heap.size ≤ b8 := hn1
            refine X_store (off := 3) HB8.out (fun W1 hM1 hB1 => ?_)
            have hE1 : Ext (w.later y) W1 := Ext.fresh (by simp) hM1 (fun k hk => by subst hk; omega)
            replace HB8 := Lib.hid hB1
            clear hM1 hB1 h8l hn1 hn2 hn3 hn4 hn5 yn
            obtain ⟨y9, rfl⟩ := hE1.get
            clear hE1
            have h8l := HB8.out.lt
            have f0 := HB8.out.cell (k := 0) (by simp)
            have f1 := HB8.out.cell (k := 1) (by simp)
            have f2 := HB8.out.cell (k := 2) (by simp)
            have f3 := HB8.out.cell (k := 3) (by simp)
            have f4 := HB8.out.cell (k := 4) (by simp)
            simp [put, Value.cells] at f0 f1 f2 f3 f4
            repeat' (first | refine X_nil ?_ | go_step)
            refine W_drawσ [(0, 0), (1, 0), (2, 0), (3, 0), (4, 0), (5, 0), (6, 0), (7, 0), (8, 0), (9, 0), (10, 1), (11, 2), (12, 0)] (by kernel_rfl) (by kernel_rfl) ?_
            repeat' (first | refine X_q ?_ | (refine X_s (fun x K hK => ?_); go_simp; refine hK _ _ (Ext.alloc _ _) ?_; clear hK K; refine X_al x ?_; generalize (World.later _ x).heap.size = bn; intro yn hn1 hn2 hn3 hn4 hn5; clear x) | fail)
            refine X_acts (w0 := w) (by simp) elemAct (HX.out.later (by simp)) (Rd.built (xs := [⟨{ ActD.zero with kind := 5, n := q.d % 5, fetch := ⟨q.a % 4, 1, q.b % 15, 1, q.d % 15⟩ }, Sl.nil, Sl.nil, Sl.nil⟩]) hn2 hn3 rfl (by simp [maxLen])) (fun a ha => by
              obtain rfl : a = _ := by simpa using ha
              exact ActW.fit_plain _ _ rfl rfl rfl (by simp)) (by simp; omega) (by unfold maxLen; simp; omega) (fun y2 v' hO hM => ?_)
            have HO := Lib.hid hO
            clear hO hM
            repeat' (first | refine X_q ?_ | refine X_niln ?_ | refine X_nil ?_ | refine W_seqr ?_ | go_step)
            exact ⟨_, _, rfl, hd, hA, j2 - 1, by omega, i + 1, _, _, y2.ext, by omega, by simp; omega, by simp, HO.out⟩
        · skip
          refine W_drawσ [(0, 0), (1, 0), (2, 0), (3, 0), (4, 0), (5, 0), (6, 0), (7, 0), (8, 0), (9, 0), (10, 0), (11, 0), (12, 0), (13, 0), (14, 0), (15, 0), (16, 0), (17, 0), (18, 0), (19, 0), (20, 0), (21, 0), (22, 0), (23, 0), (24, 0), (25, 0), (26, 0), (27, 0), (28, 0), (29, 1), (30, 2)] (by kernel_rfl) (by kernel_rfl) ?_
          repeat' (first | refine X_q ?_ | refine X_g ?_ | refine X_gf ?_ | refine X_niln ?_ | refine X_nil ?_ | (refine X_var (fun yn bn hn1 hn2 hn3 hn4 hn5 => ?_)) | refine W_seqk (fun K hK => ?_) | refine W_seqr ?_ | refine W_skip ?_ | refine W_ff ?_ | go_step)
          obtain ⟨b8, hb8⟩ : ∃ b8 : Nat, b8 = bn := ⟨_, rfl⟩
          subst hb8
          have HB8 := Lib.hid (Blk.new hn5.out)
          have h8l := HB8.out.lt
          have h8w : (w.later y).heap.size ≤ b8 := hn1
          have f0 := HB8.out.cell (k := 0) (by simp)
          have f1 := HB8.out.cell (k := 1) (by simp)
          have f2 := HB8.out.cell (k := 2) (by simp)
          have f3 := HB8.out.cell (k := 3) (by simp)
          have f4 := HB8.out.cell (k := 4) (by simp)
          simp at f0 f1 f2 f3 f4
          clear hn1 hn2 hn3 hn4 hn5
          skip
          refine W_drawσ [(0, 0), (1, 0), (2, 0), (3, 0), (4, 0), (5, 0), (6, 0), (7, 0), (8, 0), (9, 0), (10, 1), (11, 2), (12, 0)] (by kernel_rfl) (by kernel_rfl) ?_
          repeat' (first | refine X_q ?_ | (refine X_s (fun x K hK => ?_); go_simp; refine hK _ _ (Ext.alloc _ _) ?_; clear hK K; refine X_al x ?_; generalize (World.later _ x).heap.size = bn; intro yn hn1 hn2 hn3 hn4 hn5; clear x) | fail)
          refine X_acts (w0 := w) (by simp) elemAct (HX.out.later (by simp)) (Rd.built (xs := [⟨{ ActD.zero with kind := 5, n := q.d % 5, fetch := ⟨q.a % 4, 1, q.b % 15, q.c % 3, q.d % 15⟩ }, Sl.nil, Sl.nil, Sl.nil⟩]) hn2 hn3 rfl (by simp [maxLen])) (fun a ha => by
            obtain rfl : a = _ := by simpa using ha
            exact ActW.fit_plain _ _ rfl rfl rfl (by simp)) (by simp; omega) (by unfold maxLen; simp; omega) (fun y2 v' hO hM => ?_)
          have HO := Lib.hid hO
          clear hO hM
          repeat' (first | refine X_q ?_ | refine X_niln ?_ | refine X_nil ?_ | refine W_seqr ?_ | go_step)
          exact ⟨_, _, rfl, hd, hA, j2 - 1, by omega, i + 1, _, _, y2.ext, by omega, by simp; omega, by simp, HO.out⟩
      · have hii : ¬ (i : Int) < l.length := by omega
        repeat' (first | refine X_pure Tryz.func18 (HX.out.play 1 1) ?_ | refine X_q ?_ | refine X_nil ?_ | refine W_seqk (fun K hK => ?_) | refine W_seqr ?_ | refine W_ret ?_ | refine W_exit ?_ | refine W_ff ?_ | go_step)
        exact Body_ret hd ⟨rfl, by simp⟩
  · have h12i : (12 : Int) < l.length := by omega
    clear HRD
    refine Fn_of Tryz.func6 rfl (Nat.le_of_ble_eq_true rfl) ?_; intro A hd hA; simp only [ix, Nat.reduceAdd]; replace hA : A.tmps.size = 96 := hA
    repeat' (first | refine X_pure Tryz.func12 (known11_calls) ?_ | refine X_q ?_ | refine X_nil ?_ | refine W_seqk (fun K hK => ?_) | refine W_seqr ?_ | refine W_ret ?_ | refine W_tt ?_ | go_step)
    exact Body_ret hd ⟨rfl, by simp⟩
end Go.Ws
