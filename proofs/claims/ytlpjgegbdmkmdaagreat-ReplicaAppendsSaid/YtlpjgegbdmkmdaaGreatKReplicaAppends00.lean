/- Lemmas for the statements of this layer (joined texts); no condition. -/
import Derived.Test.YtlpjgegbdmkmdaaGreatBa27
namespace Go.Ws
open Go Go.RowKit Go.Proofs
set_option maxHeartbeats 4000000
set_option maxRecDepth 100000
set_option linter.unusedVariables false
set_option linter.unusedSimpArgs false

theorem appends_calls (l : List Ent) (v : Value) (w : World) (hl : RdE w v l) : Pure Tryz.prog 5 #[v] w (.bool true) := by
  have HL := Lib.hid hl
  obtain ⟨A0, c0, rfl, hc0, hcm0, HRD⟩ := hl.ent
  clear hl
  by_cases h30 : l.length ≤ 30
  · have h30i : ¬ (30 : Int) < l.length := by omega
    refine Fn_of Tryz.func5 rfl (Nat.le_of_ble_eq_true rfl) ?_; intro A hd hA; simp only [ix, Nat.reduceAdd]; replace hA : A.tmps.size = 34 := hA
    repeat' (first | refine X_q ?_ | refine X_nil ?_ | refine W_seqk (fun K hK => ?_) | refine W_seqr ?_ | refine W_skip ?_ | refine W_block ?_ | (refine X_s (fun x K hK => ?_); go_simp; refine hK _ _ (Ext.alloc _ _) ?_; clear hK K; refine X_al x ?_; generalize (World.later _ x).heap.size = bn; intro yn hn1 hn2 hn3 hn4 hn5; clear x) | refine W_ff ?_ | go_step)
    rename_i b1 y1 p1 p2 p3 p4 p5
    have hx0 : ActsAt w ((w.later y1).later yn) (.slice (some ⟨bn, 0, none⟩) 1 1) [⟨{ ActD.zero with kind := 1, view := ⟨2, 5, 9, [0, 2]⟩ }, ⟨some ⟨b1, 0, none⟩, 2, 2⟩, Sl.nil, Sl.nil⟩] :=
      ActsAt.made (xs := [⟨{ ActD.zero with kind := 1, view := ⟨2, 5, 9, [0, 2]⟩ }, ⟨some ⟨b1, 0, none⟩, 2, 2⟩, Sl.nil, Sl.nil⟩]) rfl hn5.out (by simp [maxLen]) (by have := y1.ext.size; omega) (fun a ha => by
        obtain rfl : a = _ := by simpa using ha
        exact ⟨⟨(RdI.built (xs := [0, 2]) rfl p5.out (by simp [maxLen]) (by omega)).later yn.ext, RdN.nil _, RdN.nil _⟩, by simp⟩)
    have hE0 : Ext w ((w.later y1).later yn) := by simp
    have HX := Lib.hid hx0
    have HE := Lib.hid hE0
    generalize World.later _ yn = W0 at *
    clear hx0 hE0 p1 p2 p3 p4 p5 hn1 hn2 hn3 hn4 hn5 yn y1
    refine W_loops [0, 2, 3, 4] (fun n vs w' => ∃ (k : Nat) (u : Value) (l' : List ActW), Ext w w' ∧ k + n = l.length ∧ l'.length = k + 1 ∧ vs = [.slice A0 l.length c0, .bool false, u, .int .i64 k] ∧ ActsAt w w' u l') l.length hd hA (by decide) ⟨0, _, _, HE.out, by omega, rfl, by simp, HX.out⟩ ?_
    clear hd hA A; intro n vs B w' hd hA _ ⟨k, u, l', hE, hk, hl', hvs, hX⟩; subst hvs
    replace HX := Lib.hid hX
    obtain ⟨y, rfl⟩ := hE.get
    clear hX hE HE
    obtain ⟨A1, m1, c1, rfl⟩ := own_slice HX.out.own
    simp only [List.zip_cons_cons, List.zip_nil_right, List.zip_nil_left]
    by_cases hlt : k < l.length
    · obtain ⟨e, b, o, HEe, rfl, hb, x0, x1, x2, x3, x4, x5⟩ := HRD.out k hlt
      have hki : (k : Int) < l.length := by omega
      repeat' (first | refine X_q ?_ | refine X_nil ?_ | refine W_seqk (fun K hK => ?_) | refine W_seqr ?_ | refine W_skip ?_ | refine W_block ?_ | (refine X_s (fun x K hK => ?_); go_simp; refine hK _ _ (Ext.alloc _ _) ?_; clear hK K; refine X_al x ?_; generalize (World.later _ x).heap.size = bn; intro yn hn1 hn2 hn3 hn4 hn5; clear x) | refine W_tt ?_ | go_step)
      refine X_acts (w0 := w) (by simp) elemAct (HX.out.later yn.ext) (Rd.built (xs := [⟨{ ActD.zero with kind := 2, ent := e }, Sl.nil, Sl.nil, Sl.nil⟩]) hn2 hn3 rfl (by simp [maxLen])) (fun a ha => by
        obtain rfl : a = _ := by simpa using ha
        exact ActW.fit_plain _ _ rfl rfl rfl (by simp)) (by simp; omega) (by unfold maxLen; simp; omega) (fun y2 v' hO hM => ?_)
      have HO := Lib.hid hO
      clear hO hM
      repeat' (first | refine X_q ?_ | refine X_nil ?_ | refine W_seqr ?_ | go_step)
      exact ⟨_, _, rfl, hd, hA, n - 1, by omega, k + 1, _, _, y2.ext, by omega, by simp; omega, by simp, HO.out⟩
    · have hki : ¬ (k : Int) < l.length := by omega
      repeat' (first | refine X_q ?_ | refine X_nil ?_ | refine W_seqk (fun K hK => ?_) | refine W_seqr ?_ | refine W_exit ?_ | (refine X_s (fun x K hK => ?_); go_simp; refine hK _ _ (Ext.alloc _ _) ?_; clear hK K; refine X_al x ?_; generalize (World.later _ x).heap.size = bn; intro yn hn1 hn2 hn3 hn4 hn5; clear x) | refine W_ff ?_ | go_step)
      refine X_acts (w0 := w) (by simp) elemAct (HX.out.later yn.ext) (Rd.built (xs := [⟨{ ActD.zero with kind := 3 }, Sl.nil, Sl.nil, Sl.nil⟩, ⟨{ ActD.zero with kind := 5, n := 9, fetch := ⟨0, 5, 0, 0, 0⟩ }, Sl.nil, Sl.nil, Sl.nil⟩]) hn2 hn3 rfl (by simp [maxLen])) (fun a ha => by
        simp only [List.mem_cons, List.not_mem_nil, or_false] at ha
        rcases ha with rfl | rfl
        · exact ActW.fit_plain _ _ rfl rfl rfl (by simp)
        · exact ActW.fit_plain _ _ rfl rfl rfl (by simp)) (by simp; omega) (by unfold maxLen; simp; omega) (fun y2 v' hO hM => ?_)
      have HO := Lib.hid hO
      clear hO hM
      repeat' (first | refine X_pure Tryz.func18 (HO.out.play 2 2) ?_ | refine X_q ?_ | refine X_nil ?_ | refine W_ret ?_ | go_step)
      exact Body_ret hd ⟨rfl, by simp⟩
  · have h30i : (30 : Int) < l.length := by omega
    clear HRD
    refine Fn_of Tryz.func5 rfl (Nat.le_of_ble_eq_true rfl) ?_; intro A hd hA; simp only [ix, Nat.reduceAdd]; replace hA : A.tmps.size = 34 := hA
    repeat' (first | refine X_pure Tryz.func12 (known11_calls) ?_ | refine X_q ?_ | refine X_nil ?_ | refine W_seqk (fun K hK => ?_) | refine W_seqr ?_ | refine W_ret ?_ | refine W_tt ?_ | go_step)
    exact Body_ret hd ⟨rfl, by simp⟩
end Go.Ws
