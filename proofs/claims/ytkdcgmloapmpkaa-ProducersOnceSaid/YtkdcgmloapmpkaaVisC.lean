import Derived.Test.YtkdcgmloapmpkaaVisB
import Derived.Test.YtkdcgmloapmpkaaMapSeq
namespace Go.Ws
open Go Go.RowKit Go.Proofs
set_option maxHeartbeats 2000000
set_option maxRecDepth 100000
set_option linter.unusedVariables false
set_option linter.unusedSimpArgs false
set_option pp.deepTerms true
set_option pp.maxSteps 100000000

theorem X_gyield {P : Program} {Q : Post} {w : World} {A : Act} {fl : List (Nat × Value)} {ops : Array Oper} {o : Oper} {rest : List (Oper × Nat)} {l : Nat} {s : Operand} {la : List Operand} {ats : Array TypeId} {lv lv' : List Value} {R : Bool → World → Prop} {d j t : Nat} {want g : Bool}
    (hY : g = true → ∀ x : Later w, YieldW P l lv.toArray (w.later x) fun e W' => ∃ b, e = .returned (.bool b) ∧ R b W') (h : ∀ b W', g = true → R b W' → wpX P ops Q rest (fr ((d, .bool b) :: fl) A) W') (hf : g = false → wpX P ops Q rest (fr ((d, undef) :: fl) A) w)
    (hop : o.op = .call { callee := .value s, args := la.toArray, argTypes := ats } := by rfl) (hd : o.dst = some d := by rfl)
    (hg : o.guard = some (j, want) := by rfl) (ht : (ops[j]?).bind (·.dst) = some t := by rfl) (hgg : Is (gw ((fr fl A).tmps.getD t undef) want) g := by go_simp; exact Is.mk _)
    (hs : g = true → Is ((fr fl A).eval s) (.func (.yield l) #[] #[]) := by intro hb; (try subst hb); go_simp; exact Is.mk _) (hargs : g = true → Is (la.map (fr fl A).eval) lv' := by intro hb; (try subst hb); go_simp; exact Is.mk _) (hlv : lv' = lv := by rfl) : wpX P ops Q ((o, 2) :: rest) (fr fl A) w := by
  refine X_gop (g := g) (fun hgt x => ?_) (fun hgf => by rw [hd, fr_put]; exact hf hgf) hg ht hgg
  unfold OpW
  obtain ⟨fn, tmps, assign, body, hy, hR⟩ := hY hgt x
  rw [run_yieldcall hop (hs hgt).eq, (hargs hgt).eq, hlv, hy]
  simp only [uponW]
  refine RoundIn.mono hR fun e w' hR' => ?_
  obtain ⟨b, rfl, hb⟩ := hR'
  exact ⟨w', Ext.refl _, by rw [hd, fr_put]; exact h b w' hgt hb⟩
theorem seenB_comm (l : List Ent) (e : Ent) : (decide (e.id < 0) || (comm l (e.id, e.num)).getD false) = seenB l e := by
  unfold seenB comm
  congr 1
  rw [Bool.eq_iff_iff]
  simp only [List.any_eq_true, Bool.and_eq_true, beq_iff_eq, Prod.mk.injEq]
  constructor
  · intro h
    split at h
    · rename_i hx
      obtain ⟨x, hx, h1, h2, h3⟩ := hx
      exact ⟨x, hx, ⟨h2, h3⟩, h1⟩
    · cases h
  · rintro ⟨x, hx, ⟨h2, h3⟩, h1⟩
    rw [if_pos ⟨x, hx, h1, h2, h3⟩]; rfl
theorem seen_calls {w : World} {b5 m : Nat} (l : List Ent) (e : Ent) (hb : b5 < w.heap.size) (c5 : w.cell? ⟨b5, 0, none⟩ = some (.map (some m))) (hm : MapIs kp vB w m (comm l)) :
    Pure Try.prog 85 #[e.v, .pointer (some ⟨b5, 0, none⟩)] w (.bool ((e.kind == 1) && seenB l e)) := by
  refine Fn_of Try.func85 rfl (Nat.le_of_ble_eq_true rfl) ?_; intro A hd hA; simp only [ix, Nat.reduceAdd]; replace hA : A.tmps.size = 18 := hA
  repeat' (first | refine X_d (fun vb hvb => ?_) | refine X_dg (fun vb hvb => ?_) | refine X_q ?_ | refine X_g ?_ | refine X_gf ?_ | refine X_niln ?_ | refine X_nil ?_ | (refine X_var (fun yn bn hn1 hn2 hn3 hn4 hn5 => ?_)) | refine W_seqk (fun K hK => ?_) | refine W_seqr ?_ | refine W_ret ?_ | refine W_skip ?_ | refine W_block ?_ | refine W_exit ?_ | (refine X_s (fun x K hK => ?_); go_simp; refine hK _ _ (Ext.alloc _ _) ?_; clear hK K; refine X_al x ?_; generalize (World.later _ x).heap.size = bn; intro yn hn1 hn2 hn3 hn4 hn5; clear x) | refine W_tt ?_ | refine W_ff ?_ | refine W_test (fun hc => ?_) (fun hc => ?_) | go_step)
  refine W_drawσ [(0, 0), (1, 0), (2, 0), (3, 0), (4, 0), (5, 0), (6, 0), (7, 0), (8, 0), (9, 0), (10, 1), (11, 0), (12, 0), (13, 0), (14, 0)] (by kernel_rfl) (by kernel_rfl) ?_
  simp only [List.map_cons, List.map_nil, List.getD_cons_zero, List.getD_cons_succ]
  repeat' (first | (refine X_gpure1 Try.func71 (fun _ x => txnOf_calls e _) ?_) | refine X_d (fun vb hvb => ?_) | refine X_dg (fun vb hvb => ?_) | refine X_q ?_ | refine X_g ?_ | refine X_gf ?_ | refine X_niln ?_ | refine X_nil ?_ | (refine X_var (fun yn bn hn1 hn2 hn3 hn4 hn5 => ?_)) | refine W_seqk (fun K hK => ?_) | refine W_seqr ?_ | refine W_ret ?_ | refine W_skip ?_ | refine W_block ?_ | refine W_exit ?_ | (refine X_s (fun x K hK => ?_); go_simp; refine hK _ _ (Ext.alloc _ _) ?_; clear hK K; refine X_al x ?_; generalize (World.later _ x).heap.size = bn; intro yn hn1 hn2 hn3 hn4 hn5; clear x) | refine W_tt ?_ | refine W_ff ?_ | refine W_test (fun hc => ?_) (fun hc => ?_) | go_step)
  refine X_glook (hm.later (by simp)) keysTxn Try.underlying93 (z := default) (e.id, e.num) ?_
  repeat' (first | refine X_d (fun vb hvb => ?_) | refine X_dg (fun vb hvb => ?_) | refine X_q ?_ | refine X_g ?_ | refine X_gf ?_ | refine X_niln ?_ | refine X_nil ?_ | (refine X_var (fun yn bn hn1 hn2 hn3 hn4 hn5 => ?_)) | refine W_seqk (fun K hK => ?_) | refine W_seqr ?_ | refine W_ret ?_ | refine W_skip ?_ | refine W_block ?_ | refine W_exit ?_ | (refine X_s (fun x K hK => ?_); go_simp; refine hK _ _ (Ext.alloc _ _) ?_; clear hK K; refine X_al x ?_; generalize (World.later _ x).heap.size = bn; intro yn hn1 hn2 hn3 hn4 hn5; clear x) | refine W_tt ?_ | refine W_ff ?_ | refine W_test (fun hc => ?_) (fun hc => ?_) | go_step)
  refine Body_ret hd ⟨?_, by simp⟩
  rw [← seenB_comm]
  repeat cases ‹Eqn _ _›
  cases (e.kind == 1) <;> cases (decide (e.id < 0)) <;> rfl
theorem viewTo_succ {p : List Ent} {k : Nat} {e : Ent} (h : p[k]? = some e) : viewTo p (k + 1) = viewTo p k ++ (if ((e.kind == 1) && seenB p e) = true then [(k : Int)] else []) := by
  conv => lhs; unfold viewTo
  simp only [h, viewStep]
  cases hk : (e.kind == 1)
  · simp at hk; simp [hk]
  · simp at hk; cases seenB p e <;> simp [hk]
theorem view_iter {w : World} {lb : Array Value} {v : Value} {s : Nat} {l : List Ent} {F : Nat → Prop} (hl : RdE w v l) (hs : s ≤ l.length) (hv : VIt w lb v s l F) :
    Iter Try.prog 86 lb (fun x : Int => #[.int .i64 x]) (fun xs => xs = viewTo l s) (fun xs => xs.length ≤ l.length) (fun k => k < w.heap.size) w := by
  intro ll J Jx B0 W hE hJ hJx hJlt hY h0 hB0
  have hup : ∀ {pre B V V'}, J pre B V → Ext V V' → J pre B V' := fun h hE => hJ _ _ _ _ h (Mod.mono hE (fun _ _ h => h.elim))
  obtain ⟨b1, b2, b5, b8, m, rfl, l1, l2, l5, l8, -, -, -, -, -, c1, c2, c8, c5, hm⟩ := hv.ex
  have main : Ret Try.prog 86 #[.func (.yield ll) #[] #[], .pointer (some ⟨b1, 0, none⟩), .pointer (some ⟨b2, 0, none⟩), .pointer (some ⟨b8, 0, none⟩)] W fun v W' => (∃ xs B, xs = viewTo l s ∧ J xs B W') ∨ ∃ pre, Jx pre W' := by
    obtain ⟨yW, rfl⟩ := hE.get
    obtain ⟨A0, c, rfl, hc, hcm, HR⟩ := hl.ent
    have HY := Lib.hid hY
    have HJ := Lib.hid hJ
    have H0 := Lib.hid h0
    have HB0 := Lib.hid hB0
    have HLT := Lib.hid hJlt
    clear hY hJ h0 hB0 hJlt hJx hl hv
    refine Fn_of Try.func86 rfl (Nat.le_of_ble_eq_true rfl) ?_; intro A hd hA; simp only [ix, Nat.reduceAdd]; replace hA : A.tmps.size = 26 := hA
    have hsi : (s : Int) ≤ l.length := by omega
    have hsc : (s : Int) ≤ c := by omega
    repeat' (first | refine X_d (fun vb hvb => ?_) | refine X_dg (fun vb hvb => ?_) | refine X_q ?_ | refine X_g ?_ | refine X_gf ?_ | refine X_niln ?_ | refine X_nil ?_ | (refine X_var (fun yn bn hn1 hn2 hn3 hn4 hn5 => ?_)) | refine W_seqk (fun K hK => ?_) | refine W_seqr ?_ | refine W_ret ?_ | refine W_skip ?_ | refine W_block ?_ | refine W_exit ?_ | (refine X_s (fun x K hK => ?_); go_simp; refine hK _ _ (Ext.alloc _ _) ?_; clear hK K; refine X_al x ?_; generalize (World.later _ x).heap.size = bn; intro yn hn1 hn2 hn3 hn4 hn5; clear x) | refine W_tt ?_ | refine W_ff ?_ | refine W_test (fun hc => ?_) (fun hc => ?_) | go_step)
    refine W_loops [0, 3, 9, 10, 11] (fun n vs w' => ∃ (k : Nat) (y : Later w) (B : Nat → Prop), w' = w.later y ∧ n + k = s ∧ vs = [.func (.yield ll) #[] #[], .pointer (some ⟨b8, 0, none⟩), .slice A0 s c, .int .i64 s, .int .i64 k] ∧ J (viewTo l k) B (w.later y) ∧ ∀ k, B k → w.heap.size ≤ k) s hd hA (by decide) ?_ ?_
    · exact ⟨0, yW, B0, rfl, by omega, by simp, H0.out, fun k hk => by have := HB0.out k hk; omega⟩
    clear hd hA A; intro n vs B w' hd hA _ ⟨k, y, Bs, hw, hn, hvs, hj, hb⟩; subst hw hvs
    simp only [List.zip_cons_cons, List.zip_nil_right, List.zip_nil_left]
    have HJ1 := Lib.hid hj
    have HBs := Lib.hid hb
    clear hj hb
    by_cases hlt : k < s
    · obtain ⟨e, be, oe, he, hA0, hbe, r0, r1, r2, r3, r4, r5⟩ := HR.out k (by omega)
      subst hA0
      have hki : (k : Int) < s := by omega
      repeat' (first | refine X_d (fun vb hvb => ?_) | refine X_dg (fun vb hvb => ?_) | refine X_q ?_ | refine X_g ?_ | refine X_gf ?_ | refine X_niln ?_ | refine X_nil ?_ | (refine X_var (fun yn bn hn1 hn2 hn3 hn4 hn5 => ?_)) | refine W_seqk (fun K hK => ?_) | refine W_seqr ?_ | refine W_ret ?_ | refine W_skip ?_ | refine W_block ?_ | refine W_exit ?_ | (refine X_s (fun x K hK => ?_); go_simp; refine hK _ _ (Ext.alloc _ _) ?_; clear hK K; refine X_al x ?_; generalize (World.later _ x).heap.size = bn; intro yn hn1 hn2 hn3 hn4 hn5; clear x) | refine W_tt ?_ | refine W_ff ?_ | refine W_test (fun hc => ?_) (fun hc => ?_) | go_step)
      refine X_store (off := 0) (n := 6) (v := e.v) (Blk.new hn5.out) (fun W' hM hB => ?_)
      have hE : Ext w W' := Ext.fresh (F := (· = bn)) (by simp : Ext w ((w.later y).later yn)) hM (fun i h => by subst h; exact Nat.le_trans y.2.size hn1)
      have hE1 : Ext (w.later y) W' := Ext.fresh (F := (· = bn)) (by simp : Ext (w.later y) ((w.later y).later yn)) hM (fun i h => by subst h; exact hn1)
      have hj := Lib.hid (hup HJ1.out hE1)
      have hbt := hB.lt
      have q0 := hB.cell (k := 0) (by omega)
      have q1 := hB.cell (k := 1) (by omega)
      have q2 := hB.cell (k := 2) (by omega)
      have q3 := hB.cell (k := 3) (by omega)
      have q4 := hB.cell (k := 4) (by omega)
      have q5 := hB.cell (k := 5) (by omega)
      have hf := fun k => hB.frozen k
      clear hn1 hn2 hn3 hn4 hn5 hM hB hE1 HJ1 yn
      obtain ⟨y', rfl⟩ := hE.get
      repeat' (first | refine X_d (fun vb hvb => ?_) | refine X_dg (fun vb hvb => ?_) | refine X_q ?_ | refine X_g ?_ | refine X_gf ?_ | refine X_niln ?_ | refine X_nil ?_ | (refine X_var (fun yn bn hn1 hn2 hn3 hn4 hn5 => ?_)) | refine W_seqk (fun K hK => ?_) | refine W_seqr ?_ | refine W_ret ?_ | refine W_skip ?_ | refine W_block ?_ | refine W_exit ?_ | (refine X_s (fun x K hK => ?_); go_simp; refine hK _ _ (Ext.alloc _ _) ?_; clear hK K; refine X_al x ?_; generalize (World.later _ x).heap.size = bn; intro yn hn1 hn2 hn3 hn4 hn5; clear x) | refine W_tt ?_ | refine W_ff ?_ | refine W_test (fun hc => ?_) (fun hc => ?_) | go_step)
      refine X_valret (lv := [e.v]) (first := #[]) (captured := #[.pointer (some ⟨b5, 0, none⟩)]) Try.func85 (by simpa using seen_calls (w := w.later y') l e (by have : w.heap.size ≤ (w.later y').heap.size := y'.2.size; omega) (by rw [← c5]; exact World.cell?_of_block (y'.2.block b5 l5 (fun h => h))) (hm.later y'.2)) (fun v' w' hR => ?_)
      obtain ⟨rfl, hE'⟩ := hR
      have HJ2 := Lib.hid (hup hj.out hE')
      clear hj q0 q1 q2 q3 q4 q5 hf hbt
      have hE2 := Ext.trans hE hE'
      clear hE hE'
      obtain ⟨y2, rfl⟩ := hE2.get
      clear y'
      repeat' (first | refine X_d (fun vb hvb => ?_) | refine X_dg (fun vb hvb => ?_) | refine X_q ?_ | refine X_g ?_ | refine X_gf ?_ | refine X_niln ?_ | refine X_nil ?_ | (refine X_var (fun yn bn hn1 hn2 hn3 hn4 hn5 => ?_)) | refine W_seqk (fun K hK => ?_) | refine W_seqr ?_ | refine W_ret ?_ | refine W_skip ?_ | refine W_block ?_ | refine W_exit ?_ | (refine X_s (fun x K hK => ?_); go_simp; refine hK _ _ (Ext.alloc _ _) ?_; clear hK K; refine X_al x ?_; generalize (World.later _ x).heap.size = bn; intro yn hn1 hn2 hn3 hn4 hn5; clear x) | refine W_tt ?_ | refine W_ff ?_ | refine W_test (fun hc => ?_) (fun hc => ?_) | go_step)
      refine X_gyield (g := vb) (lv := [.int .i64 k]) (l := ll) (R := fun b W' => (b = true ∧ ∃ B', J (viewTo l (k + 1)) B' W' ∧ Ext w W' ∧ ∀ k, B' k → w.heap.size ≤ k) ∨ (b = false ∧ ∃ pre, Jx pre W')) (fun hvt X => ?_) (fun b W3 hvt hR => ?_) (fun hvt => ?_)
      · have hvt' : ((e.kind == 1) && seenB l e) = true := by cases hvb; exact hvt
        have hv1 := viewTo_succ he.out
        rw [if_pos hvt'] at hv1
        refine (HY.out (viewTo l k) Bs k ((w.later y2).later X) (hup HJ2.out X.2) (by have := viewTo_len l k; simp; omega)).mono ?_
        rintro e' W' (⟨rfl, B', hj', hM', hB'⟩ | ⟨rfl, hx'⟩)
        · have hwz : w.heap.size ≤ ((w.later y2).later X).heap.size := (ext_l1 w y2 X).size
          refine ⟨true, rfl, .inl ⟨rfl, B', by rw [hv1]; exact hj', Ext.fresh (ext_l1 w y2 X) hM' HBs.out, fun k hk => ?_⟩⟩
          rcases hB' k hk with h | h
          · exact HBs.out k h
          · omega
        · exact ⟨false, rfl, .inr ⟨rfl, _, hx'⟩⟩
      · subst hvt
        rcases hR with ⟨rfl, B', hj', hE3, hb'⟩ | ⟨rfl, hx'⟩
        · have HJ3 := Lib.hid hj'
          have HB3 := Lib.hid hb'
          clear hj' hb' HJ2
          obtain ⟨y3, rfl⟩ := hE3.get
          repeat' (first | refine X_d (fun vb hvb => ?_) | refine X_dg (fun vb hvb => ?_) | refine X_q ?_ | refine X_g ?_ | refine X_gf ?_ | refine X_niln ?_ | refine X_nil ?_ | (refine X_var (fun yn bn hn1 hn2 hn3 hn4 hn5 => ?_)) | refine W_seqk (fun K hK => ?_) | refine W_seqr ?_ | refine W_ret ?_ | refine W_skip ?_ | refine W_block ?_ | refine W_exit ?_ | (refine X_s (fun x K hK => ?_); go_simp; refine hK _ _ (Ext.alloc _ _) ?_; clear hK K; refine X_al x ?_; generalize (World.later _ x).heap.size = bn; intro yn hn1 hn2 hn3 hn4 hn5; clear x) | refine W_tt ?_ | refine W_ff ?_ | refine W_test (fun hc => ?_) (fun hc => ?_) | go_step)
          exact ⟨_, _, rfl, hd, hA, n - 1, by omega, k + 1, y3, B', rfl, by omega, by simp, HJ3.out, HB3.out⟩
        · have HX := Lib.hid hx'
          clear hx'
          repeat' (first | refine X_d (fun vb hvb => ?_) | refine X_dg (fun vb hvb => ?_) | refine X_q ?_ | refine X_g ?_ | refine X_gf ?_ | refine X_niln ?_ | refine X_nil ?_ | (refine X_var (fun yn bn hn1 hn2 hn3 hn4 hn5 => ?_)) | refine W_seqk (fun K hK => ?_) | refine W_seqr ?_ | refine W_ret ?_ | refine W_skip ?_ | refine W_block ?_ | refine W_exit ?_ | (refine X_s (fun x K hK => ?_); go_simp; refine hK _ _ (Ext.alloc _ _) ?_; clear hK K; refine X_al x ?_; generalize (World.later _ x).heap.size = bn; intro yn hn1 hn2 hn3 hn4 hn5; clear x) | refine W_tt ?_ | refine W_ff ?_ | refine W_test (fun hc => ?_) (fun hc => ?_) | go_step)
          exact Body_ret0 hd (.inr HX.out)
      · have hvt' : ((e.kind == 1) && seenB l e) = false := by cases hvb; exact hvt
        clear hvb
        subst hvt
        have hv1 := viewTo_succ he.out
        rw [hvt', if_neg (by simp), List.append_nil] at hv1
        have HV1 := Lib.hid hv1
        clear hv1 hvt'
        repeat' (first | refine X_d (fun vb hvb => ?_) | refine X_dg (fun vb hvb => ?_) | refine X_q ?_ | refine X_g ?_ | refine X_gf ?_ | refine X_niln ?_ | refine X_nil ?_ | (refine X_var (fun yn bn hn1 hn2 hn3 hn4 hn5 => ?_)) | refine W_seqk (fun K hK => ?_) | refine W_seqr ?_ | refine W_ret ?_ | refine W_skip ?_ | refine W_block ?_ | refine W_exit ?_ | (refine X_s (fun x K hK => ?_); go_simp; refine hK _ _ (Ext.alloc _ _) ?_; clear hK K; refine X_al x ?_; generalize (World.later _ x).heap.size = bn; intro yn hn1 hn2 hn3 hn4 hn5; clear x) | refine W_tt ?_ | refine W_ff ?_ | refine W_test (fun hc => ?_) (fun hc => ?_) | go_step)
        exact ⟨_, _, rfl, hd, hA, n - 1, by omega, k + 1, y2, Bs, rfl, by omega, by simp, by rw [HV1.out]; exact HJ2.out, HBs.out⟩
    · obtain rfl : k = s := by omega
      have HL := Lib.hid hlt
      clear hlt
      repeat' (first | refine X_d (fun vb hvb => ?_) | refine X_dg (fun vb hvb => ?_) | refine X_q ?_ | refine X_g ?_ | refine X_gf ?_ | refine X_niln ?_ | refine X_nil ?_ | (refine X_var (fun yn bn hn1 hn2 hn3 hn4 hn5 => ?_)) | refine W_seqk (fun K hK => ?_) | refine W_seqr ?_ | refine W_ret ?_ | refine W_skip ?_ | refine W_block ?_ | refine W_exit ?_ | (refine X_s (fun x K hK => ?_); go_simp; refine hK _ _ (Ext.alloc _ _) ?_; clear hK K; refine X_al x ?_; generalize (World.later _ x).heap.size = bn; intro yn hn1 hn2 hn3 hn4 hn5; clear x) | refine W_tt ?_ | refine W_ff ?_ | refine W_test (fun hc => ?_) (fun hc => ?_) | go_step)
      exact Body_ret0 hd (.inl ⟨_, Bs, rfl, HJ1.out⟩)
  refine Calls.mono (Fn.calls main) ?_
  rintro e W' ⟨W0, hE0, hR⟩
  cases e with
  | returned v =>
    refine ⟨v, rfl, ?_⟩
    rcases hR with ⟨xs, B, hS, hj⟩ | ⟨pre, hx⟩
    · exact .inl ⟨xs, B, hS, hup hj hE0⟩
    · exact .inr ⟨pre, hJx _ _ _ hx hE0⟩
  | panicked c => exact hR.elim
  | outgrown => exact hR.elim
end Go.Ws
