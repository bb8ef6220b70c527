import Derived.Test.YtkdcgmloapmpkaaVisA
namespace Go.Ws
open Go Go.RowKit Go.Proofs
set_option maxHeartbeats 2000000
set_option maxRecDepth 100000
set_option linter.unusedVariables false
set_option linter.unusedSimpArgs false
set_option pp.deepTerms true
set_option pp.maxSteps 100000000

/-- The transactions that were committed. -/
def comm (l : List Ent) : Int × Int → Option Bool := fun p => if ∃ e ∈ l, e.kind = 2 ∧ (e.id, e.num) = p then some true else none
theorem comm_nil : comm [] = fun _ => none := by funext p; simp [comm]
theorem comm_snoc (l : List Ent) (e : Ent) : comm (l ++ [e]) = if e.kind = 2 then upd (comm l) (e.id, e.num) (some true) else comm l := by
  funext p
  by_cases hk : e.kind = 2
  · simp only [hk, if_true, upd]
    by_cases hp : (e.id, e.num) = p
    · subst hp
      simp only [if_true, comm]
      rw [if_pos ⟨e, by simp, hk, rfl⟩]
    · have hp' : ¬ p = (e.id, e.num) := fun h => hp h.symm
      simp only [hp', if_false, comm]
      congr 1
      apply propext
      constructor
      · rintro ⟨x, hx, h1, h2⟩
        rcases List.mem_append.1 hx with hx | hx
        · exact ⟨x, hx, h1, h2⟩
        · rw [List.mem_singleton.1 hx] at h2; exact absurd h2 hp
      · rintro ⟨x, hx, h⟩; exact ⟨x, by simp [hx], h⟩
  · simp only [hk, if_false, comm]
    congr 1
    apply propext
    constructor
    · rintro ⟨x, hx, h1, h2⟩
      rcases List.mem_append.1 hx with hx | hx
      · exact ⟨x, hx, h1, h2⟩
      · rw [List.mem_singleton.1 hx] at h1; exact absurd h1 hk
    · rintro ⟨x, hx, h⟩; exact ⟨x, by simp [hx], h⟩
/-- What an iterator over a view has. -/
structure VIt (w : World) (lb : Array Value) (v : Value) (s : Int) (l : List Ent) (F : Nat → Prop) : Prop where
  ex : ∃ b1 b2 b5 b8 m, lb = #[.pointer (some ⟨b1, 0, none⟩), .pointer (some ⟨b2, 0, none⟩), .pointer (some ⟨b8, 0, none⟩)] ∧ b1 < w.heap.size ∧ b2 < w.heap.size ∧ b5 < w.heap.size ∧ b8 < w.heap.size ∧ F b1 ∧ F b2 ∧ F b5 ∧ F b8 ∧ F m ∧
    w.cell? ⟨b1, 0, none⟩ = some v ∧ w.cell? ⟨b2, 0, none⟩ = some (.int .i64 s) ∧ w.cell? ⟨b8, 0, none⟩ = some (.func (.func 85) #[] #[.pointer (some ⟨b5, 0, none⟩)]) ∧ w.cell? ⟨b5, 0, none⟩ = some (.map (some m)) ∧ MapIs kp vB w m (comm l)
/-- Amidst view: the blocks that it made. -/
structure VMid (w W : World) (b1 b2 b5 m : Nat) (v : Value) (s : Int) (l : List Ent) : Prop where
  n1 : w.heap.size ≤ b1
  n2 : w.heap.size ≤ b2
  n5 : w.heap.size ≤ b5
  nm : w.heap.size ≤ m
  k1 : Blk W b1 22 1 (fun _ => v)
  k2 : Blk W b2 3 1 (fun _ => .int .i64 s)
  k5 : Blk W b5 93 1 (fun _ => .map (some m))
  hm : MapIs kp vB W m (comm l)
theorem MapIs.nblk {κ β : Type} [DecidableEq κ] {kenc : κ → Value} {venc : β → Value} {w : World} {m b n : Nat} {E : TypeId} {f : κ → Option β} {g : Nat → Value} (h : MapIs kenc venc w m f) (hb : Blk w b E n g) : b ≠ m := by
  rintro rfl
  obtain ⟨cs, hc, _⟩ := hb
  exact not_map_cells hc h
theorem VMid.up {w W W' : World} {b1 b2 b5 m : Nat} {v : Value} {s : Int} {l : List Ent} (h : VMid w W b1 b2 b5 m v s l) (hE : Ext W W') : VMid w W' b1 b2 b5 m v s l :=
  ⟨h.n1, h.n2, h.n5, h.nm, h.k1.later hE, h.k2.later hE, h.k5.later hE, h.hm.later hE⟩
theorem VMid.set {w W W' : World} {b1 b2 b5 m : Nat} {v : Value} {s : Int} {l l' : List Ent} (h : VMid w W b1 b2 b5 m v s l) (hM : Mod (· = m) W W') (hm : MapIs kp vB W' m (comm l')) : VMid w W' b1 b2 b5 m v s l' :=
  ⟨h.n1, h.n2, h.n5, h.nm, h.k1.mod hM (h.hm.nblk h.k1), h.k2.mod hM (h.hm.nblk h.k2), h.k5.mod hM (h.hm.nblk h.k5), hm⟩
theorem view_calls (l : List Ent) (v : Value) (s : Int) (w : World) (hl : RdE w v l) : Ret Try.prog 65 #[v, .int .i64 s] w fun v' w' => ∃ lb, v' = .func (.func 86) #[] lb ∧ Ext w w' ∧ VIt w' lb v s l (fun k => w.heap.size ≤ k) := by
  have hl0 := Lib.hid hl
  obtain ⟨A0, c, rfl, hc, hcm, HR⟩ := hl.ent
  clear hl
  refine Fn_of Try.func65 rfl (Nat.le_of_ble_eq_true rfl) ?_; intro A hd hA; simp only [ix, Nat.reduceAdd]; replace hA : A.tmps.size = 27 := hA
  repeat' (first | refine X_d (fun vb hvb => ?_) | refine X_dg (fun vb hvb => ?_) | refine X_q ?_ | refine X_g ?_ | refine X_gf ?_ | refine X_niln ?_ | refine X_nil ?_ | (refine X_var (fun yn bn hn1 hn2 hn3 hn4 hn5 => ?_)) | refine W_seqk (fun K hK => ?_) | refine W_seqr ?_ | refine W_ret ?_ | refine W_skip ?_ | refine W_block ?_ | refine W_exit ?_ | (refine X_s (fun x K hK => ?_); go_simp; refine hK _ _ (Ext.alloc _ _) ?_; clear hK K; refine X_al x ?_; generalize (World.later _ x).heap.size = bn; intro yn hn1 hn2 hn3 hn4 hn5; clear x) | refine W_tt ?_ | refine W_ff ?_ | refine W_test (fun hc => ?_) (fun hc => ?_) | go_step)
  refine X_s (fun x K hK => ?_); go_simp; refine hK _ _ (Ext.alloc _ _) ?_; clear hK K; refine X_alm x ?_; generalize (World.later _ x).heap.size = m; intro ym hm1 hm2 hm3; clear x
  repeat' (first | refine X_d (fun vb hvb => ?_) | refine X_dg (fun vb hvb => ?_) | refine X_q ?_ | refine X_g ?_ | refine X_gf ?_ | refine X_niln ?_ | refine X_nil ?_ | (refine X_var (fun yn bn hn1 hn2 hn3 hn4 hn5 => ?_)) | refine W_seqk (fun K hK => ?_) | refine W_seqr ?_ | refine W_ret ?_ | refine W_skip ?_ | refine W_block ?_ | refine W_exit ?_ | (refine X_s (fun x K hK => ?_); go_simp; refine hK _ _ (Ext.alloc _ _) ?_; clear hK K; refine X_al x ?_; generalize (World.later _ x).heap.size = bn; intro yn hn1 hn2 hn3 hn4 hn5; clear x) | refine W_tt ?_ | refine W_ff ?_ | refine W_test (fun hc => ?_) (fun hc => ?_) | go_step)
  rename_i b1 y1 p11 p12 p13 p14 p15 b2 y2 p21 p22 p23 p24 p25
  rename Nat => b5
  refine X_store (off := 0) (Blk.one hn5.out) (fun W' hM hB => ?_)
  have hE0 : Ext w ((((w.later y1).later y2).later ym).later yn) := by simp
  have s1 := y1.2.size
  have s2 := y2.2.size
  have s3 := ym.2.size
  have s4 := yn.2.size
  have HV : Hid (VMid w W' b1 b2 b5 m (.slice A0 l.length c) s (l.take 0)) := Lib.hid (by
    refine ⟨p11, ?_, ?_, ?_, ?_, ?_, ?_, ?_⟩
    · exact Nat.le_trans s1 p21
    · exact Nat.le_trans s1 (Nat.le_trans s2 (Nat.le_trans s3 hn1))
    · exact Nat.le_trans s1 (Nat.le_trans s2 hm1)
    · exact ((Blk.one p15.out).later (by simp : Ext (w.later y1) ((((w.later y1).later y2).later ym).later yn))).mod hM (by omega)
    · exact ((Blk.one p25.out).later (by simp : Ext ((w.later y1).later y2) ((((w.later y1).later y2).later ym).later yn))).mod hM (by omega)
    · exact hB.congr (fun k hk => by obtain rfl : k = 0 := by omega
                                     simp [put_one, Value.cells])
    · rw [List.take_zero, comm_nil]
      exact (MapIs.empty (heap_later _ yn _ hm2 ▸ hm3.out)).mod hM (by omega))
  have hE : Ext w W' := Ext.fresh hE0 hM (by rintro _ rfl; exact Nat.le_trans s1 (Nat.le_trans s2 (Nat.le_trans s3 hn1)))
  clear hB hM hE0 s1 s2 s3 s4 p11 p12 p13 p14 p15 p21 p22 p23 p24 p25 hm1 hm2 hm3 hn1 hn2 hn3 hn4 hn5
  obtain ⟨y', rfl⟩ := hE.get
  have c5 := HV.out.k5.cell (k := 0) (by omega)
  have c1 := HV.out.k1.cell (k := 0) (by omega)
  have l5 := HV.out.k5.lt
  have l1 := HV.out.k1.lt
  repeat' (first | refine X_d (fun vb hvb => ?_) | refine X_dg (fun vb hvb => ?_) | refine X_q ?_ | refine X_g ?_ | refine X_gf ?_ | refine X_niln ?_ | refine X_nil ?_ | (refine X_var (fun yn bn hn1 hn2 hn3 hn4 hn5 => ?_)) | refine W_seqk (fun K hK => ?_) | refine W_seqr ?_ | refine W_ret ?_ | refine W_skip ?_ | refine W_block ?_ | refine W_exit ?_ | (refine X_s (fun x K hK => ?_); go_simp; refine hK _ _ (Ext.alloc _ _) ?_; clear hK K; refine X_al x ?_; generalize (World.later _ x).heap.size = bn; intro yn hn1 hn2 hn3 hn4 hn5; clear x) | refine W_tt ?_ | refine W_ff ?_ | refine W_test (fun hc => ?_) (fun hc => ?_) | go_step)
  refine W_loops [2, 3, 5, 10, 11, 12] (fun n vs w' => ∃ (k : Nat) (y : Later w), w' = w.later y ∧ n + k = l.length ∧ vs = [.pointer (some ⟨b1, 0, none⟩), .pointer (some ⟨b2, 0, none⟩), .pointer (some ⟨b5, 0, none⟩), .slice A0 l.length c, .int .i64 l.length, .int .i64 k] ∧ VMid w (w.later y) b1 b2 b5 m (.slice A0 l.length c) s (l.take k)) l.length hd hA (by decide) ?_ ?_
  · exact ⟨0, y', rfl, by omega, by simp, HV.out⟩
  clear HV c5 c1 l5 l1 hE yn ym y2 y1 y'
  clear hd hA A; intro n vs B w' hd hA _ ⟨k, y, hw, hk, hvs, hM⟩; subst hw hvs
  simp only [List.zip_cons_cons, List.zip_nil_right, List.zip_nil_left]
  have HV := Lib.hid hM
  have c5 := HV.out.k5.cell (k := 0) (by omega)
  have l5 := HV.out.k5.lt
  clear hM
  by_cases hlt : k < l.length
  · obtain ⟨e, be, oe, he, hA0, hbe, r0, r1, r2, r3, r4, r5⟩ := HR.out k hlt
    subst hA0
    have hki : (k : Int) < l.length := by omega
    repeat' (first | refine X_d (fun vb hvb => ?_) | refine X_dg (fun vb hvb => ?_) | refine X_q ?_ | refine X_g ?_ | refine X_gf ?_ | refine X_niln ?_ | refine X_nil ?_ | (refine X_var (fun yn bn hn1 hn2 hn3 hn4 hn5 => ?_)) | refine W_seqk (fun K hK => ?_) | refine W_seqr ?_ | refine W_ret ?_ | refine W_skip ?_ | refine W_block ?_ | refine W_exit ?_ | (refine X_s (fun x K hK => ?_); go_simp; refine hK _ _ (Ext.alloc _ _) ?_; clear hK K; refine X_al x ?_; generalize (World.later _ x).heap.size = bn; intro yn hn1 hn2 hn3 hn4 hn5; clear x) | refine W_tt ?_ | refine W_ff ?_ | refine W_test (fun hc => ?_) (fun hc => ?_) | go_step)
    · refine W_drawσ [(0, 0), (1, 0), (2, 1), (3, 1), (4, 2)] (by kernel_rfl) (by kernel_rfl) ?_
      simp only [List.map_cons, List.map_nil, List.getD_cons_zero, List.getD_cons_succ]
      repeat' (first | (refine X_pure1 Try.func71 (fun x => txnOf_calls e _) ?_) | refine X_d (fun vb hvb => ?_) | refine X_dg (fun vb hvb => ?_) | refine X_q ?_ | refine X_g ?_ | refine X_gf ?_ | refine X_niln ?_ | refine X_nil ?_ | (refine X_var (fun yn bn hn1 hn2 hn3 hn4 hn5 => ?_)) | refine W_seqk (fun K hK => ?_) | refine W_seqr ?_ | refine W_ret ?_ | refine W_skip ?_ | refine W_block ?_ | refine W_exit ?_ | (refine X_s (fun x K hK => ?_); go_simp; refine hK _ _ (Ext.alloc _ _) ?_; clear hK K; refine X_al x ?_; generalize (World.later _ x).heap.size = bn; intro yn hn1 hn2 hn3 hn4 hn5; clear x) | refine W_tt ?_ | refine W_ff ?_ | refine W_test (fun hc => ?_) (fun hc => ?_) | go_step)
      have q0 := hn3 0
      have q1 := hn3 1
      refine X_ret Try.func72 (with_calls (p := (e.id, e.num)) (HV.out.hm.later (by simp)) hn2 q0 q1 ?_) (fun v' w' hR => ?_)
      · have : m < (w.later y).heap.size := HV.out.hm.lt
        have h2 : (w.later y).heap.size ≤ ((w.later y).later ‹Later (w.later y)›).heap.size := (‹Later (w.later y)›).2.size
        omega
      obtain ⟨rfl, hM, hMI⟩ := hR
      have hV2 := (HV.out.up (ext_l1 _ _ yn)).set (l' := l.take (k + 1)) hM (by
        rw [take_snoc he.out, comm_snoc, if_pos (by simpa using hc)]; exact hMI)
      have hE : Ext w w' := Ext.fresh (by simp : Ext w (((w.later y).later ‹Later (w.later y)›).later yn)) hM (by rintro _ rfl; exact HV.out.nm)
      obtain ⟨y', rfl⟩ := hE.get
      repeat' (first | refine X_d (fun vb hvb => ?_) | refine X_dg (fun vb hvb => ?_) | refine X_q ?_ | refine X_g ?_ | refine X_gf ?_ | refine X_niln ?_ | refine X_nil ?_ | (refine X_var (fun yn bn hn1 hn2 hn3 hn4 hn5 => ?_)) | refine W_seqk (fun K hK => ?_) | refine W_seqr ?_ | refine W_ret ?_ | refine W_skip ?_ | refine W_block ?_ | refine W_exit ?_ | (refine X_s (fun x K hK => ?_); go_simp; refine hK _ _ (Ext.alloc _ _) ?_; clear hK K; refine X_al x ?_; generalize (World.later _ x).heap.size = bn; intro yn hn1 hn2 hn3 hn4 hn5; clear x) | refine W_tt ?_ | refine W_ff ?_ | refine W_test (fun hc => ?_) (fun hc => ?_) | go_step)
      exact ⟨_, _, rfl, hd, hA, n - 1, by omega, k + 1, y', rfl, by omega, by simp, hV2⟩
    · refine ⟨_, _, rfl, hd, hA, n - 1, by omega, k + 1, ⟨_, ext_l1 w y yn⟩, rfl, by omega, by simp, ?_⟩
      have := HV.out.up yn.2
      rw [take_snoc he.out]
      refine ⟨this.n1, this.n2, this.n5, this.nm, this.k1, this.k2, this.k5, ?_⟩
      rw [comm_snoc, if_neg (by simpa using hc)]
      exact this.hm
  · obtain rfl : k = l.length := by omega
    have HL := Lib.hid hlt
    clear hlt
    repeat' (first | refine X_d (fun vb hvb => ?_) | refine X_dg (fun vb hvb => ?_) | refine X_q ?_ | refine X_g ?_ | refine X_gf ?_ | refine X_niln ?_ | refine X_nil ?_ | (refine X_var (fun yn bn hn1 hn2 hn3 hn4 hn5 => ?_)) | refine W_seqk (fun K hK => ?_) | refine W_seqr ?_ | refine W_ret ?_ | refine W_skip ?_ | refine W_block ?_ | refine W_exit ?_ | (refine X_s (fun x K hK => ?_); go_simp; refine hK _ _ (Ext.alloc _ _) ?_; clear hK K; refine X_al x ?_; generalize (World.later _ x).heap.size = bn; intro yn hn1 hn2 hn3 hn4 hn5; clear x) | refine W_tt ?_ | refine W_ff ?_ | refine W_test (fun hc => ?_) (fun hc => ?_) | go_step)
    refine X_store (off := 0) (Blk.one hn5.out) (fun W' hM hB => ?_)
    have hE : Ext w W' := Ext.fresh (by simp : Ext w ((w.later y).later yn)) hM (by rintro _ rfl; exact Nat.le_trans y.2.size hn1)
    obtain ⟨y', rfl⟩ := hE.get
    have hV2 : VMid w (w.later y') b1 b2 b5 m (.slice A0 l.length c) s (l.take l.length) := by
      have hv := HV.out
      have h0 : ∀ b, b < (w.later y).heap.size → ¬ (b = bn) := by intro b hb; omega
      exact ⟨hv.n1, hv.n2, hv.n5, hv.nm, (hv.k1.later yn.2).mod hM (h0 _ hv.k1.lt), (hv.k2.later yn.2).mod hM (h0 _ hv.k2.lt), (hv.k5.later yn.2).mod hM (h0 _ hv.k5.lt), (hv.hm.later yn.2).mod hM (h0 _ hv.hm.lt)⟩
    rw [List.take_length] at hV2
    have hv2 := Lib.hid hV2
    clear hV2 HV
    repeat' (first | refine X_d (fun vb hvb => ?_) | refine X_dg (fun vb hvb => ?_) | refine X_q ?_ | refine X_g ?_ | refine X_gf ?_ | refine X_niln ?_ | refine X_nil ?_ | (refine X_var (fun yn bn hn1 hn2 hn3 hn4 hn5 => ?_)) | refine W_seqk (fun K hK => ?_) | refine W_seqr ?_ | refine W_ret ?_ | refine W_skip ?_ | refine W_block ?_ | refine W_exit ?_ | (refine X_s (fun x K hK => ?_); go_simp; refine hK _ _ (Ext.alloc _ _) ?_; clear hK K; refine X_al x ?_; generalize (World.later _ x).heap.size = bn; intro yn hn1 hn2 hn3 hn4 hn5; clear x) | refine W_tt ?_ | refine W_ff ?_ | refine W_test (fun hc => ?_) (fun hc => ?_) | go_step)
    refine Body_ret hd ⟨_, rfl, hE, b1, b2, b5, bn, m, rfl, hv2.out.k1.lt, hv2.out.k2.lt, hv2.out.k5.lt, hB.lt, hv2.out.n1, hv2.out.n2, hv2.out.n5, Nat.le_trans y.2.size hn1, hv2.out.nm, hv2.out.k1.cell (by omega), hv2.out.k2.cell (by omega), ?_, hv2.out.k5.cell (by omega), hv2.out.hm⟩
    exact (hB.cell (k := 0) (by omega)).trans rfl
end Go.Ws
