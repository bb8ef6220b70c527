/- Lemmas for the statement ReplicaAppends (joined texts); no condition. -/
import Derived.Test.YtlpjgegbdmkmdaaGreatKReplicaAppends06
namespace Go.Ws
open Go Go.RowKit Go.Proofs
set_option maxHeartbeats 2000000
set_option maxRecDepth 100000
set_option linter.unusedVariables false
set_option linter.unusedSimpArgs false

/-- An answer. -/
structure Reply where
  epoch : Int
  base : Int
  last : Int
  cut : Bool
  cutEpoch : Int
  cutEnd : Int
  entries : List Ent
  high : Int
abbrev Reply.cs (p : Reply) (u : Value) : List Value := [.int .i64 p.epoch, .int .i64 p.base, .int .i64 p.last, .bool p.cut, .int .i64 p.cutEpoch, .int .i64 p.cutEnd, u, .int .i64 p.high]
abbrev Reply.v (p : Reply) (u : Value) : Value := .agg #[.int .i64 p.epoch, .int .i64 p.base, .int .i64 p.last, .bool p.cut, .int .i64 p.cutEpoch, .int .i64 p.cutEnd, u, .int .i64 p.high]
def Reply.zero : Reply := ⟨0, 0, 0, false, 0, 0, [], 0⟩
def RepS.fetchMay (s : RepS) (f : Fetch) (most : Int) : Bool :=
  inB f.src 0 3 && (f.src != s.self) && decide (0 ≤ f.epoch) && decide (0 ≤ f.offset) && decide (0 ≤ f.last) && decide (0 ≤ f.flushed) && decide (f.flushed ≤ f.offset) && decide (0 ≤ most)
def RepS.serveNo (s : RepS) (f : Fetch) (most : Int) : Int := if s.fetchMay f most = false then 2 else if s.role ≠ 3 then 211 else if f.epoch ≠ s.epoch then 210 else 0
def RepS.serve (s : RepS) (f : Fetch) (most : Int) : RepS :=
  if s.serveNo f most ≠ 0 then s else if fitsE s.log f.offset f.last = true then ({ s with known := setK s.known f.src.toNat (gmax (s.known f.src.toNat) f.flushed) } : RepS).count else s
def RepS.reply (s : RepS) (f : Fetch) (most : Int) : Reply :=
  if s.serveNo f most ≠ 0 then Reply.zero else
  if fitsE s.log f.offset f.last = true then ⟨s.epoch, f.offset, f.last, false, 0, 0, (s.log.drop f.offset.toNat).take (gmin most 4096).toNat, (s.serve f most).high⟩
  else ⟨s.epoch, f.offset, f.last, true, lastE (s.log.take (aboveE s.log f.last)), aboveE s.log f.last, [], s.high⟩
theorem reply_zero_cs {k : Nat} (hk : k < (Reply.zero.cs (.slice none 0 0)).length) {E : TypeId} {g : Nat → Value} (hg : g = fun k => #[Value.int .i64 0, .int .i64 0, .int .i64 0, .bool false, .int .i64 0, .int .i64 0, .slice none 0 0, .int .i64 0].getD k undef) : (Reply.zero.cs (.slice none 0 0))[k]? = some (g k) := by
  subst hg
  simp only [List.length_cons, List.length_nil] at hk
  obtain rfl | rfl | rfl | rfl | rfl | rfl | rfl | rfl : k = 0 ∨ k = 1 ∨ k = 2 ∨ k = 3 ∨ k = 4 ∨ k = 5 ∨ k = 6 ∨ k = 7 := by omega
  all_goals rfl
theorem count_log (s : RepS) : s.count.log = s.log ∧ s.count.epoch = s.epoch ∧ s.count.self = s.self ∧ s.count.least = s.least ∧ s.count.flushed = s.flushed ∧ s.count.role = s.role := by unfold RepS.count; split <;> exact ⟨rfl, rfl, rfl, rfl, rfl, rfl⟩
theorem Rd.sliceE {w : World} {xs : List Ent} {A : Option Addr} {n c i j : Nat} (h : RdE w (.slice A n c) xs) (hij : i ≤ j) (hj : j ≤ xs.length) : RdE w (.slice (if c = i then A else A.map (fun x => x.add (i * 6))) (j - i) (c - i)) ((xs.drop i).take (j - i)) := by
  have hn := h.length
  obtain ⟨A', c', h1, h2, h3, h4⟩ := h
  cases h1
  have hl : ((xs.drop i).take (j - i)).length = j - i := by simp; omega
  refine ⟨_, _, by rw [hl], by rw [hl]; omega, by omega, ?_⟩
  rcases h4 with ⟨rfl, rfl⟩ | ⟨b, o, rfl, hb, hr⟩
  · left; exact ⟨by split <;> rfl, by simp⟩
  · right
    by_cases hc : c = i
    · refine ⟨b, o, by rw [if_pos hc], hb, ?_⟩
      intro k x hx j' u hu
      have : (xs.drop i).take (j - i) = [] := by rw [List.drop_eq_nil_of_le (by omega)]; simp
      rw [this] at hx; cases hx
    · refine ⟨b, o + i * 6, ?_, hb, (hr.drop i).take _⟩
      rw [if_neg hc]
      simp [Addr.add]
theorem reply_cs {p : Reply} {u : Value} {g : Nat → Value} (h : g 0 = .int .i64 p.epoch ∧ g 1 = .int .i64 p.base ∧ g 2 = .int .i64 p.last ∧ g 3 = .bool p.cut ∧ g 4 = .int .i64 p.cutEpoch ∧ g 5 = .int .i64 p.cutEnd ∧ g 6 = u ∧ g 7 = .int .i64 p.high) {k : Nat} (hk : k < (p.cs u).length) : (p.cs u)[k]? = some (g k) := by
  obtain ⟨h0, h1, h2, h3, h4, h5, h6, h7⟩ := h
  simp only [List.length_cons, List.length_nil] at hk
  obtain rfl | rfl | rfl | rfl | rfl | rfl | rfl | rfl : k = 0 ∨ k = 1 ∨ k = 2 ∨ k = 3 ∨ k = 4 ∨ k = 5 ∨ k = 6 ∨ k = 7 := by omega
  · rw [h0]; rfl
  · rw [h1]; rfl
  · rw [h2]; rfl
  · rw [h3]; rfl
  · rw [h4]; rfl
  · rw [h5]; rfl
  · rw [h6]; rfl
  · rw [h7]; rfl
theorem serve_rep {w : World} {b : Nat} {F : Nat → Prop} {s : RepS} (h : Rep w b F s) (hs : s.least ≠ 0) (hm : mayE s.log = true) (hl : s.log.length ≤ 4096) (hc : Bks s.counts) (f : Fetch) (most : Int) :
    Ret Tryz.prog 23 #[.pointer (some ⟨b, 0, none⟩), f.v, .int .i64 most] w fun r w' => (∃ u, r = .tuple #[(s.reply f most).v u, .int .i64 (s.serveNo f most)] ∧ OwnE w' u (s.reply f most).entries ∧ ∀ k, u.ownBlock = some k → w.heap.size ≤ k) ∧ Mod F w w' ∧ Rep w' b (fun k => F k ∨ w.heap.size ≤ k) (s.serve f most) := by
  refine h.tight (R := fun r w' => ∃ u, r = .tuple #[(s.reply f most).v u, .int .i64 (s.serveNo f most)] ∧ OwnE w' u (s.reply f most).entries ∧ ∀ k, u.ownBlock = some k → w.heap.size ≤ k) ?_
  intro F h hFW
  have hFb := Lib.hid h.own
  have HFW := Lib.hid hFW
  clear hFW
  have HP0 := h
  obtain ⟨uL, uI, uC, h, hf⟩ := h.ex
  have H0 := h
  have HFF := Lib.hid hf
  obtain ⟨A1, c1, rfl, hc1, hc2, -⟩ := h.rdL.ent
  have HLT := Lib.hid h.lt
  have hbw := h.blk.lt
  have HP := Lib.hid HP0
  have H := Lib.hid H0
  clear h hf H0 HP0
  refine Fn_ofD Tryz.func23 rfl (Nat.le_of_ble_eq_true rfl) ?_; intro A hd hA; simp only [ix, Nat.reduceAdd]; replace hA : A.tmps.size = 156 := hA
  repeat' (first | refine X_nil ?_ | refine W_seqk (fun K hK => ?_) | refine W_seqr ?_ | (refine X_s (fun x K hK => ?_); go_simp; refine hK _ _ (Ext.alloc _ _) ?_; clear hK K; refine X_al x ?_; generalize (World.later _ x).heap.size = bn; intro yn hn1 hn2 hn3 hn4 hn5; clear x) | go_step)
  rename_i bf yf f1 f2 f3 f4 f5 bp yp p1 p2 p3 p4 p5
  refine X_defc (be := bn) hd hA (fun W hE => by unfold execOp caughtD; go_simp) ?_; have hbe := Lib.hid (Blk.one hn5.out); clear hd hA A; intro A hd hA; obtain ⟨be, hbe0⟩ : ∃ be : Nat, be = bn := ⟨_, rfl⟩; subst hbe0
  have hE : Ext w (((w.later yf).later yp).later yn) := by simp
  have HX := Lib.hid ((Blk.new f5.out).later (Ext.trans yp.ext yn.ext))
  have HY := Lib.hid ((Blk.new p5.out).later yn.ext)
  have h1 := yf.2.size
  have h2 := yp.2.size
  have hbfb : b < bf := by omega
  have hbpf : bf < bp := by omega
  have hbep : bp < be := by omega
  have hwf : w.heap.size ≤ bf := f1
  have HBE := Lib.hid hbe.out
  clear hbe
  generalize World.later _ yn = W at *
  clear f1 f2 f3 f4 f5 p1 p2 p3 p4 p5 hn1 hn2 hn3 hn4 hn5 h1 h2 yn yp yf
  have HP1 := Lib.hid (HP.out.later hE)
  have H1 := Lib.hid (H.out.later hE)
  have HE := Lib.hid hE
  obtain ⟨hlt, -, -, d2, -, d8, d9, d10, d11, d12, d13, d14⟩ := H1.out.cells
  have hx := HX.out.lt
  have x0 := HX.out.cell (k := 0) (by simp)
  have x1 := HX.out.cell (k := 1) (by simp)
  have x2 := HX.out.cell (k := 2) (by simp)
  have x3 := HX.out.cell (k := 3) (by simp)
  have x4 := HX.out.cell (k := 4) (by simp)
  simp at x0 x1 x2 x3 x4
  clear hE
  repeat' (first | refine X_pure Tryz.func33 (none_of HP1.out hs) ?_ | refine X_pure Tryz.func50 (must_ok _) ?_ | refine X_q ?_ | refine X_nil ?_ | refine W_seqk (fun K hK => ?_) | refine W_seqr ?_ | go_step)
  by_cases g1 : s.fetchMay f most = true
  · have g1' := g1
    simp only [RepS.fetchMay, Bool.and_eq_true] at g1'
    obtain ⟨⟨⟨⟨⟨⟨⟨g11, g12⟩, g13⟩, g14⟩, g15⟩, g16⟩, g17⟩, g18⟩ := g1'
    refine W_drawσ [(0, 0), (1, 0), (2, 1), (3, 0), (4, 0), (5, 0), (6, 0), (7, 0), (8, 0), (9, 0), (10, 0), (11, 0), (12, 0), (13, 0), (14, 0), (15, 0), (16, 0), (17, 0), (18, 0), (19, 0), (20, 0), (21, 0), (22, 0), (23, 0), (24, 0), (25, 0), (26, 0), (27, 0), (28, 0), (29, 0), (30, 0), (31, 0), (32, 0), (33, 0), (34, 0), (35, 0), (36, 0), (37, 0), (38, 0), (39, 0), (40, 0), (41, 0), (42, 0), (43, 1)] (by kernel_rfl) (by kernel_rfl) ?_
    repeat' (first | (refine X_pure1 Tryz.func50 (fun _ => must_ok 2) ?_) | (refine X_pure1 Tryz.func32 (fun _ => g11 ▸ broker_calls f.src _) ?_) | refine X_gt ?_ | refine X_q ?_ | refine X_niln ?_ | refine W_seqk (fun K hK => ?_) | refine W_seqr ?_ | go_step)
    by_cases g2 : s.role = 3
    · have g2b : (s.role == 3) = true := by simp [g2]
      repeat' (first | refine X_pure Tryz.func50 (must_ok _) ?_ | refine X_nil ?_ | refine W_seqk (fun K hK => ?_) | go_step)
      by_cases g3 : f.epoch = s.epoch
      · have g3b : (f.epoch == s.epoch) = true := by simp [g3]
        refine W_drawσ [(0, 0), (1, 0), (2, 0), (3, 0), (4, 0), (5, 0), (6, 0), (7, 1)] (by kernel_rfl) (by kernel_rfl) ?_
        repeat' (first | (refine X_pure1 Tryz.func50 (fun _ => must_ok 210) ?_) | refine X_q ?_ | refine X_niln ?_ | refine W_seqk (fun K hK => ?_) | go_step)
        refine W_draw (by kernel_rfl) (by kernel_rfl) ?_
        repeat' (first | refine X_q ?_ | refine X_niln ?_ | (refine X_var (fun yn bn hn1 hn2 hn3 hn4 hn5 => ?_)) | refine W_seqk (fun K hK => ?_) | go_step)
        obtain ⟨bo, hbo0⟩ : ∃ bo : Nat, bo = bn := ⟨_, rfl⟩
        subst hbo0
        have hE2 : Ext W (W.later yn) := yn.ext
        have HO := Lib.hid (Blk.new hn5.out)
        have hboW : W.heap.size ≤ bo := hn1
        generalize World.later W yn = W2 at *
        clear hn1 hn2 hn3 hn4 hn5 yn
        have H2 := Lib.hid (H1.out.later hE2)
        have HBE2 := Lib.hid (HBE.out.later hE2)
        have HY2 := Lib.hid (HY.out.later hE2)
        have HE2 := Lib.hid (Ext.trans HE.out hE2)
        have hbeW := HBE.out.lt
        clear hlt d2 d8 d9 d10 d11 d12 d13 d14
        obtain ⟨hlt, -, -, d2, -, d8, d9, d10, d11, d12, d13, d14⟩ := H2.out.cells
        have z0 := (cell?_mod hE2 hx (fun h => h)).trans x0
        have z1 := (cell?_mod hE2 hx (fun h => h)).trans x1
        have z2 := (cell?_mod hE2 hx (fun h => h)).trans x2
        have z3 := (cell?_mod hE2 hx (fun h => h)).trans x3
        have z4 := (cell?_mod hE2 hx (fun h => h)).trans x4
        clear x0 x1 x2 x3 x4
        have hx2 : bf < W2.heap.size := Nat.lt_of_lt_of_le hx hE2.size
        clear hx hE2
        have hap : s.serveNo f most = 0 := by unfold RepS.serveNo; rw [if_neg (by simp [g1]), if_neg (by simp [g2]), if_neg (by simp [g3])]
        have HAP := Lib.hid hap
        have hf3 : 0 ≤ f.last := by simpa using g15
        have hf2 : 0 ≤ f.offset := by simpa using g14
        have hfit := fun (W : World) (h : RdE W (.slice A1 s.log.length c1) s.log) => efits_calls s.log _ f.offset f.last W h hf2 hf3 hm
        have hfd := fun (W : World) (h : RdE W (.slice A1 s.log.length c1) s.log) => end_calls s.log _ f.last W h hf3 hm
        clear hap
        by_cases g4 : fitsE s.log f.offset f.last = true
        · rw [g4] at hfit
          have HFI := Lib.hid hfit
          clear hfit hfd
          refine W_draw (by kernel_rfl) (by kernel_rfl) ?_
          repeat' (first | refine X_pure Tryz.func60 (HFI.out _ (H2.out.rdL.later (by simp))) ?_ | refine X_q ?_ | refine X_niln ?_ | refine X_nil ?_ | refine W_seqk (fun K hK => ?_) | refine W_seqr ?_ | refine W_ff ?_ | go_step)
          obtain ⟨hs0, hs4⟩ : 0 ≤ f.src ∧ f.src < 4 := by simp [inB] at g11; omega
          have hkn := H2.out.knownAt f.src.toNat (by omega)
          refine W_draw (by kernel_rfl) (by kernel_rfl) ?_
          repeat' (first | refine X_q ?_ | fail)
          refine X_store (off := 4 + f.src.toNat) H2.out.blk (fun W3 hM3 hB3 => ?_)
          have hgm : (if s.known f.src.toNat < f.flushed then f.flushed else s.known f.src.toNat) = gmax (s.known f.src.toNat) f.flushed := rfl
          have h3 := H2.out.putKnown (i := f.src.toNat) (by omega) hM3 hB3
          rw [hgm] at h3
          have H3 := Lib.hid h3
          have HR3 : Hid (Rep W3 b F ({ s with known := setK s.known f.src.toNat (gmax (s.known f.src.toNat) f.flushed) } : RepS)) := Lib.hid ⟨_, _, _, H3.out, HFF.out⟩
          have HO3 := Lib.hid (HO.out.mod hM3 (fun h => by omega))
          have HBE3 := Lib.hid (HBE2.out.mod hM3 (fun h => by omega))
          have HY3 := Lib.hid (HY2.out.mod hM3 (fun h => by omega))
          have HM3 : Hid (Mod F w W3) := Lib.hid (Mod.trans HE2.out hM3 (fun _ _ h => h.elim) (fun k _ h => by subst h; exact hFb.out))
          have y2 := (cell?_mod hM3 (o := 2) hx2 (fun h => by omega)).trans z2
          have hx3 : bf < W3.heap.size := Nat.lt_of_lt_of_le hx2 hM3.size
          clear hlt d2 d8 d9 d10 d11 d12 d13 d14 z0 z1 z2 z3 z4 hx2 hM3 hB3 h3 hgm hkn
          generalize hq0 : ({ s with known := setK s.known f.src.toNat (gmax (s.known f.src.toNat) f.flushed) } : RepS) = q0 at *
          have hql : q0.log = s.log := by rw [← hq0]
          have hqc : q0.counts = s.counts := by rw [← hq0]
          have HQ0 := Lib.hid hq0
          clear hq0
          repeat' (first | refine X_q ?_ | refine X_niln ?_ | refine W_seqk (fun K hK => ?_) | refine W_seqr ?_ | go_step)
          refine X_ret Tryz.func54 (count_calls HR3.out (by rw [hqc]; exact hc)) (fun r W4 hR => ?_)
          have HM4 := Lib.hid hR.1
          have hR2 := hR.2
          have hcl := (count_log q0).1
          generalize hq : q0.count = q at *
          have hq1 : q.log = s.log := hcl.trans hql
          have HQ := Lib.hid hq
          have HR4 := Lib.hid hR2
          clear hR hcl hq
          obtain ⟨uL4, uI4, uC4, h4, hf4⟩ := hR2.ex
          obtain ⟨A4, c4, rfl, hc4, hc4m, -⟩ := h4.rdL.ent
          rw [hq1] at h4 hc4
          have hl4 := h4.rdL
          rw [hq1] at hl4
          have HL4 := Lib.hid hl4
          obtain ⟨hlt, -, -, d2, -, d8, d9, d10, d11, d12, d13, d14⟩ := h4.cells
          clear hR2 h4 hf4 hl4
          have x2 := (cell?_mod HM4.out (o := 2) hx3 (fun h => by have := HFW.out _ h; omega)).trans y2
          have hx4 : bf < W4.heap.size := Nat.lt_of_lt_of_le hx3 HM4.out.size
          clear hx3 y2
          have hfo : f.offset ≤ s.log.length := by
            unfold fitsE at g4
            simp only [Bool.and_eq_true, decide_eq_true_eq] at g4
            exact g4.1
          obtain ⟨i, hi⟩ : ∃ i : Nat, f.offset = i := ⟨f.offset.toNat, by omega⟩
          have hil : i ≤ s.log.length := by omega
          have hmo : 0 ≤ most := by simpa using g18
          obtain ⟨m, hmm⟩ : ∃ m : Nat, gmin most 4096 = m := ⟨(gmin most 4096).toNat, by rw [gmin_eq]; omega⟩
          have hmm' : (if (4096 : Int) < most then 4096 else most) = (m : Int) := hmm
          have HMM := Lib.hid hmm
          have hm4 : m ≤ 4096 := by rw [gmin_eq] at hmm; omega
          obtain ⟨j, hj⟩ : ∃ j : Nat, (if (i : Int) + (m : Int) < (s.log.length : Int) then (i : Int) + (m : Int) else (s.log.length : Int)) = (j : Int) := ⟨min (i + m) s.log.length, by split <;> omega⟩
          have hij : i ≤ j := by split at hj <;> omega
          have hjl : j ≤ s.log.length := by split at hj <;> omega
          have hji : j - i ≤ m ∧ (j - i = m ∨ j = s.log.length) := by split at hj <;> omega
          rw [hi] at x2
          clear hmm
          have hjc : j ≤ c4 := by omega
          repeat' (first | refine X_nil ?_ | go_step)
          refine W_draw (by kernel_rfl) (by kernel_rfl) ?_
          repeat' (first | refine X_q ?_ | fail)
          refine X_ret Tryz.func46 (cloneE_calls (HL4.out.sliceE hij hjl) (by simp; omega)) (fun u W5 hR => ?_)
          have HR5 := Lib.hid hR
          obtain ⟨hE5, -, -⟩ := hR
          have e14 := (cell?_mod hE5 (o := 14) hlt (fun h => h)).trans d14
          have hlt5 : b < W5.heap.size := Nat.lt_of_lt_of_le hlt hE5.size
          have hne : ∀ k, k < W2.heap.size → w.heap.size ≤ k → ¬ F k := fun k _ hk h => by have := HFW.out _ h; omega
          have hO5 : Blk W5 bo _ _ _ := (HO3.out.mod HM4.out (fun h => by have := HFW.out _ h; omega)).later hE5
          have hY5 : Blk W5 bp _ _ _ := (HY3.out.mod HM4.out (fun h => by have := HFW.out _ h; omega)).later hE5
          have hB5 : Blk W5 be _ _ _ := (HBE3.out.mod HM4.out (fun h => by have := HFW.out _ h; omega)).later hE5
          have hM5 : Mod F w W5 := (HM3.out.transG HM4.out).ext hE5
          have hR5 : Rep W5 b F q := HR4.out.later hE5
          have hbo4 : bo < W4.heap.size := Nat.lt_of_lt_of_le HO3.out.lt HM4.out.size
          have HO := Lib.hid hO5
          have HY5 := Lib.hid hY5
          have HBE5 := Lib.hid hB5
          have HM5 := Lib.hid hM5
          have HQ5 := Lib.hid hR5
          clear hlt d2 d8 d9 d10 d11 d12 d13 d14 hE5 hO5 hY5 hB5 hM5 hR5 hne x2 hx4 HL4 HM4 HR4
          obtain ⟨Ar, mr, cr, rfl⟩ := own_slice HR5.out.2.1
          have hf5 : ∀ k, (Value.slice Ar mr cr).ownBlock = some k → W4.heap.size ≤ k := HR5.out.2.2
          have HF5 := Lib.hid hf5
          clear hf5
          repeat' (first | refine X_q ?_ | fail)
          refine X_store (off := 6) HO.out (fun W6 hM6 hB6 => ?_)
          have HO := Lib.hid hB6
          have HM6 := Lib.hid hM6
          clear hM6 hB6
          have f14 := (cell?_mod HM6.out (o := 14) hlt5 (fun h => by omega)).trans e14
          have hlt6 : b < W6.heap.size := Nat.lt_of_lt_of_le hlt5 HM6.out.size
          clear e14 hlt5
          repeat' (first | refine X_q ?_ | refine X_niln ?_ | refine W_seqk (fun K hK => ?_) | refine W_seqr ?_ | go_step)
          refine X_store (off := 7) HO.out (fun W7 hM7 hB7 => ?_)
          have HO := Lib.hid hB7
          have HM7 := Lib.hid (HM6.out.transG hM7)
          clear hM7 hB7 f14 hlt6
          have o0 := HO.out.cell (k := 0) (by simp)
          have o1 := HO.out.cell (k := 1) (by simp)
          have o2 := HO.out.cell (k := 2) (by simp)
          have o3 := HO.out.cell (k := 3) (by simp)
          have o4 := HO.out.cell (k := 4) (by simp)
          have o5 := HO.out.cell (k := 5) (by simp)
          have o6 := HO.out.cell (k := 6) (by simp)
          have o7 := HO.out.cell (k := 7) (by simp)
          have hbo6 := HO.out.lt
          simp [put, Value.cells] at o0 o1 o2 o3 o4 o5 o6 o7
          repeat' (first | refine X_q ?_ | refine X_nil ?_ | refine W_seqk (fun K hK => ?_) | refine W_seqr ?_ | go_step)
          refine X_store (off := 0) (HY5.out.mod HM7.out (fun h => by omega)) (fun W8 hM8 hB8 => ?_)
          have HY8 := Lib.hid hB8
          have HBE8 := Lib.hid ((HBE5.out.mod HM7.out (fun h => by omega)).mod hM8 (fun h => by omega))
          have HM8 := Lib.hid (Mod.trans HM7.out hM8 (H := fun k => k = bo ∨ k = bp) (fun _ _ h => .inl h) (fun _ _ h => .inr h))
          clear hM8 hB8
          skip
          refine X_store (off := 0) HBE8.out (fun W9 hM9 hB9 => ?_)
          have HBE9 := Lib.hid hB9
          have HY9 := Lib.hid (HY8.out.mod hM9 (fun h => by omega))
          have HM9 := Lib.hid (Mod.trans HM8.out hM9 (H := fun k => k = bo ∨ k = bp ∨ k = be) (fun _ _ h => h.elim .inl (fun h => .inr (.inl h))) (fun _ _ h => .inr (.inr h)))
          clear hM9 hB9
          repeat' (first | refine X_nil ?_ | refine W_ret ?_ | go_step)
          have hsv : s.serve f most = q := by unfold RepS.serve; rw [if_neg (by rw [HAP.out]; decide), if_pos g4, HQ0.out]; exact HQ.out
          have hen : (s.log.drop f.offset.toNat).take (gmin most 4096).toNat = (s.log.drop i).take (j - i) := by
            rw [HMM.out, hi]
            show (s.log.drop (Int.toNat (i : Int))).take (Int.toNat (m : Int)) = _
            rw [Int.toNat_natCast, Int.toNat_natCast]
            rcases hji.2 with h | h
            · rw [h]
            · rw [List.take_of_length_le (by simp; omega), List.take_of_length_le (by simp; omega)]
          have hrp : s.reply f most = ⟨s.epoch, f.offset, f.last, false, 0, 0, (s.log.drop i).take (j - i), q.high⟩ := by unfold RepS.reply; rw [if_neg (by rw [HAP.out]; decide), if_pos g4, hsv, hen]
          have hnk : ∀ k, k < W4.heap.size → w.heap.size ≤ k → ∀ a, (Value.slice Ar mr cr).ownBlock = some a → a ≠ k := fun k hk _ a ha he => by have := HF5.out a ha; omega
          refine End_ok2r (cs := (s.reply f most).cs (.slice Ar mr cr)) hd (HBE9.out.congr (g' := fun _ => .int .i64 0) (fun k hk => by obtain rfl : k = 0 := (by omega); rfl)) HY9.out (fun k hk => reply_cs ?_ hk) ⟨⟨.slice Ar mr cr, by rw [HAP.out], ?_, ?_⟩, ?_, ?_⟩ Tryz.underlying49
          · rw [hrp]; refine ⟨?_, ?_, ?_, ?_, ?_, ?_, ?_, ?_⟩ <;> first | rfl | (show Value.int .i64 _ = _; rw [hi])
          · rw [hrp]; exact HR5.out.2.1.mod HM9.out (fun k hk h => by have := HF5.out k hk; omega)
          · intro k hk; have := HF5.out k hk; have := HE.out.size; omega
          · exact Mod.trans HM5.out HM9.out (fun _ _ h => h) (fun k hk h => by omega)
          · rw [hsv]; exact (HQ5.out.mod HM9.out (fun k hk h => by have := HFW.out _ hk; omega)).mono (fun k hk => .inl hk)
        · have g4f : fitsE s.log f.offset f.last = false := by simpa using g4
          rw [g4f] at hfit
          have HFI := Lib.hid hfit
          have HFD := Lib.hid hfd
          clear hfit hfd
          refine W_draw (by kernel_rfl) (by kernel_rfl) ?_
          repeat' (first | refine X_pure Tryz.func60 (HFI.out _ (H2.out.rdL.later (by simp))) ?_ | refine X_q ?_ | refine X_niln ?_ | refine X_nil ?_ | refine W_seqk (fun K hK => ?_) | refine W_seqr ?_ | refine W_tt ?_ | go_step)
          refine X_store (off := 3) HO.out (fun W3 hM3 hB3 => ?_)
          have HO := Lib.hid hB3
          have HE3 := Lib.hid (Ext.fresh HE2.out hM3 (fun k hk => by subst hk; omega))
          have HBE3 := Lib.hid (HBE2.out.mod hM3 (fun h => by omega))
          have HY3 := Lib.hid (HY2.out.mod hM3 (fun h => by omega))
          have H3 := Lib.hid (H.out.later HE3.out)
          have y3 := (cell?_mod hM3 (o := 3) hx2 (fun h => by omega)).trans z3
          have hx3 : bf < W3.heap.size := Nat.lt_of_lt_of_le hx2 hM3.size
          clear hlt d2 d8 d9 d10 d11 d12 d13 d14 z0 z1 z2 z3 z4 hx2 hM3 hB3
          obtain ⟨hlt, -, -, d2, -, d8, d9, d10, d11, d12, d13, d14⟩ := H3.out.cells
          repeat' (first | refine X_nil ?_ | go_step)
          refine W_draw (by kernel_rfl) (by kernel_rfl) ?_
          repeat' (first | refine X_pure Tryz.func61 (HFD.out _ (H3.out.rdL.later (by simp))) ?_ | refine X_q ?_ | fail)
          refine X_store (off := 4) HO.out (fun W4 hM4 hB4 => ?_)
          have HO := Lib.hid hB4
          have HM4 := Lib.hid hM4
          clear hM4 hB4
          repeat' (first | refine X_q ?_ | fail)
          refine X_store (off := 5) HO.out (fun W5 hM5 hB5 => ?_)
          have HO := Lib.hid hB5
          have HM5 := Lib.hid (HM4.out.transG hM5)
          clear hM5 hB5
          have e14 := (cell?_mod HM5.out (o := 14) hlt (fun h => by omega)).trans d14
          have hlt5 : b < W5.heap.size := Nat.lt_of_lt_of_le hlt HM5.out.size
          repeat' (first | refine X_q ?_ | refine X_niln ?_ | refine W_seqk (fun K hK => ?_) | refine W_seqr ?_ | go_step)
          refine X_store (off := 7) HO.out (fun W6 hM6 hB6 => ?_)
          have HO := Lib.hid hB6
          have HM6 := Lib.hid (HM5.out.transG hM6)
          clear hM6 hB6
          have o0 := HO.out.cell (k := 0) (by simp)
          have o1 := HO.out.cell (k := 1) (by simp)
          have o2 := HO.out.cell (k := 2) (by simp)
          have o3 := HO.out.cell (k := 3) (by simp)
          have o4 := HO.out.cell (k := 4) (by simp)
          have o5 := HO.out.cell (k := 5) (by simp)
          have o6 := HO.out.cell (k := 6) (by simp)
          have o7 := HO.out.cell (k := 7) (by simp)
          have hbo6 := HO.out.lt
          simp [put, Value.cells] at o0 o1 o2 o3 o4 o5 o6 o7
          repeat' (first | refine X_q ?_ | refine X_nil ?_ | refine W_seqk (fun K hK => ?_) | refine W_seqr ?_ | go_step)
          refine X_store (off := 0) (HY3.out.mod HM6.out (fun h => by omega)) (fun W7 hM7 hB7 => ?_)
          have HY7 := Lib.hid hB7
          have HM7 := Lib.hid (Ext.fresh (Ext.fresh HE3.out HM6.out (fun k hk => by omega)) hM7 (fun k hk => by omega))
          have HBE7 := Lib.hid ((HBE3.out.mod HM6.out (fun h => by omega)).mod hM7 (fun h => by omega))
          clear hM7 hB7
          skip
          refine X_store (off := 0) HBE7.out (fun W8 hM8 hB8 => ?_)
          have HBE8 := Lib.hid hB8
          have HY8 := Lib.hid (HY7.out.mod hM8 (fun h => by omega))
          have HE8 := Lib.hid (Ext.fresh HM7.out hM8 (fun k hk => by omega))
          clear hM8 hB8
          repeat' (first | refine X_nil ?_ | refine W_ret ?_ | go_step)
          have hrp : s.reply f most = ⟨s.epoch, f.offset, f.last, true, lastE (s.log.take (aboveE s.log f.last)), aboveE s.log f.last, [], s.high⟩ := by unfold RepS.reply; rw [if_neg (by rw [HAP.out]; decide), if_neg (by simp [g4f])]
          have hsv : s.serve f most = s := by unfold RepS.serve; rw [if_neg (by rw [HAP.out]; decide), if_neg (by simp [g4f])]
          refine End_ok2r (cs := (s.reply f most).cs (.slice none 0 0)) hd (HBE8.out.congr (g' := fun _ => .int .i64 0) (fun k hk => by obtain rfl : k = 0 := (by omega); rfl)) HY8.out (fun k hk => reply_cs ?_ hk) ⟨⟨.slice none 0 0, by rw [HAP.out], by rw [hrp]; exact Own.nil _, by intro k hk; cases hk⟩, HE8.out.mono (fun _ _ h => h.elim), ?_⟩ Tryz.underlying49
          · rw [hrp]; refine ⟨?_, ?_, ?_, ?_, ?_, ?_, ?_, ?_⟩ <;> rfl
          · rw [hsv]; exact (HP.out.later HE8.out).mono (fun k hk => .inl hk)
      · have g3b : (f.epoch == s.epoch) = false := by simp [g3]
        have hap : s.serveNo f most = 210 := by unfold RepS.serveNo; rw [if_neg (by simp [g1]), if_neg (by simp [g2]), if_pos g3]
        refine W_die [(0, 0), (1, 0), (2, 0), (3, 0), (4, 0), (5, 0), (6, 0)] 7 (by kernel_rfl) (by kernel_rfl) ?_
        repeat' (first | refine X_q ?_ | refine X_niln ?_ | fail)
        refine Dies_call Tryz.func50 (must_no 210) (fun c w' hC => ?_)
        obtain ⟨rfl, hE4⟩ := hC
        have hrp : s.reply f most = Reply.zero := by unfold RepS.reply; rw [hap, if_pos (by decide)]
        have hsv : s.serve f most = s := by unfold RepS.serve; rw [hap, if_pos (by decide)]
        refine End_no2r (cs := Reply.zero.cs (.slice none 0 0)) hd (HBE.out.later hE4) (HY.out.later hE4) (fun k hk => reply_zero_cs hk (E := 0) rfl) (by omega) (fun W1 hM => ?_) Tryz.underlying49
        have hM' := Ext.fresh (Ext.trans HE.out hE4) hM (fun k hk => by subst hk; omega)
        refine ⟨⟨.slice none 0 0, by rw [hap, hrp], by rw [hrp]; exact Own.nil _, by intro k hk; cases hk⟩, hM'.mono (fun _ _ h => h.elim), ?_⟩
        rw [hsv]
        exact (HP.out.later hM').mono (fun k hk => .inl hk)
    · have g2b : (s.role == 3) = false := by simp [g2]
      have hap : s.serveNo f most = 211 := by unfold RepS.serveNo; rw [if_neg (by simp [g1]), if_pos g2]
      skip
      refine X_die Tryz.func50 (must_no 211) (fun c w' hC => ?_)
      obtain ⟨rfl, hE4⟩ := hC
      have hrp : s.reply f most = Reply.zero := by unfold RepS.reply; rw [hap, if_pos (by decide)]
      have hsv : s.serve f most = s := by unfold RepS.serve; rw [hap, if_pos (by decide)]
      refine End_no2r (cs := Reply.zero.cs (.slice none 0 0)) hd (HBE.out.later hE4) (HY.out.later hE4) (fun k hk => reply_zero_cs hk (E := 0) rfl) (by omega) (fun W1 hM => ?_) Tryz.underlying49
      have hM' := Ext.fresh (Ext.trans HE.out hE4) hM (fun k hk => by subst hk; omega)
      refine ⟨⟨.slice none 0 0, by rw [hap, hrp], by rw [hrp]; exact Own.nil _, by intro k hk; cases hk⟩, hM'.mono (fun _ _ h => h.elim), ?_⟩
      rw [hsv]
      exact (HP.out.later hM').mono (fun k hk => .inl hk)

  · have g1f : s.fetchMay f most = false := by simpa using g1
    refine W_die [(0, 0), (1, 0), (2, 1), (3, 0), (4, 0), (5, 0), (6, 0), (7, 0), (8, 0), (9, 0), (10, 0), (11, 0), (12, 0), (13, 0), (14, 0), (15, 0), (16, 0), (17, 0), (18, 0), (19, 0), (20, 0), (21, 0), (22, 0), (23, 0), (24, 0), (25, 0), (26, 0), (27, 0), (28, 0), (29, 0), (30, 0), (31, 0), (32, 0), (33, 0), (34, 0), (35, 0), (36, 0), (37, 0), (38, 0), (39, 0), (40, 0), (41, 0), (42, 0)] 43 (by kernel_rfl) (by kernel_rfl) ?_
    repeat' (first | (refine X_pure1 Tryz.func32 (fun _ => broker_calls f.src _) ?_) | refine X_d (fun vb hvb => ?_) | refine X_q ?_ | refine X_g ?_ | refine X_niln ?_ | fail)
    repeat cases ‹Eqn _ _›
    refine Dies_call (lv := [.bool false, .int .i64 2]) Tryz.func50 (must_no 2) (fun c w' hC => ?_) (hlv := by exact congrArg (fun x => [Value.bool x, Value.int .i64 2]) g1f)
    obtain ⟨rfl, hE4⟩ := hC
    have hap : s.serveNo f most = 2 := by unfold RepS.serveNo; rw [if_pos g1f]
    have hrp : s.reply f most = Reply.zero := by unfold RepS.reply; rw [hap, if_pos (by decide)]
    have hsv : s.serve f most = s := by unfold RepS.serve; rw [hap, if_pos (by decide)]
    refine End_no2r (cs := Reply.zero.cs (.slice none 0 0)) hd (HBE.out.later hE4) (HY.out.later hE4) (fun k hk => reply_zero_cs hk (E := 0) rfl) (by omega) (fun W1 hM => ?_) Tryz.underlying49
    have hM' := Ext.fresh (Ext.trans HE.out hE4) hM (fun k hk => by subst hk; omega)
    refine ⟨⟨.slice none 0 0, by rw [hap, hrp], by rw [hrp]; exact Own.nil _, by intro k hk; cases hk⟩, hM'.mono (fun _ _ h => h.elim), ?_⟩
    rw [hsv]
    exact (HP.out.later hM').mono (fun k hk => .inl hk)
end Go.Ws
namespace Go.Ws
open Go Go.RowKit Go.Proofs
set_option maxHeartbeats 2000000
set_option maxRecDepth 100000
set_option linter.unusedVariables false
set_option linter.unusedSimpArgs false

def entsFrom : Int → List Ent → Bool
  | _, [] => true
  | last, x :: xs => decide (last ≤ x.ep) && rightB x && entsFrom x.ep xs
theorem entsFrom_cons (last : Int) (x : Ent) (xs : List Ent) : entsFrom last (x :: xs) = (decide (last ≤ x.ep) && rightB x && entsFrom x.ep xs) := rfl
def Reply.right (p : Reply) : Bool := entsFrom p.last p.entries && decide (0 ≤ p.epoch) && decide (0 ≤ p.base) && decide (0 ≤ p.last) && decide (0 ≤ p.cutEpoch) && decide (0 ≤ p.cutEnd) && decide (0 ≤ p.high)
theorem rightR_calls {w : World} {u : Value} {p : Reply} (hu : RdE w u p.entries) : Pure Tryz.prog 67 #[p.v u] w (.bool p.right) := by
  have HU := Lib.hid hu
  obtain ⟨A0, c, rfl, hc, hcm, HR⟩ := hu.ent
  clear hu
  refine Fn_of Tryz.func67 rfl (Nat.le_of_ble_eq_true rfl) ?_; intro A hd hA; simp only [ix, Nat.reduceAdd]; replace hA : A.tmps.size = 56 := hA
  repeat' (first | refine X_q ?_ | refine X_nil ?_ | refine W_seqk (fun K hK => ?_) | refine W_seqr ?_ | refine W_block ?_ | (refine X_s (fun x K hK => ?_); go_simp; refine hK _ _ (Ext.alloc _ _) ?_; clear hK K; refine X_al x ?_; generalize (World.later _ x).heap.size = bn; intro yn hn1 hn2 hn3 hn4 hn5; clear x) | go_step)
  have hbw : w.heap.size ≤ bn := hn1
  have HX := Lib.hid (Blk.new hn5.out)
  have hE : Ext w (w.later yn) := yn.ext
  generalize World.later w yn = W at *
  clear hn1 hn2 hn3 hn4 hn5 yn
  have hbx := HX.out.lt
  have HE := Lib.hid hE
  have x0 := HX.out.cell (k := 0) (by simp)
  have x1 := HX.out.cell (k := 1) (by simp)
  have x2 := HX.out.cell (k := 2) (by simp)
  have x4 := HX.out.cell (k := 4) (by simp)
  have x5 := HX.out.cell (k := 5) (by simp)
  have x6 := HX.out.cell (k := 6) (by simp)
  have x7 := HX.out.cell (k := 7) (by simp)
  simp at x0 x1 x2 x4 x5 x6 x7
  clear hE
  obtain ⟨bx, hbx0⟩ : ∃ bx : Nat, bx = bn := ⟨_, rfl⟩
  subst hbx0
  clear HR hcm hc
  obtain ⟨A1, c1, hA1, hc, hcm, HR⟩ := (HU.out.later HE.out).ent
  cases hA1
  skip
  refine W_loops [1, 2, 3, 9, 10, 11] (fun n vs w' => ∃ (k : Nat) (last : Int), Ext W w' ∧ k + n = p.entries.length ∧ vs = [.pointer (some ⟨bx, 0, none⟩), .bool false, .int .i64 last, .slice A0 p.entries.length c, .int .i64 p.entries.length, .int .i64 k] ∧ entsFrom last (p.entries.drop k) = entsFrom p.last p.entries) p.entries.length hd hA (by decide) ⟨0, p.last, by simp, by omega, by simp, by simp⟩ ?_
  clear hd hA A; intro n vs B w' hd hA _ ⟨k, last, hw, hk, hvs, hm⟩; subst hvs
  obtain ⟨y, rfl⟩ := hw.get
  clear hw
  simp only [List.zip_cons_cons, List.zip_nil_right, List.zip_nil_left]
  by_cases hlt : k < p.entries.length
  · obtain ⟨e, b, o, HE1, rfl, hb, c0, c1', c2, c3, c4, c5⟩ := HR.out k hlt
    have hki : (k : Int) < p.entries.length := by omega
    rw [drop_at HE1.out, entsFrom_cons] at hm
    have HM := Lib.hid hm
    clear hm
    by_cases h1 : last ≤ e.ep
    · have h1b : decide (e.ep < last) = false := by simpa using h1
      have h1n : ¬ e.ep < last := by omega
      repeat' (first | refine X_q ?_ | refine X_nil ?_ | (refine X_var (fun yn bn hn1 hn2 hn3 hn4 hn5 => ?_)) | refine W_seqk (fun K hK => ?_) | refine W_seqr ?_ | refine W_skip ?_ | refine W_block ?_ | refine W_tt ?_ | go_step)
      have hE1 : Ext W ((W.later y).later yn) := Ext.trans y.ext yn.ext
      have z : ∀ k, ((W.later y).later yn).cell? ⟨bn, k, none⟩ = e.cs.toArray[k]? := hn3
      have z0 := hn3 0
      have z1 := hn3 1
      have z2 := hn3 2
      have z3 := hn3 3
      have z4 := hn3 4
      have z5 := hn3 5
      simp at z0 z1 z2 z3 z4 z5
      have hbn := hn2
      generalize World.later _ yn = W2 at *
      clear hn1 hn2 hn3 hn4 hn5 yn y z c0 c1' c2 c3 c4 c5
      obtain ⟨G, hG⟩ : ∃ G : Nat → Prop, G = (fun k => W2.heap.size ≤ k) := ⟨_, rfl⟩
      have hGbn : ¬ G bn := by subst hG; simp; omega
      have HG := Lib.hid hG
      clear hG
      have hnew : ∀ x : Later W2, Ret Tryz.prog 55 #[] (W2.later x) (fun v w' => (∃ bt, v = .pointer (some ⟨bt, 0, none⟩) ∧ Ext W2 w' ∧ Tab w' bt G []) ∧ Mod G (W2.later x) w') := fun x =>
        (tabNew_calls (W2.later x)).mono fun v w' hR => by
          obtain ⟨bt, h1, h2, h3⟩ := hR
          exact ⟨⟨bt, h1, Ext.trans x.2 h2, h3.mono (fun k hk => by rw [HG.out]; exact Nat.le_trans x.2.size hk)⟩, h2.mod⟩
      have HNEW := Lib.hid hnew
      clear hnew
      have happ : ∀ (W3 : World) (bt : Nat), Tab W3 bt G [] → Ext W2 W3 → ∀ x : Later W3, Ret Tryz.prog 56 #[.pointer (some ⟨bt, 0, none⟩), e.v] (W3.later x) (fun v w' => (v = .int .i64 (appendNo [] e) ∧ Ext W2 w') ∧ Mod G (W3.later x) w') := fun W3 bt hT hE x =>
        (tabAppend_calls (hT.later x.2) e).mono fun v w' hR => by
          exact ⟨⟨hR.1, Ext.fresh (Ext.trans hE x.2) hR.2.1 (fun k hk => by rw [HG.out] at hk; exact hk)⟩, hR.2.1⟩
      have HAPP := Lib.hid happ
      clear happ
      have HE1 := Lib.hid hE1
      clear hE1
      refine W_drawG G [(0, 0), (1, 3), (2, 0), (3, 0), (4, 0), (6, 0), (5, 1), (7, 1), (8, 0), (9, 0)] (by kernel_rfl) (by kernel_rfl) ?_
      repeat' (first | refine Y_gt ?_ | refine Y_q ?_ | refine Y_r ?_ | fail)
      refine Y_ret Tryz.func55 HNEW.out (fun v W3 hR => ?_)
      obtain ⟨bt, rfl, hE2, hT⟩ := hR
      obtain ⟨y2, rfl⟩ := hE2.get
      have HT := Lib.hid hT
      clear hE2 hT
      repeat' (first | refine Y_gt ?_ | fail)
      refine Y_ret Tryz.func56 (HAPP.out _ _ HT.out y2.2) (fun v W4 hR => ?_)
      obtain ⟨rfl, hE3⟩ := hR
      obtain ⟨y3, rfl⟩ := hE3.get
      clear hE3 HT y2
      by_cases h2 : rightB e = true
      · have hno : appendNo [] e = 0 := by rw [appendNo_nil, if_neg (by simp [h2])]
        rw [hno]
        repeat' (first | refine Y_gt ?_ | refine Y_q ?_ | refine Y_nil ?_)
        repeat' (first | refine X_q ?_ | refine X_nil ?_ | refine W_seqr ?_ | refine W_skip ?_ | refine W_ff ?_ | go_step)
        exact ⟨_, _, rfl, hd, hA, n - 1, by omega, k + 1, e.ep, Ext.trans HE1.out (by simp), by omega, by simp, by rw [← HM.out]; simp [h1, h2]⟩
      · have h2f : rightB e = false := by simpa using h2
        have hno : appendNo [] e = 2 := by rw [appendNo_nil, if_pos h2f]
        rw [hno]
        repeat' (first | refine Y_gt ?_ | refine Y_q ?_ | refine Y_nil ?_)
        repeat' (first | refine X_q ?_ | refine X_nil ?_ | refine W_seqk (fun K hK => ?_) | refine W_seqr ?_ | refine W_ret ?_ | refine W_tt ?_ | go_step)
        refine Body_ret hd ⟨?_, Ext.trans HE.out (Ext.trans HE1.out (by simp))⟩
        unfold Reply.right
        rw [← HM.out, h2f]; simp
    · have h1b : decide (e.ep < last) = true := by simpa using h1
      have h1n : e.ep < last := by omega
      repeat' (first | refine X_q ?_ | refine X_nil ?_ | (refine X_var (fun yn bn hn1 hn2 hn3 hn4 hn5 => ?_)) | refine W_seqk (fun K hK => ?_) | refine W_seqr ?_ | refine W_skip ?_ | refine W_block ?_ | refine W_tt ?_ | go_step)
      have z0 := hn3 0
      simp at z0
      have hbn := hn2
      have hE1 : Ext W ((W.later y).later yn) := Ext.trans y.ext yn.ext
      generalize World.later _ yn = W2 at *
      clear hn1 hn2 hn3 hn4 hn5 yn y c0 c1' c2 c3 c4 c5
      have HE1 := Lib.hid hE1
      clear hE1
      obtain ⟨G, hG⟩ : ∃ G : Nat → Prop, G = (fun k => W2.heap.size ≤ k) := ⟨_, rfl⟩
      have hGbn : ¬ G bn := by subst hG; simp; omega
      clear hG
      refine W_drawG G [(0, 0), (1, 3), (2, 0), (3, 0), (4, 0), (6, 0), (5, 1), (7, 1), (8, 0), (9, 0)] (by kernel_rfl) (by kernel_rfl) ?_
      repeat' (first | refine Y_gf ?_ | refine Y_q ?_ | refine Y_r ?_ | refine Y_nil ?_)
      repeat' (first | refine X_q ?_ | refine X_nil ?_ | refine W_seqk (fun K hK => ?_) | refine W_seqr ?_ | refine W_ret ?_ | refine W_tt ?_ | go_step)
      refine Body_ret hd ⟨?_, Ext.trans HE.out HE1.out⟩
      unfold Reply.right
      rw [← HM.out]; simp [h1]
  · obtain rfl : k = p.entries.length := by omega
    rw [List.drop_length] at hm
    have HM : Hid (entsFrom p.last p.entries = true) := Lib.hid (by rw [← hm]; rfl)
    clear hm
    repeat' (first | refine X_d (fun vb hvb => ?_) | refine X_q ?_ | refine X_g ?_ | refine X_nil ?_ | refine W_seqk (fun K hK => ?_) | refine W_seqr ?_ | refine W_ret ?_ | refine W_exit ?_ | refine W_ff ?_ | go_step)
    repeat cases ‹Eqn _ _›
    refine Body_ret hd ⟨?_, Ext.trans HE.out y.2⟩
    unfold Reply.right
    rw [HM.out, Bool.true_and]
end Go.Ws
namespace Go.Ws
open Go Go.RowKit Go.Proofs
set_option linter.unusedVariables false

theorem viewL_len (p : List Ent) : (viewL p).length ≤ p.length := by
  have := viewTo_len p (stableB p).toNat
  have h1 := stableB_le p
  unfold viewL
  omega
theorem mem_viewTo (p : List Ent) : ∀ (i : Nat) (x : Int), x ∈ viewTo p i ↔ ∃ k : Nat, x = k ∧ k < i ∧ ∃ e, p[k]? = some e ∧ e.kind = 1 ∧ seenB p e = true
  | 0, x => by simp [viewTo]
  | i + 1, x => by
    cases hx : p[i]? with
    | none =>
      rw [viewTo, hx]
      simp only
      rw [mem_viewTo p i x]
      constructor
      · rintro ⟨k, h1, h2, h⟩; exact ⟨k, h1, by omega, h⟩
      · rintro ⟨k, h1, h2, e, he, h⟩
        refine ⟨k, h1, ?_, e, he, h⟩
        rcases Nat.lt_or_ge k i with h3 | h3
        · exact h3
        · obtain rfl : k = i := by omega
          rw [hx] at he; cases he
    | some a =>
      rw [viewTo_succ hx, List.mem_append, mem_viewTo p i x]
      constructor
      · rintro (⟨k, h1, h2, h⟩ | h)
        · exact ⟨k, h1, by omega, h⟩
        · split at h
          · rename_i hc
            rw [Bool.and_eq_true, beq_iff_eq] at hc
            rw [List.mem_singleton] at h
            exact ⟨i, h, by omega, a, hx, hc.1, hc.2⟩
          · cases h
      · rintro ⟨k, h1, h2, e, he, h3, h4⟩
        rcases Nat.lt_or_ge k i with h5 | h5
        · exact .inl ⟨k, h1, h5, e, he, h3, h4⟩
        · obtain rfl : k = i := by omega
          rw [hx] at he; cases he
          right
          rw [if_pos (by rw [Bool.and_eq_true, beq_iff_eq]; exact ⟨h3, h4⟩), h1]
          simp
end Go.Ws
namespace Go.Ws
open Go Go.RowKit Go.Proofs
set_option maxHeartbeats 2000000
set_option maxRecDepth 100000
set_option linter.unusedVariables false
set_option linter.unusedSimpArgs false

/-- The entries at some places. -/
def pick (l : List Ent) (is : List Int) : List Ent := is.map fun i => l.getD i.toNat default
def RepS.vis (s : RepS) : List Ent := pick s.log (viewL (s.log.take s.high.toNat))
theorem viewL_get {p : List Ent} {k : Nat} {i : Int} (h : (viewL p)[k]? = some i) : ∃ n : Nat, i = n ∧ n < p.length := by
  have hm : i ∈ viewL p := List.mem_of_getElem? h
  unfold viewL at hm
  rw [mem_viewTo] at hm
  obtain ⟨n, hn, _, e, he, _⟩ := hm
  exact ⟨n, hn, (List.getElem?_eq_some_iff.1 he).1⟩
theorem visible_rep {w : World} {b : Nat} {F : Nat → Prop} {s : RepS} (h : Rep w b F s) (hs : s.least ≠ 0) (hok : ofNo s.log = 0) (hl : s.log.length ≤ 4096) (h0 : 0 ≤ s.high) (h1 : s.high ≤ s.log.length) :
    Ret Tryz.prog 28 #[.pointer (some ⟨b, 0, none⟩)] w fun v w' => Ext w w' ∧ OwnE w' v s.vis ∧ ∀ k, v.ownBlock = some k → w.heap.size ≤ k := by
  have HP := Lib.hid h
  obtain ⟨uL, uI, uC, h, hf⟩ := h.ex
  have H := Lib.hid h
  obtain ⟨A1, c1, rfl, hc1, hcm1, -⟩ := h.rdL.ent
  have hlt := h.blk.lt
  obtain ⟨-, -, -, -, -, -, -, -, -, d12, -, d14⟩ := h.cells
  clear h hf
  refine Fn_of Tryz.func28 rfl (Nat.le_of_ble_eq_true rfl) ?_; intro A hd hA; simp only [ix, Nat.reduceAdd]; replace hA : A.tmps.size = 40 := hA
  repeat' (first | refine X_pure Tryz.func33 (none_of HP.out hs) ?_ | refine X_q ?_ | refine X_nil ?_ | refine W_seqk (fun K hK => ?_) | refine W_seqr ?_ | refine W_skip ?_ | refine W_ff ?_ | go_step)
  refine W_draw (by kernel_rfl) (by kernel_rfl) ?_
  repeat' (first | refine X_q ?_ | fail)
  refine X_ret Tryz.func69 (visView_calls s.log _ s.high w H.out.rdL (by omega)) (fun r w1 hR => ?_)
  obtain ⟨hE1, -, -, hR⟩ := hR
  obtain ⟨u, rfl, hO, hF⟩ := hR hok (by omega)
  obtain ⟨y1, rfl⟩ := hE1.get
  have HO := Lib.hid (hO.rd (enc := ics) (k := 1) (fun _ => rfl))
  clear hE1 hR hO hF
  generalize hV : viewL (s.log.take s.high.toNat) = V at *
  have hvl : V.length ≤ 4096 := by
    rw [← hV]
    have := viewL_len (s.log.take s.high.toNat)
    have h2 : (s.log.take s.high.toNat).length ≤ s.log.length := by simp; omega
    omega
  have HV := Lib.hid hV
  clear hV
  obtain ⟨A2, c2, rfl, hc2, hcm2, HR2⟩ := HO.out.int
  repeat' (first | refine X_q ?_ | refine X_niln ?_ | refine X_nil ?_ | refine W_seqk (fun K hK => ?_) | refine W_seqr ?_ | refine W_block ?_ | go_step)
  refine W_loops [0, 5, 22, 23, 24] (fun n vs w' => ∃ (k : Nat) (y : Later w) (u : Value), w' = w.later y ∧ Ext (w.later y1) (w.later y) ∧ k + n = V.length ∧ vs = [.pointer (some ⟨b, 0, none⟩), u, .slice A2 V.length c2, .int .i64 V.length, .int .i64 k] ∧ OwnE (w.later y) u (pick s.log (V.take k)) ∧ ∀ b, u.ownBlock = some b → (w.later y1).heap.size ≤ b) V.length hd hA (by decide) ?_ ?_
  · exact ⟨0, y1, _, rfl, Ext.refl _, by omega, by simp, Own.nil _, by intro b hb; cases hb⟩
  clear hd hA A; intro n vs B w' hd hA _ ⟨k, y, u, hw, hE12, hk, hvs, hown, hfr⟩; subst hw hvs
  simp only [List.zip_cons_cons, List.zip_nil_right, List.zip_nil_left]
  have Ho := Lib.hid hown; clear hown
  have Hf := Lib.hid hfr; clear hfr
  by_cases hlt2 : k < V.length
  · obtain ⟨e, b2, o2, HE2, rfl, hb2, c20⟩ := HR2.out k hlt2
    have hk2i : (k : Int) < V.length := by omega
    have c20' := (cell?_mod hE12 hb2 (fun h => h)).trans c20
    have hb2' : b2 < (w.later y).heap.size := Nat.lt_of_lt_of_le hb2 hE12.size
    obtain ⟨m, rfl, hm⟩ := viewL_get (p := s.log.take s.high.toNat) (k := k) (i := e) (by rw [HV.out]; exact HE2.out)
    have hml : m < s.log.length := by have := (List.length_take_le s.high.toNat s.log); omega
    obtain ⟨A3, c3, hA3, -, -, HR3⟩ := H.out.rdL.ent
    cases hA3
    obtain ⟨e3, b3, o3, HE3, rfl, hb3, x0, x1, x2, x3, x4, x5⟩ := HR3.out m hml
    have hmi : (m : Int) < s.log.length := by omega
    have HT : Hid (pick s.log (V.take (k + 1)) = pick s.log (V.take k) ++ [e3]) := Lib.hid (by
      rw [take_snoc HE2.out]
      have := HE3.out
      simp [pick, this])
    have hpl : (pick s.log (V.take k)).length ≤ 4096 := by simp [pick]; omega
    clear HR2 HR3 c20 hb2
    repeat' (first | refine X_q ?_ | refine X_nil ?_ | refine W_seqk (fun K hK => ?_) | refine W_seqr ?_ | refine W_skip ?_ | refine W_block ?_ | (refine X_s (fun x K hK => ?_); go_simp; refine hK _ _ (Ext.alloc _ _) ?_; clear hK K; refine X_al x ?_; generalize (World.later _ x).heap.size = bn; intro yn hn1 hn2 hn3 hn4 hn5; clear x) | refine W_tt ?_ | go_step)
    refine X_push (w0 := w.later y1) (xs := pick s.log (V.take k)) (Ext.trans hE12 yn.ext) elemEnt (Ho.out.later yn.ext) Hf.out (Rd.one (x := e3) hn2 hn3 rfl) (by simp; omega) (by unfold maxLen; simp; omega) (fun y2 v' hO2 hF2 hN2 hM2 => ?_)
    have hE3 : Ext w (World.later _ y2) := Ext.trans y1.ext y2.ext
    have hE4 : Ext (w.later y1) (World.later _ y2) := y2.ext
    have HO2 := Lib.hid hO2
    have HF2 := Lib.hid hF2
    clear hO2 hF2 hN2 hM2
    generalize World.later _ y2 = W2 at *
    repeat' (first | refine X_q ?_ | refine X_nil ?_ | refine W_seqr ?_ | go_step)
    obtain ⟨y3, rfl⟩ := hE3.get
    exact ⟨_, _, rfl, hd, hA, n - 1, by omega, k + 1, y3, _, rfl, hE4, by omega, by simp, by rw [HT.out]; exact HO2.out, HF2.out⟩
  · obtain rfl : k = V.length := by omega
    repeat' (first | refine X_q ?_ | refine X_nil ?_ | refine W_seqk (fun K hK => ?_) | refine W_seqr ?_ | refine W_ret ?_ | refine W_exit ?_ | refine W_ff ?_ | go_step)
    refine Body_ret hd ⟨y.ext, ?_, fun k hk => ?_⟩
    · have := Ho.out
      rw [List.take_length] at this
      unfold RepS.vis
      rw [HV.out]; exact this
    · exact Nat.le_trans y1.ext.size (Hf.out k hk)
def hasE (l : List Ent) (id num seq : Int) : Bool := l.any fun e => (e.kind == 1) && (e.id == id) && (e.num == num) && (e.seq == seq)
theorem hasf_calls {w : World} {b1 b2 b3 : Nat} (e : Ent) (id num seq : Int) (h1 : b1 < w.heap.size) (h2 : b2 < w.heap.size) (h3 : b3 < w.heap.size) (c1 : w.cell? ⟨b1, 0, none⟩ = some (.int .i64 id)) (c2 : w.cell? ⟨b2, 0, none⟩ = some (.int .i64 num)) (c3 : w.cell? ⟨b3, 0, none⟩ = some (.int .i64 seq)) :
    Pure Tryz.prog 66 #[e.v, .pointer (some ⟨b1, 0, none⟩), .pointer (some ⟨b2, 0, none⟩), .pointer (some ⟨b3, 0, none⟩)] w (.bool ((e.kind == 1) && (e.id == id) && (e.num == num) && (e.seq == seq))) := by
  refine Fn_of Tryz.func66 rfl (Nat.le_of_ble_eq_true rfl) ?_; intro A hd hA; simp only [ix, Nat.reduceAdd]; replace hA : A.tmps.size = 27 := hA
  repeat' (first | refine X_d (fun vb hvb => ?_) | refine X_q ?_ | refine X_g ?_ | refine X_nil ?_ | refine W_seqk (fun K hK => ?_) | refine W_seqr ?_ | refine W_ret ?_ | (refine X_s (fun x K hK => ?_); go_simp; refine hK _ _ (Ext.alloc _ _) ?_; clear hK K; refine X_al x ?_; generalize (World.later _ x).heap.size = bn; intro yn hn1 hn2 hn3 hn4 hn5; clear x) | go_step)
  repeat cases ‹Eqn _ _›
  exact Body_ret hd ⟨rfl, by simp⟩
theorem indexHas_calls {w : World} {b1 b2 b3 : Nat} {v : Value} {l : List Ent} (hl : RdE w v l) (id num seq : Int) (h1 : b1 < w.heap.size) (h2 : b2 < w.heap.size) (h3 : b3 < w.heap.size) (c1 : w.cell? ⟨b1, 0, none⟩ = some (.int .i64 id)) (c2 : w.cell? ⟨b2, 0, none⟩ = some (.int .i64 num)) (c3 : w.cell? ⟨b3, 0, none⟩ = some (.int .i64 seq)) :
    Ret Tryz.prog 100 #[v, .func (.func 66) #[] #[.pointer (some ⟨b1, 0, none⟩), .pointer (some ⟨b2, 0, none⟩), .pointer (some ⟨b3, 0, none⟩)]] w fun v' w' => ∃ i : Int, v' = .int .i64 i ∧ decide (0 ≤ i) = hasE l id num seq ∧ Ext w w' := by
  have hl0 := Lib.hid hl
  have HC := Lib.hid (And.intro c1 (And.intro c2 c3))
  obtain ⟨A0, c, rfl, hc, hcm, HR⟩ := hl.ent
  clear hl c1 c2 c3
  refine Fn_of Tryz.func100 rfl (Nat.le_of_ble_eq_true rfl) ?_; intro A hd hA; simp only [ix, Nat.reduceAdd]; replace hA : A.tmps.size = 19 := hA
  repeat' (first | refine X_q ?_ | refine X_nil ?_ | refine W_seqk (fun K hK => ?_) | refine W_seqr ?_ | refine W_block ?_ | go_step)
  refine W_loops [0, 1, 7, 8] (fun n vs w' => ∃ (k : Nat), n + k = l.length ∧ vs = [.slice A0 l.length c, .func (.func 66) #[] #[.pointer (some ⟨b1, 0, none⟩), .pointer (some ⟨b2, 0, none⟩), .pointer (some ⟨b3, 0, none⟩)], .int .i64 l.length, .int .i64 k] ∧ Ext w w' ∧ hasE (l.take k) id num seq = false) l.length hd hA (by decide) ?_ ?_
  · exact ⟨0, by omega, by simp, Ext.refl w, rfl⟩
  clear hd hA A; intro n vs B w' hd hA _ ⟨k, hn, hvs, hM, hg⟩; subst hvs
  obtain ⟨y, rfl⟩ := hM.get
  have HG := Lib.hid hg
  clear hM hg
  simp only [List.zip_cons_cons, List.zip_nil_right, List.zip_nil_left]
  by_cases hlt : k < l.length
  · obtain ⟨e, b, o, HE, rfl, hb, x0, x1, x2, x3, x4, x5⟩ := HR.out k hlt
    have hki : (k : Int) < l.length := by omega
    have hst : Hid (hasE (l.take (k + 1)) id num seq = ((e.kind == 1) && (e.id == id) && (e.num == num) && (e.seq == seq))) := Lib.hid (by
      have := HG.out
      unfold hasE at *
      rw [take_snoc HE.out, List.any_append, this]; simp)
    have hmem : Hid (((e.kind == 1) && (e.id == id) && (e.num == num) && (e.seq == seq)) = true → hasE l id num seq = true) := Lib.hid (fun h => List.any_eq_true.2 ⟨e, mem_of_get HE.out, h⟩)
    have hq1 := (cell?_mod y.ext h1 (fun h => h)).trans HC.out.1
    have hq2 := (cell?_mod y.ext h2 (fun h => h)).trans HC.out.2.1
    have hq3 := (cell?_mod y.ext h3 (fun h => h)).trans HC.out.2.2
    have HC2 := Lib.hid (And.intro hq1 (And.intro hq2 hq3))
    clear hq1 hq2 hq3
    have hf := hasf_calls (w := w.later y) e id num seq (Nat.lt_of_lt_of_le h1 y.ext.size) (Nat.lt_of_lt_of_le h2 y.ext.size) (Nat.lt_of_lt_of_le h3 y.ext.size) HC2.out.1 HC2.out.2.1 HC2.out.2.2
    generalize ((e.kind == 1) && (e.id == id) && (e.num == num) && (e.seq == seq)) = t at *
    have HF := Lib.hid hf
    clear hf
    cases t with
    | true =>
      repeat' (first | refine X_q ?_ | refine X_nil ?_ | refine W_seqk (fun K hK => ?_) | refine W_seqr ?_ | refine W_skip ?_ | refine W_block ?_ | refine W_tt ?_ | go_step)
      refine X_valret (lv := [e.v]) (first := #[]) (captured := #[.pointer (some ⟨b1, 0, none⟩), .pointer (some ⟨b2, 0, none⟩), .pointer (some ⟨b3, 0, none⟩)]) (R := fun v' w' => v' = .bool true ∧ Ext _ w') Tryz.func66 HF.out (fun v' w' hR => ?_)
      obtain ⟨rfl, hE⟩ := hR
      obtain ⟨y', rfl⟩ := hE.get
      clear hE
      repeat' (first | refine X_q ?_ | refine X_nil ?_ | refine W_seqk (fun K hK => ?_) | refine W_seqr ?_ | refine W_ret ?_ | refine W_tt ?_ | go_step)
      exact Body_ret hd ⟨k, rfl, by rw [hmem.out rfl]; simp, by simp⟩
    | false =>
      repeat' (first | refine X_q ?_ | refine X_nil ?_ | refine W_seqk (fun K hK => ?_) | refine W_seqr ?_ | refine W_skip ?_ | refine W_block ?_ | refine W_tt ?_ | go_step)
      refine X_valret (lv := [e.v]) (first := #[]) (captured := #[.pointer (some ⟨b1, 0, none⟩), .pointer (some ⟨b2, 0, none⟩), .pointer (some ⟨b3, 0, none⟩)]) (R := fun v' w' => v' = .bool false ∧ Ext _ w') Tryz.func66 HF.out (fun v' w' hR => ?_)
      obtain ⟨rfl, hE⟩ := hR
      obtain ⟨y', rfl⟩ := hE.get
      clear hE
      repeat' (first | refine X_q ?_ | refine X_nil ?_ | refine W_seqr ?_ | refine W_skip ?_ | refine W_ff ?_ | go_step)
      exact ⟨_, _, rfl, hd, hA, n - 1, by omega, k + 1, by omega, by simp, by simp, hst.out⟩
  · obtain rfl : k = l.length := by omega
    have HH : Hid (hasE l id num seq = false) := Lib.hid (by have := HG.out; rw [List.take_length] at this; exact this)
    clear HG
    repeat' (first | refine X_q ?_ | refine X_nil ?_ | refine W_seqk (fun K hK => ?_) | refine W_seqr ?_ | refine W_ret ?_ | refine W_exit ?_ | refine W_ff ?_ | go_step)
    exact Body_ret hd ⟨-1, rfl, by rw [HH.out]; simp, by simp⟩
theorem containsHas_calls {w : World} {b1 b2 b3 : Nat} {v : Value} {l : List Ent} (hl : RdE w v l) (id num seq : Int) (h1 : b1 < w.heap.size) (h2 : b2 < w.heap.size) (h3 : b3 < w.heap.size) (c1 : w.cell? ⟨b1, 0, none⟩ = some (.int .i64 id)) (c2 : w.cell? ⟨b2, 0, none⟩ = some (.int .i64 num)) (c3 : w.cell? ⟨b3, 0, none⟩ = some (.int .i64 seq)) :
    Pure Tryz.prog 65 #[v, .func (.func 66) #[] #[.pointer (some ⟨b1, 0, none⟩), .pointer (some ⟨b2, 0, none⟩), .pointer (some ⟨b3, 0, none⟩)]] w (.bool (hasE l id num seq)) := by
  have hl0 := Lib.hid hl
  have HC := Lib.hid (And.intro c1 (And.intro c2 c3))
  obtain ⟨A0, c, rfl, -⟩ := hl.ent
  clear hl c1 c2 c3
  refine Fn_of Tryz.func65 rfl (Nat.le_of_ble_eq_true rfl) ?_; intro A hd hA; simp only [ix, Nat.reduceAdd]; replace hA : A.tmps.size = 9 := hA
  repeat' (first | refine X_q ?_ | refine X_nil ?_ | refine W_seqk (fun K hK => ?_) | refine W_seqr ?_ | go_step)
  refine X_ret Tryz.func100 (indexHas_calls hl0.out id num seq h1 h2 h3 HC.out.1 HC.out.2.1 HC.out.2.2) (fun r w1 hR => ?_)
  obtain ⟨i, rfl, hi, hE⟩ := hR
  obtain ⟨y1, rfl⟩ := hE.get
  have HI := Lib.hid hi
  clear hi hE
  repeat' (first | refine X_q ?_ | refine X_nil ?_ | refine W_ret ?_ | go_step)
  exact Body_ret hd ⟨congrArg Value.bool HI.out, by simp⟩
def RepS.has (s : RepS) (id num seq : Int) : Bool := hasE (s.log.take s.high.toNat) id num seq
theorem has_ok {w : World} {b : Nat} {F : Nat → Prop} {s : RepS} (h : Rep w b F s) (hs : s.least ≠ 0) (hr : s.role = 3) (h0 : 0 ≤ s.high) (h1 : s.high ≤ s.log.length) (id num seq : Int) :
    Ret Tryz.prog 25 #[.pointer (some ⟨b, 0, none⟩), .int .i64 id, .int .i64 num, .int .i64 seq] w fun v w' => v = .tuple #[.bool (s.has id num seq), .int .i64 0] ∧ Ext w w' := by
  have HP := Lib.hid h
  obtain ⟨uL, uI, uC, h, hf⟩ := h.ex
  have H := Lib.hid h
  obtain ⟨A1, c1, rfl, hc1, hcm1, -⟩ := h.rdL.ent
  have hbw := h.blk.lt
  clear h hf
  obtain ⟨m, hm⟩ : ∃ m : Nat, s.high = m := ⟨s.high.toNat, by omega⟩
  have hml : m ≤ s.log.length := by omega
  have hmc : m ≤ c1 := by omega
  have hrb : (s.role == 3) = true := by simp [hr]
  have hhas : s.has id num seq = hasE (s.log.take m) id num seq := by unfold RepS.has; rw [hm]; rfl
  rw [hhas]
  clear hhas
  refine Fn_ofD Tryz.func25 rfl (Nat.le_of_ble_eq_true rfl) ?_; intro A hd hA; simp only [ix, Nat.reduceAdd]; replace hA : A.tmps.size = 31 := hA
  repeat' (first | refine X_q ?_ | refine X_nil ?_ | refine W_seqk (fun K hK => ?_) | refine W_seqr ?_ | (refine X_s (fun x K hK => ?_); go_simp; refine hK _ _ (Ext.alloc _ _) ?_; clear hK K; refine X_al x ?_; generalize (World.later _ x).heap.size = bn; intro yn hn1 hn2 hn3 hn4 hn5; clear x) | go_step)
  rename_i x1 y1 p1 p2 p3 p4 p5 x2 y2 q1 q2 q3 q4 q5 x3 y3 r1 r2 r3 r4 r5
  refine X_defc (be := bn) hd hA (fun W hE => by unfold execOp caughtD; go_simp) ?_; have hbe := Lib.hid (Blk.one hn5.out); clear hd hA A; intro A hd hA; obtain ⟨be, hbe0⟩ : ∃ be : Nat, be = bn := ⟨_, rfl⟩; subst hbe0
  have hE : Ext w (((((w.later y1).later y2).later y3).later yn)) := by simp
  have e1 := (Blk.new p5.out).later (Ext.trans y2.ext (Ext.trans y3.ext yn.ext))
  have e2 := (Blk.new q5.out).later (Ext.trans y3.ext yn.ext)
  have e3 := (Blk.new r5.out).later yn.ext
  have HBE := Lib.hid hbe.out
  have hwbe : w.heap.size ≤ be := by have := y1.ext.size; have := y2.ext.size; have := y3.ext.size; omega
  clear hbe
  generalize World.later _ yn = W at *
  clear p1 p2 p3 p4 p5 q1 q2 q3 q4 q5 r1 r2 r3 r4 r5 hn1 hn2 hn3 hn4 hn5 yn y3 y2 y1
  have g1 := e1.lt
  have g2 := e2.lt
  have g3 := e3.lt
  have z1 := e1.cell (k := 0) (by simp)
  have z2 := e2.cell (k := 0) (by simp)
  have z3 := e3.cell (k := 0) (by simp)
  simp at z1 z2 z3
  have HZ := Lib.hid (And.intro z1 (And.intro z2 z3))
  have HE := Lib.hid hE
  have H1 := Lib.hid (H.out.later hE)
  have HP1 := Lib.hid (HP.out.later hE)
  clear e1 e2 e3 hE z1 z2 z3
  obtain ⟨hlt, -, -, -, -, -, -, d10, -, d12, -, d14⟩ := H1.out.cells
  rw [hm] at d14
  repeat' (first | refine X_pure Tryz.func33 (none_of HP1.out hs) ?_ | refine X_pure Tryz.func50 (must_ok _) ?_ | refine X_q ?_ | refine X_nil ?_ | refine W_seqk (fun K hK => ?_) | refine W_seqr ?_ | go_step)
  refine W_drawσ [(0, 0), (1, 0), (2, 0), (3, 0), (4, 0), (5, 0), (6, 0), (7, 0), (8, 0), (9, 0), (10, 1), (11, 0), (12, 2)] (by kernel_rfl) (by kernel_rfl) ?_
  repeat' (first | refine X_q ?_ | fail)
  refine X_pure1 Tryz.func65 (fun z => containsHas_calls ((H1.out.rdL.take m hml).later z.ext) id num seq (Nat.lt_of_lt_of_le g1 z.ext.size) (Nat.lt_of_lt_of_le g2 z.ext.size) (Nat.lt_of_lt_of_le g3 z.ext.size) ((cell?_mod z.ext g1 (fun h => h)).trans HZ.out.1) ((cell?_mod z.ext g2 (fun h => h)).trans HZ.out.2.1) ((cell?_mod z.ext g3 (fun h => h)).trans HZ.out.2.2)) ?_
  repeat' (first | refine X_q ?_ | fail)
  refine X_store (off := 0) HBE.out (fun W5 hM5 hB5 => ?_)
  have HB5 := Lib.hid hB5
  have HM5 := Lib.hid hM5
  clear hM5 hB5
  repeat' (first | refine X_niln ?_ | refine W_ret ?_ | go_step)
  refine End_okT hd (HB5.out.congr (g' := fun _ => .int .i64 0) (fun k hk => by obtain rfl : k = 0 := (by omega); rfl)) ⟨rfl, Ext.fresh HE.out HM5.out (fun k hk => by subst hk; exact hwbe)⟩
theorem has_no {w : World} {b : Nat} {F : Nat → Prop} {s : RepS} (h : Rep w b F s) (hs : s.least ≠ 0) (hr : s.role ≠ 3) (id num seq : Int) :
    Ret Tryz.prog 25 #[.pointer (some ⟨b, 0, none⟩), .int .i64 id, .int .i64 num, .int .i64 seq] w fun v w' => v = .tuple #[.bool false, .int .i64 211] ∧ Ext w w' := by
  have HP := Lib.hid h
  obtain ⟨uL, uI, uC, h, hf⟩ := h.ex
  have H := Lib.hid h
  have hbw := h.blk.lt
  clear h hf
  have hrb : (s.role == 3) = false := by simp [hr]
  refine Fn_ofD Tryz.func25 rfl (Nat.le_of_ble_eq_true rfl) ?_; intro A hd hA; simp only [ix, Nat.reduceAdd]; replace hA : A.tmps.size = 31 := hA
  repeat' (first | refine X_q ?_ | refine X_nil ?_ | refine W_seqk (fun K hK => ?_) | refine W_seqr ?_ | (refine X_s (fun x K hK => ?_); go_simp; refine hK _ _ (Ext.alloc _ _) ?_; clear hK K; refine X_al x ?_; generalize (World.later _ x).heap.size = bn; intro yn hn1 hn2 hn3 hn4 hn5; clear x) | go_step)
  rename_i x1 y1 p1 p2 p3 p4 p5 x2 y2 q1 q2 q3 q4 q5 x3 y3 r1 r2 r3 r4 r5
  refine X_defc (be := bn) hd hA (fun W hE => by unfold execOp caughtD; go_simp) ?_; have hbe := Lib.hid (Blk.one hn5.out); clear hd hA A; intro A hd hA; obtain ⟨be, hbe0⟩ : ∃ be : Nat, be = bn := ⟨_, rfl⟩; subst hbe0
  have hE : Ext w (((((w.later y1).later y2).later y3).later yn)) := by simp
  have HBE := Lib.hid hbe.out
  have hwbe : w.heap.size ≤ be := by have := y1.ext.size; have := y2.ext.size; have := y3.ext.size; omega
  clear hbe
  generalize World.later _ yn = W at *
  clear p1 p2 p3 p4 p5 q1 q2 q3 q4 q5 r1 r2 r3 r4 r5 hn1 hn2 hn3 hn4 hn5 yn y3 y2 y1
  have HE := Lib.hid hE
  have H1 := Lib.hid (H.out.later hE)
  have HP1 := Lib.hid (HP.out.later hE)
  clear hE
  obtain ⟨hlt, -, -, -, -, -, -, d10, -, d12, -, d14⟩ := H1.out.cells
  repeat' (first | refine X_pure Tryz.func33 (none_of HP1.out hs) ?_ | (refine X_pure Tryz.func50 (must_ok 1) ?_) | refine X_q ?_ | refine X_nil ?_ | refine W_seqk (fun K hK => ?_) | refine W_seqr ?_ | go_step)
  refine X_die Tryz.func50 (must_no 211) (fun c w' hC => ?_)
  obtain ⟨rfl, hE4⟩ := hC
  refine End_noT hd (HBE.out.later hE4) (fun W1 hM => ⟨rfl, Ext.fresh (Ext.trans HE.out hE4) hM (fun k hk => by subst hk; exact hwbe)⟩)
end Go.Ws
namespace Go.Ws
open Go Go.RowKit Go.Proofs
set_option maxHeartbeats 2000000
set_option maxRecDepth 100000
set_option linter.unusedVariables false
set_option linter.unusedSimpArgs false

def RepS.fitsNow (s : RepS) (p : Reply) : Bool := (p.epoch == s.epoch) && (p.base == (s.log.length : Int)) && (p.last == lastE s.log)
def RepS.takeNo (s : RepS) (p : Reply) : Int :=
  if p.right = false then 2 else if s.role ≠ 2 then 211 else if s.fitsNow p = false then 210 else if p.cut = true then 0 else if (4096 : Int) - s.log.length < p.entries.length then 3 else 0
def RepS.cutAt (s : RepS) (p : Reply) : Int := gmax 0 (gmin (min p.cutEnd (aboveE s.log p.cutEpoch : Int)) ((s.log.length : Int) - 1))
def RepS.take (s : RepS) (p : Reply) : RepS :=
  if s.takeNo p ≠ 0 then s else
  if p.cut = true then { s with log := s.log.take (s.cutAt p).toNat, flushed := gmin s.flushed (s.cutAt p), high := gmin s.high (s.cutAt p) }
  else { s with log := s.log ++ p.entries, high := gmax s.high (gmin p.high ((s.log.length + p.entries.length : Nat) : Int)) }
theorem take_rep {w : World} {b : Nat} {F : Nat → Prop} {s : RepS} (h : Rep w b F s) (hs : s.least ≠ 0) (hm : mayE s.log = true) (hl : s.log.length ≤ 4096) {u : Value} {p : Reply} (hu : RdE w u p.entries) (hul : p.entries.length ≤ 100000) :
    Ret Tryz.prog 27 #[.pointer (some ⟨b, 0, none⟩), p.v u] w fun r w' => r = .int .i64 (s.takeNo p) ∧ Mod F w w' ∧ Rep w' b (fun k => F k ∨ w.heap.size ≤ k) (s.take p) := by
  refine h.tight (R := fun r w' => r = .int .i64 (s.takeNo p)) ?_
  intro F h hFW
  have hFb := Lib.hid h.own
  have HFW := Lib.hid hFW
  clear hFW
  have HP0 := h
  obtain ⟨uL, uI, uC, h, hf⟩ := h.ex
  have H0 := h
  have HFF := Lib.hid hf
  obtain ⟨A1, c1, rfl, hc1, hc2, -⟩ := h.rdL.ent
  have HLT := Lib.hid h.lt
  have hbw := h.blk.lt
  have HP := Lib.hid HP0
  have H := Lib.hid H0
  have HU := Lib.hid hu
  obtain ⟨A0, c0, rfl, hc, hcm, -⟩ := hu.ent
  clear h hf H0 HP0 hu
  refine Fn_ofD Tryz.func27 rfl (Nat.le_of_ble_eq_true rfl) ?_; intro A hd hA; simp only [ix, Nat.reduceAdd]; replace hA : A.tmps.size = 133 := hA
  repeat' (first | refine X_nil ?_ | refine W_seqk (fun K hK => ?_) | refine W_seqr ?_ | (refine X_s (fun x K hK => ?_); go_simp; refine hK _ _ (Ext.alloc _ _) ?_; clear hK K; refine X_al x ?_; generalize (World.later _ x).heap.size = bn; intro yn hn1 hn2 hn3 hn4 hn5; clear x) | go_step)
  rename_i bp yp p1 p2 p3 p4 p5
  refine X_defc (be := bn) hd hA (fun W hE => by unfold execOp caughtD; go_simp) ?_; have hbe := Lib.hid (Blk.one hn5.out); clear hd hA A; intro A hd hA; obtain ⟨be, hbe0⟩ : ∃ be : Nat, be = bn := ⟨_, rfl⟩; subst hbe0
  have hE : Ext w ((w.later yp).later yn) := by simp
  have HX := Lib.hid ((Blk.new p5.out).later yn.ext)
  have h1 := yp.2.size
  have hbpb : b < bp := by omega
  have hbep : bp < be := by omega
  have hwp : w.heap.size ≤ bp := p1
  have HBE := Lib.hid hbe.out
  clear hbe
  generalize World.later _ yn = W at *
  clear p1 p2 p3 p4 p5 hn1 hn2 hn3 hn4 hn5 h1 yn yp
  have HP1 := Lib.hid (HP.out.later hE)
  have H1 := Lib.hid (H.out.later hE)
  have HE := Lib.hid hE
  have HU1 := Lib.hid (HU.out.later hE)
  obtain ⟨hlt, -, -, d2, -, d8, d9, d10, d11, d12, d13, d14⟩ := H1.out.cells
  have hx := HX.out.lt
  have x0 := HX.out.cell (k := 0) (by simp)
  have x1 := HX.out.cell (k := 1) (by simp)
  have x2 := HX.out.cell (k := 2) (by simp)
  have x3 := HX.out.cell (k := 3) (by simp)
  have x4 := HX.out.cell (k := 4) (by simp)
  have x5 := HX.out.cell (k := 5) (by simp)
  have x6 := HX.out.cell (k := 6) (by simp)
  have x7 := HX.out.cell (k := 7) (by simp)
  simp at x0 x1 x2 x3 x4 x5 x6 x7
  clear hE
  by_cases g1 : p.right = true
  · have HRI := Lib.hid (g1 ▸ rightR_calls HU1.out)
    repeat' (first | refine X_pure Tryz.func33 (none_of HP1.out hs) ?_ | refine X_pure Tryz.func50 (must_ok _) ?_ | refine X_pure Tryz.func67 (HRI.out) ?_ | refine X_q ?_ | refine X_nil ?_ | refine W_seqk (fun K hK => ?_) | refine W_seqr ?_ | go_step)
    have hpos : (0 ≤ p.cutEpoch ∧ 0 ≤ p.cutEnd) ∧ 0 ≤ p.high := by
      have := g1
      simp only [Reply.right, Bool.and_eq_true, decide_eq_true_eq] at this
      exact ⟨⟨this.1.1.2, this.1.2⟩, this.2⟩
    by_cases g2 : s.role = 2
    · have g2b : (s.role == 2) = true := by simp [g2]
      repeat' (first | refine X_pure Tryz.func50 (must_ok _) ?_ | refine X_nil ?_ | refine W_seqk (fun K hK => ?_) | go_step)
      by_cases g3 : s.fitsNow p = true
      · have g3' := g3
        simp only [RepS.fitsNow, Bool.and_eq_true] at g3'
        obtain ⟨⟨g31, g32⟩, g33⟩ := g3'
        refine W_drawσ [(0, 0), (1, 0), (2, 0), (3, 0), (4, 0), (5, 0), (6, 0), (7, 0), (8, 0), (9, 0), (10, 0), (11, 0), (12, 0), (13, 0), (14, 0), (15, 0), (16, 0), (17, 0), (18, 0), (19, 0), (20, 0), (21, 1), (22, 0), (23, 0), (24, 1)] (by kernel_rfl) (by kernel_rfl) ?_
        repeat' (first | (refine X_pure1 Tryz.func59 (fun x => rlast_calls (HP1.out.later (by simp)) hm) ?_) | (refine X_pure1 Tryz.func50 (fun _ => must_ok 210) ?_) | refine X_gt ?_ | refine X_q ?_ | refine X_niln ?_ | refine X_nil ?_ | refine W_seqk (fun K hK => ?_) | refine W_seqr ?_ | refine W_skip ?_ | refine W_test (fun hc => ?_) (fun hc => ?_) | go_step)
        · have g4 := hc
          clear hc
          have hap : s.takeNo p = 0 := by unfold RepS.takeNo; rw [if_neg (by simp [g1]), if_neg (by simp [g2]), if_neg (by simp [g3]), if_pos g4]
          have hcu := fun (W : World) (h : RdE W (.slice A1 s.log.length c1) s.log) => cut_calls s.log _ p.cutEpoch p.cutEnd W h hpos.1.1 hpos.1.2 hm
          have hab : aboveE s.log p.cutEpoch ≤ s.log.length := by unfold aboveE; exact (List.takeWhile_sublist _).length_le
          have hct : s.cutAt p = gmax 0 (gmin (min p.cutEnd (aboveE s.log p.cutEpoch : Int)) ((s.log.length : Int) - 1)) := rfl
          have hc0 : 0 ≤ min p.cutEnd (aboveE s.log p.cutEpoch : Int) ∧ min p.cutEnd (aboveE s.log p.cutEpoch : Int) ≤ s.log.length := by omega
          generalize min p.cutEnd (aboveE s.log p.cutEpoch : Int) = cc at *
          obtain ⟨n, hn⟩ : ∃ n : Nat, s.cutAt p = n := ⟨(s.cutAt p).toNat, by rw [hct, gmax_eq, gmin_eq]; omega⟩
          have hnl : n ≤ s.log.length := by rw [hct, gmax_eq, gmin_eq] at hn; omega
          have hnn : (if (0 : Int) < (if (s.log.length : Int) - 1 < cc then (s.log.length : Int) - 1 else cc) then (if (s.log.length : Int) - 1 < cc then (s.log.length : Int) - 1 else cc) else 0) = (n : Int) := by rw [← hn, hct]; unfold gmax gmin; rfl
          have hnc : n ≤ c1 := by omega
          have HN := Lib.hid hn
          have HCU := Lib.hid hcu
          have HAP := Lib.hid hap
          clear hcu hct hn hap hab
          refine W_draw (by kernel_rfl) (by kernel_rfl) ?_
          repeat' (first | refine X_pure Tryz.func68 (HCU.out _ (H1.out.rdL.later (by simp))) ?_ | refine X_q ?_ | refine X_niln ?_ | refine X_nil ?_ | refine W_seqk (fun K hK => ?_) | refine W_seqr ?_ | go_step)
          refine X_ret Tryz.func46 (cloneE_calls (H1.out.rdL.take n hnl) (by simp; omega)) (fun r W2 hR => ?_)
          have HR := Lib.hid hR
          obtain ⟨hE2, -, -⟩ := hR
          have H2 := Lib.hid (H1.out.later hE2)
          have HBE2 := Lib.hid (HBE.out.later hE2)
          have HE2 := Lib.hid (Ext.trans HE.out hE2)
          have hbe1 := HBE.out.lt
          clear hE2 hlt d2 d8 d9 d10 d11 d12 d13 d14 x0 x1 x2 x3 x4 x5 x6 x7 hx
          obtain ⟨Ar, mr, cr, rfl⟩ := own_slice HR.out.2.1
          have HFR : Hid (∀ k, (Value.slice Ar mr cr).ownBlock = some k → W.heap.size ≤ k) := Lib.hid HR.out.2.2
          have hWw := HE.out.size
          repeat' (first | refine X_q ?_ | fail)
          refine X_store (off := 12) H2.out.blk (fun W3 hM3 hB3 => ?_)
          have HA3 := Lib.hid (H2.out.putL hM3 hB3 (HR.out.2.1.mod hM3 (fun k hk he => by subst he; have := HFR.out _ hk; omega)) (fun hk => by have := HFR.out _ hk; omega) (fun k hk => ⟨fun h => by have := HFR.out _ hk; have := HLT.out k (.inr (.inr (.inl h))); omega, fun h => by have := HFR.out _ hk; have := HLT.out k (.inr (.inr (.inr h))); omega⟩))
          have HM := Lib.hid (Mod.trans HE2.out hM3 (fun _ _ h => h.elim) (fun _ _ h => h) : Mod (· = b) w W3)
          have HBE3 := Lib.hid (HBE2.out.mod hM3 (fun h => by omega))
          clear hM3 hB3
          obtain ⟨hlt1, -, -, -, -, -, -, -, -, -, e13, e14⟩ := HA3.out.cells
          have hmin1 : (if (n : Int) < s.high then (n : Int) else s.high) = gmin s.high n := rfl
          have hmin2 : (if (n : Int) < s.flushed then (n : Int) else s.flushed) = gmin s.flushed n := rfl
          repeat' (first | refine X_nil ?_ | refine W_seqk (fun K hK => ?_) | go_step)
          obtain ⟨G, hG⟩ : ∃ G : Nat → Prop, G = (fun k => k = b) := ⟨_, rfl⟩
          have HGb : Hid (G b) := Lib.hid (by subst hG; rfl)
          clear hG
          refine W_drawG G [(0, 0), (1, 0), (2, 0), (3, 0), (4, 0), (5, 3), (6, 0), (7, 0), (8, 0), (9, 0), (10, 0), (11, 3), (12, 0), (13, 0), (14, 0), (15, 0), (16, 2), (17, 0), (18, 0), (19, 2)] (by kernel_rfl) (by kernel_rfl) ?_
          repeat' (first | refine Y_q ?_ | refine Y_r ?_ | fail)
          refine Y_store (off := 13) HA3.out.blk HGb.out (fun W4 hM4 hG4 hB4 => ?_)
          have HA4 := Lib.hid (HA3.out.putFlu hM4 hB4)
          have HM := Lib.hid (HM.out.transG hM4)
          have HBE4 := Lib.hid (HBE3.out.mod hM4 (fun h => by omega))
          clear hM4 hB4 hG4
          repeat' (first | refine Y_q ?_ | fail)
          refine Y_store (off := 14) HA4.out.blk HGb.out (fun W5 hM5 hG5 hB5 => ?_)
          have HA5 := Lib.hid (HA4.out.putHigh hM5 hB5)
          have HM := Lib.hid (HM.out.transG hM5)
          have HBE5 := Lib.hid (HBE4.out.mod hM5 (fun h => by omega))
          clear hM5 hB5 hG5
          repeat' (first | refine Y_nil ?_)
          repeat' (first | refine W_seqk (fun K hK => ?_) | refine W_seqr ?_ | go_step)
          refine X_store (off := 0) HBE5.out (fun W6 hM6 hB6 => ?_)
          have HA6 := Lib.hid (HA5.out.mod hM6 (fun k hk he => by
            subst he
            rcases hk with h | h | h | h
            · omega
            · have := HFR.out _ h; omega
            · have := HLT.out _ (.inr (.inr (.inl h))); omega
            · have := HLT.out _ (.inr (.inr (.inr h))); omega))
          have HB6 := Lib.hid hB6
          have HM6 := Lib.hid hM6
          clear hM6 hB6
          repeat' (first | refine X_nil ?_ | refine W_ret ?_ | go_step)
          have htk : s.take p = { s with log := s.log.take n, flushed := gmin s.flushed n, high := gmin s.high n } := by unfold RepS.take; rw [if_neg (by rw [HAP.out]; decide), if_pos g4, HN.out]; rfl
          refine End_ok1 hd (HB6.out.congr (g' := fun _ => .int .i64 0) (fun k hk => by obtain rfl : k = 0 := (by omega); rfl)) ⟨by rw [HAP.out], ?_, ?_⟩
          · exact Mod.trans HM.out HM6.out (fun k _ h => by subst h; exact hFb.out) (fun k hk h => by subst h; omega)
          · rw [htk]
            refine ⟨_, _, _, HA6.out, ?_⟩
            rintro k (rfl | hk | hk | hk)
            · exact .inl hFb.out
            · exact .inr (Nat.le_trans hWw (HFR.out k hk))
            · exact .inl (HFF.out k (.inr (.inr (.inl hk))))
            · exact .inl (HFF.out k (.inr (.inr (.inr hk))))
        · have g4 := hc
          clear hc
          by_cases g5 : (p.entries.length : Int) ≤ 4096 - s.log.length
          · have g5b : decide ((p.entries.length : Int) ≤ 4096 - s.log.length) = true := by simpa using g5
            have hap : s.takeNo p = 0 := by unfold RepS.takeNo; rw [if_neg (by simp [g1]), if_neg (by simp [g2]), if_neg (by simp [g3]), if_neg (by simp [g4]), if_neg (by omega)]
            have HAP := Lib.hid hap
            clear hap
            refine W_drawσ [(0, 0), (1, 0), (2, 0), (3, 0), (4, 0), (5, 0), (6, 0), (7, 0), (8, 0), (9, 0), (10, 1)] (by kernel_rfl) (by kernel_rfl) ?_
            repeat' (first | (refine X_pure1 Tryz.func50 (fun _ => must_ok 3) ?_) | refine X_q ?_ | refine X_niln ?_ | refine W_seqk (fun K hK => ?_) | go_step)
            refine W_drawσ [(0, 0), (1, 0), (2, 0), (3, 0), (4, 0), (5, 0), (6, 0), (7, 2), (8, 0), (9, 0), (10, 2)] (by kernel_rfl) (by kernel_rfl) ?_
            repeat' (first | refine X_q ?_ | fail)
            refine X_append (xs := s.log) elemEnt H1.out.own HU1.out (by omega) (by unfold maxLen; omega) (fun v' W3 hM3 hO3 hF3 hN3 => ?_)
            obtain ⟨A3, m3, c3, rfl⟩ := own_slice hO3
            have hb2n : ¬ (Value.slice A1 s.log.length c1).ownBlock = some b := H1.out.nL
            have HH3 := Lib.hid (H1.out.blk.mod hM3 hb2n)
            have HO3 := Lib.hid hO3
            have HF3 := Lib.hid hF3
            have HM23 := Lib.hid hM3
            have hnbe : ¬ (Value.slice A1 s.log.length c1).ownBlock = some be := fun h => by have := HLT.out be (.inr (.inl h)); omega
            have hnbp : ¬ (Value.slice A1 s.log.length c1).ownBlock = some bp := fun h => by have := HLT.out bp (.inr (.inl h)); omega
            have y7 := (cell?_mod hM3 (o := 7) hx hnbp).trans x7
            have hx3 : bp < W3.heap.size := Nat.lt_of_lt_of_le hx hM3.size
            have hbeW := HBE.out.lt
            clear hO3 hF3 hM3 hN3 x0 x1 x2 x3 x4 x5 x6 x7 hx
            repeat' (first | refine X_q ?_ | fail)
            refine X_store (off := 12) HH3.out (fun W4 hM4 hB4 => ?_)
            have HA4 := Lib.hid (H1.out.grow HM23.out HO3.out HF3.out hM4 hB4)
            have HM4 := Lib.hid (Mod.trans HM23.out hM4 (H := fun k => k = b ∨ (Value.slice A1 s.log.length c1).ownBlock = some k) (fun _ _ h => .inr h) (fun _ _ h => .inl h))
            have HBE4 := Lib.hid ((HBE.out.mod HM23.out hnbe).mod hM4 (fun h => by omega))
            have z7 := (cell?_mod hM4 (o := 7) hx3 (fun h => by omega)).trans y7
            have hx4 : bp < W4.heap.size := Nat.lt_of_lt_of_le hx3 hM4.size
            clear hM4 hB4 hlt d2 d8 d9 d10 d11 d12 d13 d14 y7 hx3
            obtain ⟨A5, c5, hA5, -⟩ := HA4.out.rdL.ent
            simp only [List.length_append] at hA5
            cases hA5
            obtain ⟨hlt, -, -, -, -, -, -, -, -, d12, -, d14⟩ := HA4.out.cells
            repeat' (first | refine X_niln ?_ | refine W_seqk (fun K hK => ?_) | go_step)
            refine W_draw (by kernel_rfl) (by kernel_rfl) ?_
            repeat' (first | refine X_q ?_ | fail)
            refine X_store (off := 14) HA4.out.blk (fun W5 hM5 hB5 => ?_)
            have HA5 := Lib.hid (HA4.out.putHigh hM5 hB5)
            have HM5 := Lib.hid (Mod.trans HM4.out hM5 (H := fun k => k = b ∨ (Value.slice A1 s.log.length c1).ownBlock = some k) (fun _ _ h => h) (fun _ _ h => .inl h))
            have HBE5 := Lib.hid (HBE4.out.mod hM5 (fun h => by omega))
            clear hM5 hB5
            repeat' (first | refine X_niln ?_ | refine W_seqk (fun K hK => ?_) | refine W_seqr ?_ | go_step)
            refine X_store (off := 0) HBE5.out (fun W6 hM6 hB6 => ?_)
            have hbn : ∀ k, RFoot b (.slice A3 (s.log.length + p.entries.length) c3) uI uC k → k ≠ be ∧ (F k ∨ w.heap.size ≤ k) := by
              rintro k (h | h | h | h)
              · subst h; exact ⟨by omega, .inl hFb.out⟩
              · rcases HF3.out with h' | ⟨g, h', hg⟩
                · have h2 := h' ▸ h
                  exact ⟨fun e => hnbe (e ▸ h2), .inl (HFF.out k (.inr (.inl h2)))⟩
                · rw [h'] at h; cases h
                  exact ⟨by omega, .inr (Nat.le_trans HE.out.size hg)⟩
              · have := HLT.out k (.inr (.inr (.inl h)))
                exact ⟨by omega, .inl (HFF.out k (.inr (.inr (.inl h))))⟩
              · have := HLT.out k (.inr (.inr (.inr h)))
                exact ⟨by omega, .inl (HFF.out k (.inr (.inr (.inr h))))⟩
            have HBN := Lib.hid hbn
            have HA6 := Lib.hid (HA5.out.mod hM6 (fun k hk he => (hbn k hk).1 he))
            have HB6 := Lib.hid hB6
            have HM6 := Lib.hid hM6
            clear hM6 hB6 hbn
            repeat' (first | refine X_nil ?_ | refine W_ret ?_ | go_step)
            refine End_ok1 hd (HB6.out.congr (g' := fun _ => .int .i64 0) (fun k hk => by obtain rfl : k = 0 := (by omega); rfl)) ⟨by rw [HAP.out], ?_, ?_⟩
            · refine Mod.trans (Mod.trans HE.out HM5.out (H := F) (fun _ _ h => h.elim) (fun k hk h => ?_)) HM6.out (fun _ _ h => h) (fun k hk h => by subst h; omega)
              rcases h with h | h
              · subst h; exact hFb.out
              · exact HFF.out k (.inr (.inl h))
            · have htk : s.take p = { s with log := s.log ++ p.entries, high := gmax s.high (gmin p.high ((s.log.length + p.entries.length : Nat) : Int)) } := by unfold RepS.take; rw [if_neg (by rw [HAP.out]; decide), if_neg (by simp [g4])]
              rw [htk]
              refine ⟨_, _, _, ?_, fun k hk => (HBN.out k hk).2⟩
              exact HA6.out
          · have g5b : decide ((p.entries.length : Int) ≤ 4096 - s.log.length) = false := by simpa using g5
            have hap : s.takeNo p = 3 := by unfold RepS.takeNo; rw [if_neg (by simp [g1]), if_neg (by simp [g2]), if_neg (by simp [g3]), if_neg (by simp [g4]), if_pos (by omega)]
            refine W_die [(0, 0), (1, 0), (2, 0), (3, 0), (4, 0), (5, 0), (6, 0), (7, 0), (8, 0), (9, 0)] 10 (by kernel_rfl) (by kernel_rfl) ?_
            repeat' (first | refine X_q ?_ | refine X_niln ?_ | fail)
            refine Dies_call Tryz.func50 (must_no 3) (fun c w' hC => ?_)
            obtain ⟨rfl, hE4⟩ := hC
            have htk : s.take p = s := by unfold RepS.take; rw [hap, if_pos (by decide)]
            refine End_no1 hd (HBE.out.later hE4) (fun W1 hM => ?_)
            have hM' := Ext.fresh (Ext.trans HE.out hE4) hM (fun k hk => by subst hk; omega)
            exact ⟨by rw [hap], hM'.mono (fun _ _ h => h.elim), by rw [htk]; exact (HP.out.later hM').mono (fun k hk => .inl hk)⟩
      · have g3f : s.fitsNow p = false := by simpa using g3
        have hap : s.takeNo p = 210 := by unfold RepS.takeNo; rw [if_neg (by simp [g1]), if_neg (by simp [g2]), if_pos g3f]
        refine W_die [(0, 0), (1, 0), (2, 0), (3, 0), (4, 0), (5, 0), (6, 0), (7, 0), (8, 0), (9, 0), (10, 0), (11, 0), (12, 0), (13, 0), (14, 0), (15, 0), (16, 0), (17, 0), (18, 0), (19, 0), (20, 0), (21, 1), (22, 0), (23, 0)] 24 (by kernel_rfl) (by kernel_rfl) ?_
        repeat' (first | (refine X_gpure1 Tryz.func59 (fun _ x => rlast_calls (HP1.out.later (by simp)) hm) ?_) | refine X_d (fun vb hvb => ?_) | refine X_q ?_ | refine X_g ?_ | refine X_niln ?_ | fail)
        repeat cases ‹Eqn _ _›
        refine Dies_call (lv := [.bool false, .int .i64 210]) Tryz.func50 (must_no 210) (fun c w' hC => ?_) (hlv := by exact congrArg (fun x => [Value.bool x, Value.int .i64 210]) g3f)
        obtain ⟨rfl, hE4⟩ := hC
        have htk : s.take p = s := by unfold RepS.take; rw [hap, if_pos (by decide)]
        refine End_no1 hd (HBE.out.later hE4) (fun W1 hM => ?_)
        have hM' := Ext.fresh (Ext.trans HE.out hE4) hM (fun k hk => by subst hk; omega)
        exact ⟨by rw [hap], hM'.mono (fun _ _ h => h.elim), by rw [htk]; exact (HP.out.later hM').mono (fun k hk => .inl hk)⟩
    · have g2b : (s.role == 2) = false := by simp [g2]
      have hap : s.takeNo p = 211 := by unfold RepS.takeNo; rw [if_neg (by simp [g1]), if_pos g2]
      skip
      refine X_die Tryz.func50 (must_no 211) (fun c w' hC => ?_)
      obtain ⟨rfl, hE4⟩ := hC
      have htk : s.take p = s := by unfold RepS.take; rw [hap, if_pos (by decide)]
      refine End_no1 hd (HBE.out.later hE4) (fun W1 hM => ?_)
      have hM' := Ext.fresh (Ext.trans HE.out hE4) hM (fun k hk => by subst hk; omega)
      exact ⟨by rw [hap], hM'.mono (fun _ _ h => h.elim), by rw [htk]; exact (HP.out.later hM').mono (fun k hk => .inl hk)⟩
  · have g1f : p.right = false := by simpa using g1
    have HRI := Lib.hid (g1f ▸ rightR_calls HU1.out)
    have hap : s.takeNo p = 2 := by unfold RepS.takeNo; rw [if_pos g1f]
    repeat' (first | refine X_pure Tryz.func33 (none_of HP1.out hs) ?_ | (refine X_pure Tryz.func50 (must_ok 1) ?_) | refine X_pure Tryz.func67 (HRI.out) ?_ | refine X_q ?_ | refine X_nil ?_ | refine W_seqk (fun K hK => ?_) | refine W_seqr ?_ | go_step)
    refine X_die Tryz.func50 (must_no 2) (fun c w' hC => ?_)
    obtain ⟨rfl, hE4⟩ := hC
    have htk : s.take p = s := by unfold RepS.take; rw [hap, if_pos (by decide)]
    refine End_no1 hd (HBE.out.later hE4) (fun W1 hM => ?_)
    have hM' := Ext.fresh (Ext.trans HE.out hE4) hM (fun k hk => by subst hk; omega)
    exact ⟨by rw [hap], hM'.mono (fun _ _ h => h.elim), by rw [htk]; exact (HP.out.later hM').mono (fun k hk => .inl hk)⟩
end Go.Ws
namespace Go.Ws
open Go Go.RowKit Go.Proofs
set_option maxHeartbeats 2000000
set_option maxRecDepth 100000
set_option linter.unusedVariables false
set_option linter.unusedSimpArgs false

/-- How a replica stands. -/
structure Stand where
  role : Int
  epoch : Int
  version : Int
  flushed : Int
  high : Int
  beg : Int
  isr : List Int
  counts : List Int
  known : List Int
abbrev Stand.cs (x : Stand) (u1 u2 u3 : Value) : List Value := [.int .i64 x.role, .int .i64 x.epoch, .int .i64 x.version, .int .i64 x.flushed, .int .i64 x.high, .int .i64 x.beg, u1, u2, u3]
abbrev Stand.v (x : Stand) (u1 u2 u3 : Value) : Value := .agg #[.int .i64 x.role, .int .i64 x.epoch, .int .i64 x.version, .int .i64 x.flushed, .int .i64 x.high, .int .i64 x.beg, u1, u2, u3]
def RepS.stand (s : RepS) : Stand :=
  if s.role = 3 then ⟨s.role, s.epoch, s.version, s.flushed, s.high, s.beg, s.isr, s.counts, [s.known 0, s.known 1, s.known 2, s.known 3]⟩
  else ⟨s.role, s.epoch, 0, s.flushed, s.high, 0, [], [], []⟩
/-- A standing's value. -/
def SV (w : World) (v : Value) (x : Stand) : Prop := ∃ u1 u2 u3, v = x.v u1 u2 u3 ∧ RdI w u1 x.isr ∧ RdI w u2 x.counts ∧ RdI w u3 x.known
theorem SV.later {w w' : World} {v : Value} {x : Stand} (h : SV w v x) (hE : Ext w w') : SV w' v x := by
  obtain ⟨u1, u2, u3, h, h1, h2, h3⟩ := h
  exact ⟨u1, u2, u3, h, h1.later hE, h2.later hE, h3.later hE⟩
theorem stand_cs {x : Stand} {u1 u2 u3 : Value} {g : Nat → Value} (h : g 0 = .int .i64 x.role ∧ g 1 = .int .i64 x.epoch ∧ g 2 = .int .i64 x.version ∧ g 3 = .int .i64 x.flushed ∧ g 4 = .int .i64 x.high ∧ g 5 = .int .i64 x.beg ∧ g 6 = u1 ∧ g 7 = u2 ∧ g 8 = u3) {k : Nat} (hk : k < (x.cs u1 u2 u3).length) : (x.cs u1 u2 u3)[k]? = some (g k) := by
  obtain ⟨h0, h1, h2, h3, h4, h5, h6, h7, h8⟩ := h
  simp only [List.length_cons, List.length_nil] at hk
  obtain rfl | rfl | rfl | rfl | rfl | rfl | rfl | rfl | rfl : k = 0 ∨ k = 1 ∨ k = 2 ∨ k = 3 ∨ k = 4 ∨ k = 5 ∨ k = 6 ∨ k = 7 ∨ k = 8 := by omega
  · rw [h0]; rfl
  · rw [h1]; rfl
  · rw [h2]; rfl
  · rw [h3]; rfl
  · rw [h4]; rfl
  · rw [h5]; rfl
  · rw [h6]; rfl
  · rw [h7]; rfl
  · rw [h8]; rfl
theorem RepAt.knowns {w : World} {b : Nat} {uL uI uC : Value} {s : RepS} (h : RepAt w b uL uI uC s) : RdI w (.slice (some ⟨b, 4, none⟩) 4 4) [s.known 0, s.known 1, s.known 2, s.known 3] := by
  refine ⟨some ⟨b, 4, none⟩, 4, rfl, Nat.le_refl _, by unfold maxLen; omega, .inr ⟨b, 4, rfl, h.blk.lt, fun i x hx j u hu => ?_⟩⟩
  have hj : j = 0 := by
    rcases Nat.lt_or_ge j 1 with h | h
    · omega
    · rw [List.getElem?_eq_none (by simpa using h)] at hu; cases hu
  subst hj
  simp at hu
  subst hu
  have hi : i < 4 := by
    rcases Nat.lt_or_ge i 4 with h | h
    · exact h
    · rw [List.getElem?_eq_none (by simpa using h)] at hx; cases hx
  have h1 := h.knownAt i hi
  obtain rfl | rfl | rfl | rfl : i = 0 ∨ i = 1 ∨ i = 2 ∨ i = 3 := by omega
  all_goals (simp at hx; subst hx; simpa using h1)
theorem standing_rep {w : World} {b : Nat} {F : Nat → Prop} {s : RepS} (h : Rep w b F s) (hs : s.least ≠ 0) (hi : s.isr.length ≤ 1000) (hc : s.counts.length ≤ 1000) :
    Ret Tryz.prog 15 #[.pointer (some ⟨b, 0, none⟩)] w fun v w' => Ext w w' ∧ ∃ u1 u2 u3, v = s.stand.v u1 u2 u3 ∧ RdI w' u1 s.stand.isr ∧ RdI w' u2 s.stand.counts ∧ RdI w' u3 s.stand.known ∧ (∀ k, u1.ownBlock = some k ∨ u2.ownBlock = some k ∨ u3.ownBlock = some k → w.heap.size ≤ k) := by
  have HP := Lib.hid h
  obtain ⟨uL, uI, uC, h, hf⟩ := h.ex
  have H0 := h
  obtain ⟨A2, c2, rfl, -⟩ := h.ri.int
  obtain ⟨A3, c3, rfl, -⟩ := h.rc.int
  have hbw := h.blk.lt
  have H := Lib.hid H0
  clear h hf H0
  refine Fn_of Tryz.func15 rfl (Nat.le_of_ble_eq_true rfl) ?_; intro A hd hA; simp only [ix, Nat.reduceAdd]; replace hA : A.tmps.size = 63 := hA
  repeat' (first | refine X_q ?_ | refine X_nil ?_ | refine W_seqk (fun K hK => ?_) | refine W_seqr ?_ | (refine X_s (fun x K hK => ?_); go_simp; refine hK _ _ (Ext.alloc _ _) ?_; clear hK K; refine X_al x ?_; generalize (World.later _ x).heap.size = bn; intro yn hn1 hn2 hn3 hn4 hn5; clear x) | go_step)
  have hE : Ext w (w.later yn) := yn.ext
  have HY := Lib.hid (Blk.new hn5.out)
  obtain ⟨br, hbr0⟩ : ∃ br : Nat, br = bn := ⟨_, rfl⟩
  subst hbr0
  have hbrw : w.heap.size ≤ br := hn1
  generalize World.later w yn = W at *
  clear hn1 hn2 hn3 hn4 hn5 yn
  have HP1 := Lib.hid (HP.out.later hE)
  have H1 := Lib.hid (H.out.later hE)
  have HE := Lib.hid hE
  clear hE
  obtain ⟨hlt, d0, d1, d2, d3, d8, d9, d10, d11, d12, d13, d14⟩ := H1.out.cells
  repeat' (first | refine X_pure Tryz.func33 (none_of HP1.out hs) ?_ | refine X_nil ?_ | refine W_seqk (fun K hK => ?_) | refine W_skip ?_ | refine W_ff ?_ | go_step)
  refine W_draw (by kernel_rfl) (by kernel_rfl) ?_
  repeat' (first | refine X_q ?_ | refine X_niln ?_ | refine X_nil ?_ | (refine X_var (fun yn bn hn1 hn2 hn3 hn4 hn5 => ?_)) | refine W_seqk (fun K hK => ?_) | refine W_seqr ?_ | refine W_skip ?_ | refine W_test (fun hc => ?_) (fun hc => ?_) | go_step)
  · have hrole : s.role = 3 := by simpa using hc
    obtain ⟨bo, hbo0⟩ : ∃ bo : Nat, bo = bn := ⟨_, rfl⟩
    subst hbo0
    have hE2 : Ext W (W.later yn) := yn.ext
    have HO := Lib.hid (Blk.new hn5.out)
    have hboW : W.heap.size ≤ bo := hn1
    have hbrW := HY.out.lt
    generalize World.later W yn = W2 at *
    clear hn1 hn2 hn3 hn4 hn5 yn
    have H2 := Lib.hid (H1.out.later hE2)
    have HY2 := Lib.hid (HY.out.later hE2)
    have HE2 := Lib.hid (Ext.trans HE.out hE2)
    have hcW := HE.out.size
    clear hlt d0 d1 d2 d3 d8 d9 d10 d11 d12 d13 d14 hE2
    obtain ⟨hlt, d0, d1, d2, d3, d8, d9, d10, d11, d12, d13, d14⟩ := H2.out.cells
    obtain ⟨G, hG⟩ : ∃ G : Nat → Prop, G = (fun k => k = bo) := ⟨_, rfl⟩
    have hGb : ¬ G b := by subst hG; show ¬ b = bo; omega
    have HGo : Hid (G bo) := Lib.hid (by subst hG; rfl)
    clear hG
    refine W_drawG G [(0, 0), (1, 0), (2, 0), (3, 0), (4, 3), (5, 0), (6, 0), (7, 0), (8, 0), (9, 0), (10, 0), (11, 2), (12, 0), (13, 2)] (by kernel_rfl) (by kernel_rfl) ?_
    repeat' (first | refine Y_q ?_ | refine Y_r ?_ | fail)
    refine Y_store (off := 2) HO.out HGo.out (fun W3 hM3 hG3 hB3 => ?_)
    have HO := Lib.hid hB3
    have HM := Lib.hid hM3
    clear hM3 hB3 hG3
    repeat' (first | refine Y_q ?_ | fail)
    refine Y_store (off := 5) HO.out HGo.out (fun W4 hM4 hG4 hB4 => ?_)
    have HO := Lib.hid hB4
    have HM := Lib.hid (HM.out.transG hM4)
    clear hM4 hB4 hG4
    repeat' (first | refine Y_nil ?_)
    have hE4 : Ext w W4 := Ext.fresh HE2.out HM.out (fun k hk => by subst hk; omega)
    have HE4 := Lib.hid hE4
    have H4 := Lib.hid (H.out.later hE4)
    have HY4 := Lib.hid (HY2.out.mod HM.out (fun h => by omega))
    clear hlt d0 d1 d2 d3 d8 d9 d10 d11 d12 d13 d14 hE4
    obtain ⟨hlt, d0, d1, d2, d3, d8, d9, d10, d11, d12, d13, d14⟩ := H4.out.cells
    have hoW := HO.out.lt
    repeat' (first | go_step)
    refine W_drawσ [(0, 0), (1, 0), (2, 0), (3, 0), (4, 0), (6, 0), (7, 0), (8, 0), (9, 0), (10, 0), (12, 0), (13, 0), (14, 0), (15, 0), (16, 0), (5, 1), (18, 0), (11, 1), (17, 1), (19, 2), (20, 0), (21, 2), (22, 0), (23, 2)] (by kernel_rfl) (by kernel_rfl) ?_
    repeat' (first | refine X_q ?_ | fail)
    refine X_ret1 (R := fun w0 v' w' => Ext w0 w' ∧ OwnI w' v' s.isr ∧ ∀ b, v'.ownBlock = some b → w0.heap.size ≤ b) Tryz.func34 (fun z => cloneI_calls (H4.out.ri.later z.ext) (by omega)) (fun z1 u1 w1 hR => ⟨hR.1, ?_⟩)
    have HR1 := Lib.hid hR
    obtain ⟨y1, rfl⟩ := hR.1.get
    clear hR
    repeat' (first | refine X_q ?_ | fail)
    refine X_ret1 (R := fun w0 v' w' => Ext w0 w' ∧ OwnI w' v' s.counts ∧ ∀ b, v'.ownBlock = some b → w0.heap.size ≤ b) Tryz.func34 (fun z => cloneI_calls (H4.out.rc.later (Ext.trans (Ext.trans z1.ext y1.ext) z.ext)) (by omega)) (fun z2 u2 w2 hR => ⟨hR.1, ?_⟩)
    have HR2 := Lib.hid hR
    obtain ⟨y2, rfl⟩ := hR.1.get
    clear hR
    skip
    refine X_ret1 (R := fun w0 v' w' => Ext w0 w' ∧ OwnI w' v' [s.known 0, s.known 1, s.known 2, s.known 3] ∧ ∀ b, v'.ownBlock = some b → w0.heap.size ≤ b) Tryz.func34 (fun z => cloneI_calls (H4.out.knowns.later (Ext.trans (Ext.trans (Ext.trans (Ext.trans z1.ext y1.ext) z2.ext) y2.ext) z.ext)) (by simp)) (fun z3 u3 w3 hR => ⟨hR.1, ?_⟩)
    have HR3 := Lib.hid hR
    obtain ⟨y3, rfl⟩ := hR.1.get
    clear hR
    have hE5 : Ext W4 (World.later _ y3) := Ext.trans (Ext.trans (Ext.trans (Ext.trans (Ext.trans z1.ext y1.ext) z2.ext) y2.ext) z3.ext) y3.ext
    have h1 : OwnI (World.later _ y3) u1 s.isr := (HR1.out.2.1).later (Ext.trans (Ext.trans (Ext.trans z2.ext y2.ext) z3.ext) y3.ext)
    have h2 : OwnI (World.later _ y3) u2 s.counts := (HR2.out.2.1).later (Ext.trans z3.ext y3.ext)
    have h3 : OwnI (World.later _ y3) u3 [s.known 0, s.known 1, s.known 2, s.known 3] := HR3.out.2.1
    have s1 : ∀ k, u1.ownBlock = some k → W4.heap.size ≤ k := fun k hk => Nat.le_trans z1.ext.size (HR1.out.2.2 k hk)
    have s2 : ∀ k, u2.ownBlock = some k → W4.heap.size ≤ k := fun k hk => Nat.le_trans (Ext.trans (Ext.trans z1.ext y1.ext) z2.ext).size (HR2.out.2.2 k hk)
    have s3 : ∀ k, u3.ownBlock = some k → W4.heap.size ≤ k := fun k hk => Nat.le_trans (Ext.trans (Ext.trans (Ext.trans (Ext.trans z1.ext y1.ext) z2.ext) y2.ext) z3.ext).size (HR3.out.2.2 k hk)
    generalize World.later _ y3 = W5 at *
    have HS := Lib.hid (And.intro s1 (And.intro s2 s3))
    have HI1 := Lib.hid h1
    have HI2 := Lib.hid h2
    have HI3 := Lib.hid h3
    have HO := Lib.hid (HO.out.later hE5)
    have HY5 := Lib.hid (HY4.out.later hE5)
    have HE5 := Lib.hid (Ext.trans HE4.out hE5)
    clear HR1 HR2 HR3 hE5 h1 h2 h3 s1 s2 s3 hlt d0 d1 d2 d3 d8 d9 d10 d11 d12 d13 d14
    obtain ⟨B1, m1, c1, rfl⟩ := own_slice HI1.out
    obtain ⟨B2, m2, c2, rfl⟩ := own_slice HI2.out
    obtain ⟨B3, m3, c3, rfl⟩ := own_slice HI3.out
    skip
    refine X_store (off := 6) HO.out (fun W6 hM6 hB6 => ?_)
    have HO := Lib.hid hB6
    have HM := Lib.hid hM6
    clear hM6 hB6
    repeat' (first | refine X_q ?_ | fail)
    refine X_store (off := 7) HO.out (fun W7 hM7 hB7 => ?_)
    have HO := Lib.hid hB7
    have HM := Lib.hid (HM.out.transG hM7)
    clear hM7 hB7
    repeat' (first | refine X_q ?_ | fail)
    refine X_store (off := 8) HO.out (fun W8 hM8 hB8 => ?_)
    have HO := Lib.hid hB8
    have HM := Lib.hid (HM.out.transG hM8)
    clear hM8 hB8
    have o0 := HO.out.cell (k := 0) (by simp)
    have o1 := HO.out.cell (k := 1) (by simp)
    have o2 := HO.out.cell (k := 2) (by simp)
    have o3 := HO.out.cell (k := 3) (by simp)
    have o4 := HO.out.cell (k := 4) (by simp)
    have o5 := HO.out.cell (k := 5) (by simp)
    have o6 := HO.out.cell (k := 6) (by simp)
    have o7 := HO.out.cell (k := 7) (by simp)
    have o8 := HO.out.cell (k := 8) (by simp)
    have hbo8 := HO.out.lt
    simp [put, Value.cells] at o0 o1 o2 o3 o4 o5 o6 o7 o8
    repeat' (first | refine X_q ?_ | refine X_niln ?_ | refine W_seqk (fun K hK => ?_) | refine W_seqr ?_ | go_step)
    refine X_store (off := 0) (HY5.out.mod HM.out (fun h => by omega)) (fun W9 hM9 hB9 => ?_)
    have HY9 := Lib.hid hB9
    have HM9 := Lib.hid (Mod.trans HM.out hM9 (H := fun k => k = bo ∨ k = br) (fun _ _ h => .inl h) (fun _ _ h => .inr h))
    clear hM9 hB9
    repeat' (first | refine X_nil ?_ | refine W_ret ?_ | go_step)
    have hst : s.stand = ⟨s.role, s.epoch, s.version, s.flushed, s.high, s.beg, s.isr, s.counts, [s.known 0, s.known 1, s.known 2, s.known 3]⟩ := by unfold RepS.stand; rw [if_pos hrole]
    have hnot : ∀ k, W4.heap.size ≤ k → ¬ (k = bo ∨ k = br) := fun k hk h => by omega
    refine Body_retcell1 (cs := s.stand.cs (.slice B1 m1 c1) (.slice B2 m2 c2) (.slice B3 m3 c3)) hd ⟨?_, _, _, _, rfl, ?_, ?_, ?_, ?_⟩ HY9.out (fun k hk => stand_cs ?_ hk) Tryz.underlying37
    · exact Ext.fresh HE5.out HM9.out (fun k hk => by rcases hk with rfl | rfl <;> omega)
    · rw [hst]; exact (HI1.out.rd (enc := ics) (k := 1) (fun _ => rfl)).mod HM9.out (fun k hk => hnot k (HS.out.1 k hk))
    · rw [hst]; exact (HI2.out.rd (enc := ics) (k := 1) (fun _ => rfl)).mod HM9.out (fun k hk => hnot k (HS.out.2.1 k hk))
    · rw [hst]; exact (HI3.out.rd (enc := ics) (k := 1) (fun _ => rfl)).mod HM9.out (fun k hk => hnot k (HS.out.2.2 k hk))
    · intro k hk
      have hwW4 := HE4.out.size
      rcases hk with hk | hk | hk
      · exact Nat.le_trans hwW4 (HS.out.1 k hk)
      · exact Nat.le_trans hwW4 (HS.out.2.1 k hk)
      · exact Nat.le_trans hwW4 (HS.out.2.2 k hk)
    · rw [hst]; refine ⟨?_, ?_, ?_, ?_, ?_, ?_, ?_, ?_, ?_⟩ <;> first | rfl | (show Value.int .i64 3 = Value.int .i64 s.role; rw [hrole])
  · have hrole : s.role ≠ 3 := by simpa using hc
    have hE2 : Ext W (W.later yn) := yn.ext
    refine X_store (off := 0) (HY.out.later hE2) (fun W9 hM9 hB9 => ?_)
    have HY9 := Lib.hid hB9
    have HE9 := Lib.hid (Ext.fresh (Ext.trans HE.out hE2) hM9 (fun k hk => by subst hk; omega))
    clear hM9 hB9
    repeat' (first | refine X_nil ?_ | refine W_ret ?_ | go_step)
    have hst : s.stand = ⟨s.role, s.epoch, 0, s.flushed, s.high, 0, [], [], []⟩ := by unfold RepS.stand; rw [if_neg hrole]
    refine Body_retcell1 (cs := s.stand.cs (.slice none 0 0) (.slice none 0 0) (.slice none 0 0)) hd ⟨HE9.out, _, _, _, rfl, ?_, ?_, ?_, ?_⟩ HY9.out (fun k hk => stand_cs ?_ hk) Tryz.underlying37
    · rw [hst]; exact Rd.nil _
    · rw [hst]; exact Rd.nil _
    · rw [hst]; exact Rd.nil _
    · rintro k (hk | hk | hk) <;> cases hk
    · rw [hst]; refine ⟨?_, ?_, ?_, ?_, ?_, ?_, ?_, ?_, ?_⟩ <;> rfl
end Go.Ws
