import Derived.Test.YtkdcgmloapmpkaaSeq64
import Derived.Test.YtkdcgmloapmpkaaSortLays
import Derived.Sort.OwnSortedInts
import Derived.Shelf.SlSortCmp.Whole1
namespace Go.Ws
open Go Go.RowKit Go.Proofs
set_option maxHeartbeats 2000000
set_option maxRecDepth 100000
set_option linter.unusedVariables false
set_option linter.unusedSimpArgs false
set_option pp.deepTerms true
set_option pp.maxSteps 100000000

/-! ### Sorting a slice of int64 by a measure -/
def cmpBy (v : Int → Int) (x y : Int) : Int := if v x < v y then -1 else if v y < v x then 1 else 0
theorem ltBy (v : Int → Int) (x y : Int) : ltOf (cmpBy v) x y = decide (v x < v y) := by
  unfold ltOf cmpBy
  split
  · rename_i h; simp [h]
  · rename_i h
    split
    · simp; omega
    · simp; omega
theorem swoBy (v : Int → Int) : Go.Sort.SWO (ltOf (cmpBy v)) where
  irrefl x := by rw [ltBy]; simp
  trans x y z h1 h2 := by rw [ltBy] at *; simp at *; omega
  ntrans x y z h1 h2 := by rw [ltBy] at *; simp at *; omega
theorem sorted_pairwise {v : Int → Int} {d : Array Int} (h : Go.Sort.SortedIn (ltOf (cmpBy v)) 0 d.size d) : d.toList.Pairwise (fun a b => v a ≤ v b) := by
  rw [List.pairwise_iff_getElem]
  intro i j hi hj hij
  have hi' : i < d.size := by simpa using hi
  have hj' : j < d.size := by simpa using hj
  have := h i j (Nat.zero_le _) hij hj'
  rw [ltBy, getElem!_pos d j hj', getElem!_pos d i hi'] at this
  simp only [Array.getElem_toList]
  simpa using this
theorem perm_all {d d' : Array Int} (h : Go.Sort.PermIn 0 d.size d d') : d'.toList.Perm d.toList ∧ d'.size = d.size := by
  obtain ⟨hs, -, hp⟩ := h
  refine ⟨?_, hs⟩
  have e1 : d.extract 0 d.size = d := by simp
  have e2 : d'.extract 0 d.size = d' := by rw [← hs]; simp
  rw [e1, e2] at hp
  exact hp
theorem flat_ics : ∀ (xs : List Int), xs.flatMap ics = xs.map (Value.int .i64)
  | [] => rfl
  | x :: xs => by rw [List.flatMap_cons, flat_ics xs]; rfl
/-- The sort of a slice of one's own, not empty. -/
theorem sort64_calls {w : World} {g : Nat} {cb : Array Value} {v : Int → Int} {xs : List Int} {u : Value} (hown : OwnL w u xs) (hne : u ≠ .slice none 0 0) (hN : xs.length < 1000000)
    (eg : ∀ args w, (callFunc g args).run Try.prog w = .ok (.enter g args) w)
    (hcmp : ∀ bk, u.ownBlock = some bk → ∀ W, Mod (· = bk) w W → ∀ x y : Int, Calls Try.prog g (#[.int .i64 x, .int .i64 y] ++ cb) W fun e w' => e = .returned (.int .i64 (cmpBy v x y)) ∧ ∃ q os', w' = Go.Sort.grow (W.drewN q) os') :
    Ret Try.prog 91 #[u, .func (.func g) #[] cb] w fun r w' => ∃ ys, ys.Perm xs ∧ ys.Pairwise (fun a b => v a ≤ v b) ∧ r = .tuple #[] ∧ OwnL w' u ys ∧ Mod (fun k => u.ownBlock = some k) w w' := by
  refine Fn.intro (fun x => ?_)
  have hown1 : OwnL (w.later x) u xs := hown.later x.2
  obtain ⟨hlen, hsh⟩ := hown1
  rcases hsh with ⟨rfl, h0⟩ | ⟨bk, cap, cur, rfl, hbase, hb, hcl, hcm, hcs, hpre⟩
  · exact absurd rfl hne
  · rw [flat_ics, Nat.mul_one] at hpre
    have hblk : bk < (w.later x).heap.size := (Array.getElem?_eq_some_iff.1 hb).1
    have hcon := Any.slices_SortFunc sortLays (Value.int .i64) (fun _ => rfl) (cmpBy v) (swoBy v) g cb bk 0 cap xs.toArray (w.later x) eg
      (fun m os dk hs a b => hcmp bk rfl _ (Mod.trans x.2 (Mod.of_grown (grownBy_sortedI dk)) (fun _ _ h => h.elim) (fun _ _ h => by cases h; rfl)) a b) (holds_of_blockI hb hpre) hblk (by simp; omega)
    refine Calls.mono hcon ?_
    rintro e w' ⟨rfl, d', n, os, hp, hs, rfl⟩
    obtain ⟨hp1, hp2⟩ := perm_all hp
    rw [List.toList_toArray] at hp1
    have hd' : d' = d'.toList.toArray := by simp
    have hl : d'.toList.length = xs.length := hp1.length_eq
    refine ⟨_, Ext.refl _, d'.toList, hp1, ?_, rfl, ?_, ?_⟩
    · rw [← hp2] at hs
      exact sorted_pairwise hs
    · have := ownsRow_sortedI (n := n) (os := os) (ts := d'.toList) (ss := xs) hl hbase hb hcl hcm hcs
      rw [← flat_ics] at this
      show World.ownsRow _ 0 _ 1 _ d'.toList.length _
      rw [hl]
      exact this
    · exact Mod.trans x.2 (Mod.of_grown (grownBy_sortedI d')) (fun _ _ h => h.elim) (fun _ _ h => by cases h; rfl)
theorem isNaN_c (x : Int) (W : World) : Calls Try.prog 111 #[.int .i64 x] W fun e w' => e = .returned (.bool false) ∧ w' = W := by
  go_enter Try.func111, Try.ntmps111
  go_wp2
  go_ret
  exact ⟨by simp, rfl⟩
theorem compare_c (x y : Int) (W : World) : Calls Try.prog 93 #[.int .i64 x, .int .i64 y] W fun e w' => e = .returned (.int .i64 (cmpBy id x y)) ∧ w' = W := by
  have h1 := isNaN_c x W
  have h2 := isNaN_c y W
  by_cases hxy : x < y
  · have e1 : cmpBy id x y = -1 := by simp [cmpBy, hxy]
    rw [e1]
    go_enter Try.func93, Try.ntmps93
    go_wp2_with (go_at_call 111; first | (refine h1.mono ?_; rintro e w' ⟨rfl, rfl⟩) | (refine h2.mono ?_; rintro e w' ⟨rfl, rfl⟩))
    go_ret
    exact ⟨rfl, rfl⟩
  · by_cases hyx : y < x
    · have e1 : cmpBy id x y = 1 := by simp [cmpBy, hyx]; omega
      rw [e1]
      go_enter Try.func93, Try.ntmps93
      go_wp2_with (go_at_call 111; first | (refine h1.mono ?_; rintro e w' ⟨rfl, rfl⟩) | (refine h2.mono ?_; rintro e w' ⟨rfl, rfl⟩))
      go_ret
      exact ⟨rfl, rfl⟩
    · have e1 : cmpBy id x y = 0 := by simp [cmpBy, hyx]; omega
      have hgt : ¬ x > y := hyx
      rw [e1]
      go_enter Try.func93, Try.ntmps93
      go_wp2_with (go_at_call 111; first | (refine h1.mono ?_; rintro e w' ⟨rfl, rfl⟩) | (refine h2.mono ?_; rintro e w' ⟨rfl, rfl⟩))
      go_ret
      exact ⟨rfl, rfl⟩
/-- The measure: a key's value. -/
theorem bykey_c {W : World} {bx m : Nat} {f : Int → Option Int} (hlt : bx < W.heap.size) (hc : W.cell? ⟨bx, 0, none⟩ = some (.map (some m))) (hm : MapIs ki ki W m f) (x y : Int) :
    Calls Try.prog 92 #[.int .i64 x, .int .i64 y, .pointer (some ⟨bx, 0, none⟩)] W fun e w' => e = .returned (.int .i64 (cmpBy (fun n => (f n).getD 0) x y)) ∧ w' = W := by
  have e (k : Int) : ((f k).map ki).getD (.int .i64 0) = .int .i64 ((f k).getD 0) := by cases f k <;> rfl
  have hz : (zeroValue 3).run Try.prog W = .ok (.int .i64 0) W := Try.zeroValue3 W
  have l1 := MapIs.lookup (P := Try.prog) (w := W) (ints_keys Try.underlying2) Try.underlying102 hz hm x false
  have l2 := MapIs.lookup (P := Try.prog) (w := W) (ints_keys Try.underlying2) Try.underlying102 hz hm y false
  rw [e] at l1 l2
  simp only [Bool.false_eq_true, if_false] at l1 l2
  have h1 := compare_c ((f x).getD 0) ((f y).getD 0) W
  have e2 : cmpBy id ((f x).getD 0) ((f y).getD 0) = cmpBy (fun n => (f n).getD 0) x y := rfl
  rw [e2] at h1
  generalize cmpBy (fun n => (f n).getD 0) x y = r at h1 ⊢
  generalize (f x).getD 0 = vx at *
  generalize (f y).getD 0 = vy at *
  go_enter Try.func92, Try.ntmps92
  go_wp2_with (go_at_call 93; refine h1.mono ?_; rintro e w' ⟨rfl, rfl⟩)
  go_ret
  exact ⟨rfl, rfl⟩
theorem Pure.of_calls {P : Program} {f : FuncId} {args : Array Value} {w : World} {v : Value} (h : ∀ W, Calls P f args W fun e w' => e = .returned v ∧ w' = W) : Pure P f args w v :=
  Fn.intro fun x => Calls.mono (h _) fun e w' ⟨he, hw⟩ => ⟨w', Ext.refl _, by subst he; subst hw; exact ⟨rfl, x.2⟩⟩
theorem len0_calls {w : World} : Pure Try.prog 110 #[.int .u64 0] w (.int .i64 0) :=
  Pure.of_calls fun W => by
    have h := Any.bits_Len (SlLaysF0.n15.bits (P := Try.prog) (ρ := sortLays_ren) { sortLays with }) 0 W (by omega) (by omega)
    exact h
theorem insNil_calls {w : World} {fv : Value} : Pure Try.prog 114 #[.slice none 0 0, .int .i64 0, .int .i64 0, fv] w (.tuple #[]) := by
  refine Fn_of Try.func114 rfl (Nat.le_of_ble_eq_true rfl) ?_; intro A hd hA; simp only [ix, Nat.reduceAdd]; replace hA : A.tmps.size = 53 := hA
  repeat' (first | refine X_d (fun vb hvb => ?_) | refine X_dg (fun vb hvb => ?_) | refine X_q ?_ | refine X_g ?_ | refine X_gf ?_ | refine X_niln ?_ | refine X_nil ?_ | (refine X_var (fun yn bn hn1 hn2 hn3 hn4 hn5 => ?_)) | refine W_seqk (fun K hK => ?_) | refine W_seqr ?_ | refine W_ret ?_ | refine W_skip ?_ | refine W_block ?_ | refine W_exit ?_ | (refine X_s (fun x K hK => ?_); go_simp; refine hK _ _ (Ext.alloc _ _) ?_; clear hK K; refine X_al x ?_; generalize (World.later _ x).heap.size = bn; intro yn hn1 hn2 hn3 hn4 hn5; clear x) | refine W_tt ?_ | refine W_ff ?_ | refine W_test (fun hc => ?_) (fun hc => ?_) | go_step)
  refine W_loops [2, 8] (fun n vs w' => w' = w ∧ vs = [.int .i64 0, .int .i64 1]) 0 hd hA (by decide) ⟨rfl, by simp⟩ ?_
  clear hd hA A; intro n2 vs B W hd hA _ ⟨hw, hvs⟩; subst hw hvs
  simp only [List.zip_cons_cons, List.zip_nil_right, List.zip_nil_left]
  repeat' (first | refine X_d (fun vb hvb => ?_) | refine X_dg (fun vb hvb => ?_) | refine X_q ?_ | refine X_g ?_ | refine X_gf ?_ | refine X_niln ?_ | refine X_nil ?_ | (refine X_var (fun yn bn hn1 hn2 hn3 hn4 hn5 => ?_)) | refine W_seqk (fun K hK => ?_) | refine W_seqr ?_ | refine W_ret ?_ | refine W_skip ?_ | refine W_block ?_ | refine W_exit ?_ | (refine X_s (fun x K hK => ?_); go_simp; refine hK _ _ (Ext.alloc _ _) ?_; clear hK K; refine X_al x ?_; generalize (World.later _ x).heap.size = bn; intro yn hn1 hn2 hn3 hn4 hn5; clear x) | refine W_tt ?_ | refine W_ff ?_ | refine W_test (fun hc => ?_) (fun hc => ?_) | go_step)
  exact Body_ret0 hd ⟨rfl, by simp⟩
theorem pdqNil_calls {w : World} {fv : Value} : Pure Try.prog 109 #[.slice none 0 0, .int .i64 0, .int .i64 0, .int .i64 0, fv] w (.tuple #[]) := by
  refine Fn_of Try.func109 rfl (Nat.le_of_ble_eq_true rfl) ?_; intro A hd hA; simp only [ix, Nat.reduceAdd]; replace hA : A.tmps.size = 148 := hA
  repeat' (first | refine X_d (fun vb hvb => ?_) | refine X_dg (fun vb hvb => ?_) | refine X_q ?_ | refine X_g ?_ | refine X_gf ?_ | refine X_niln ?_ | refine X_nil ?_ | (refine X_var (fun yn bn hn1 hn2 hn3 hn4 hn5 => ?_)) | refine W_seqk (fun K hK => ?_) | refine W_seqr ?_ | refine W_ret ?_ | refine W_skip ?_ | refine W_block ?_ | refine W_exit ?_ | (refine X_s (fun x K hK => ?_); go_simp; refine hK _ _ (Ext.alloc _ _) ?_; clear hK K; refine X_al x ?_; generalize (World.later _ x).heap.size = bn; intro yn hn1 hn2 hn3 hn4 hn5; clear x) | refine W_tt ?_ | refine W_ff ?_ | refine W_test (fun hc => ?_) (fun hc => ?_) | go_step)
  refine W_loops [0, 1, 2, 3, 4, 10, 11] (fun n vs w' => w' = w ∧ vs = [.slice none 0 0, .int .i64 0, .int .i64 0, .int .i64 0, fv, .bool true, .bool true]) 0 hd hA (by decide) ⟨rfl, by simp⟩ ?_
  clear hd hA A; intro n2 vs B W hd hA _ ⟨hw, hvs⟩; subst hw hvs
  simp only [List.zip_cons_cons, List.zip_nil_right, List.zip_nil_left]
  repeat' (first | refine X_pure Try.func114 (insNil_calls) ?_ | refine X_gpure Try.func114 (fun _ => insNil_calls) ?_ | refine X_d (fun vb hvb => ?_) | refine X_dg (fun vb hvb => ?_) | refine X_q ?_ | refine X_g ?_ | refine X_gf ?_ | refine X_niln ?_ | refine X_nil ?_ | (refine X_var (fun yn bn hn1 hn2 hn3 hn4 hn5 => ?_)) | refine W_seqk (fun K hK => ?_) | refine W_seqr ?_ | refine W_ret ?_ | refine W_skip ?_ | refine W_block ?_ | refine W_exit ?_ | (refine X_s (fun x K hK => ?_); go_simp; refine hK _ _ (Ext.alloc _ _) ?_; clear hK K; refine X_al x ?_; generalize (World.later _ x).heap.size = bn; intro yn hn1 hn2 hn3 hn4 hn5; clear x) | refine W_tt ?_ | refine W_ff ?_ | refine W_test (fun hc => ?_) (fun hc => ?_) | go_step)
  exact Body_ret0 hd ⟨rfl, by simp⟩
theorem sortNil_calls {w : World} {fv : Value} : Pure Try.prog 91 #[.slice none 0 0, fv] w (.tuple #[]) := by
  refine Fn_of Try.func91 rfl (Nat.le_of_ble_eq_true rfl) ?_; intro A hd hA; simp only [ix, Nat.reduceAdd]; replace hA : A.tmps.size = 14 := hA
  repeat' (first | refine X_pure Try.func110 (len0_calls) ?_ | refine X_gpure Try.func110 (fun _ => len0_calls) ?_ | refine X_pure Try.func109 (pdqNil_calls) ?_ | refine X_gpure Try.func109 (fun _ => pdqNil_calls) ?_ | refine X_d (fun vb hvb => ?_) | refine X_dg (fun vb hvb => ?_) | refine X_q ?_ | refine X_g ?_ | refine X_gf ?_ | refine X_niln ?_ | refine X_nil ?_ | (refine X_var (fun yn bn hn1 hn2 hn3 hn4 hn5 => ?_)) | refine W_seqk (fun K hK => ?_) | refine W_seqr ?_ | refine W_ret ?_ | refine W_skip ?_ | refine W_block ?_ | refine W_exit ?_ | (refine X_s (fun x K hK => ?_); go_simp; refine hK _ _ (Ext.alloc _ _) ?_; clear hK K; refine X_al x ?_; generalize (World.later _ x).heap.size = bn; intro yn hn1 hn2 hn3 hn4 hn5; clear x) | refine W_tt ?_ | refine W_ff ?_ | refine W_test (fun hc => ?_) (fun hc => ?_) | go_step)
  exact Body_ret0 hd ⟨rfl, by simp⟩
theorem sort64_any {w : World} {g : Nat} {cb : Array Value} {v : Int → Int} {xs : List Int} {u : Value} (hown : OwnL w u xs) (hN : xs.length < 1000000)
    (eg : ∀ args w, (callFunc g args).run Try.prog w = .ok (.enter g args) w)
    (hcmp : ∀ bk, u.ownBlock = some bk → ∀ W, Mod (· = bk) w W → ∀ x y : Int, Calls Try.prog g (#[.int .i64 x, .int .i64 y] ++ cb) W fun e w' => e = .returned (.int .i64 (cmpBy v x y)) ∧ ∃ q os', w' = Go.Sort.grow (W.drewN q) os') :
    Ret Try.prog 91 #[u, .func (.func g) #[] cb] w fun r w' => ∃ ys, ys.Perm xs ∧ ys.Pairwise (fun a b => v a ≤ v b) ∧ r = .tuple #[] ∧ OwnL w' u ys ∧ Mod (fun k => u.ownBlock = some k) w w' := by
  by_cases hne : u = .slice none 0 0
  · subst hne
    obtain rfl : xs = [] := by
      rcases hown.shape with ⟨-, h⟩ | ⟨g', c, h, -⟩
      · exact h
      · cases h
    exact Ret.mono sortNil_calls fun r w' ⟨hr, hE⟩ => ⟨[], List.Perm.refl _, List.Pairwise.nil, hr, Own.nil _, hE.mod⟩
  · exact sort64_calls hown hne hN eg hcmp
theorem mem_keys {L : List (Int × Int × Nat)} (hn : (L.map (·.1)).Nodup) {xs : List Int} (h : AllOf L (·.1) xs) : xs.Nodup ∧ ∀ x, x ∈ xs ↔ (look L x).isSome = true := by
  obtain ⟨P, hP, rfl⟩ := h
  refine ⟨(hP.map (·.1)).nodup_iff.2 hn, fun x => ?_⟩
  rw [List.mem_map]
  constructor
  · rintro ⟨y, hy, rfl⟩
    exact Option.isSome_iff_exists.2 ⟨_, (look_iff hn _ _).2 ⟨y.2.2, hP.mem_iff.1 hy⟩⟩
  · intro hk
    obtain ⟨v, hv⟩ := Option.isSome_iff_exists.1 hk
    obtain ⟨b, hb⟩ := (look_iff hn _ _).1 hv
    exact ⟨_, hP.mem_iff.2 hb, rfl⟩
/-- The keys of a map in the order of their values. -/
theorem sorted_calls {w : World} {m : Nat} {L : List (Int × Int × Nat)} {clock : Nat} (hm : MapL ki ki w m L clock) (hN : L.length < 1000000) :
    Ret Try.prog 75 #[.map (some m)] w fun v w' => ∃ xs, xs.Nodup ∧ (∀ n, n ∈ xs ↔ (look L n).isSome = true) ∧ xs.length ≤ L.length ∧ xs.Pairwise (fun a b => (look L a).getD 0 ≤ (look L b).getD 0) ∧ Ext w w' ∧ OwnL w' v xs ∧ ∀ b, v.ownBlock = some b → w.heap.size ≤ b := by
  have HM := Lib.hid hm
  clear hm
  refine Fn_of Try.func75 rfl (Nat.le_of_ble_eq_true rfl) ?_; intro A hd hA; simp only [ix, Nat.reduceAdd]; replace hA : A.tmps.size = 11 := hA
  repeat' (first | refine X_d (fun vb hvb => ?_) | refine X_dg (fun vb hvb => ?_) | refine X_q ?_ | refine X_g ?_ | refine X_gf ?_ | refine X_niln ?_ | refine X_nil ?_ | (refine X_var (fun yn bn hn1 hn2 hn3 hn4 hn5 => ?_)) | refine W_seqk (fun K hK => ?_) | refine W_seqr ?_ | refine W_ret ?_ | refine W_skip ?_ | refine W_block ?_ | refine W_exit ?_ | (refine X_s (fun x K hK => ?_); go_simp; refine hK _ _ (Ext.alloc _ _) ?_; clear hK K; refine X_al x ?_; generalize (World.later _ x).heap.size = bn; intro yn hn1 hn2 hn3 hn4 hn5; clear x) | refine W_tt ?_ | refine W_ff ?_ | refine W_test (fun hc => ?_) (fun hc => ?_) | go_step)
  rename Nat => bx
  rename Later w => y0
  refine X_ret Try.func90 keysOf_calls (fun v' w1 hR => ?_)
  obtain ⟨bk, rfl, hE1, hk1, hk2, hk3⟩ := hR
  obtain ⟨y1, rfl⟩ := hE1.get
  clear hE1
  have hM1 : MapL ki ki ((w.later y0).later y1) m L clock := (HM.out.later y0.2).later y1.2
  have HM1 := Lib.hid hM1
  clear hM1
  repeat' (first | refine X_d (fun vb hvb => ?_) | refine X_dg (fun vb hvb => ?_) | refine X_q ?_ | refine X_g ?_ | refine X_gf ?_ | refine X_niln ?_ | refine X_nil ?_ | (refine X_var (fun yn bn hn1 hn2 hn3 hn4 hn5 => ?_)) | refine W_seqk (fun K hK => ?_) | refine W_seqr ?_ | refine W_ret ?_ | refine W_skip ?_ | refine W_block ?_ | refine W_exit ?_ | (refine X_s (fun x K hK => ?_); go_simp; refine hK _ _ (Ext.alloc _ _) ?_; clear hK K; refine X_al x ?_; generalize (World.later _ x).heap.size = bn; intro yn hn1 hn2 hn3 hn4 hn5; clear x) | refine W_tt ?_ | refine W_ff ?_ | refine W_test (fun hc => ?_) (fun hc => ?_) | go_step)
  refine X_ret Try.func89 (collect64_calls (N := L.length) Try.func108 (by kernel_rfl) (Iter.pre_mono (keys_iter hk2 hk3 HM1.out) (fun xs h => h.len)) (fun j hj => by rcases hj with rfl | rfl; exact hk2; exact HM1.out.lt) (by omega)) (fun v' w2 hR => ?_)
  obtain ⟨xs, hS, hE2, hO, hF⟩ := hR
  obtain ⟨y2, rfl⟩ := hE2.get
  obtain ⟨hnd, hmem⟩ := mem_keys HM.out.keys hS
  have hxl : xs.length ≤ L.length := by
    obtain ⟨P, hP, rfl⟩ := hS
    rw [List.length_map, hP.length_eq]; exact Nat.le_refl _
  clear hE2 hS
  obtain ⟨A9, n9, c9, rfl⟩ : ∃ A9 n9 c9, v' = .slice A9 n9 c9 := by
    rcases hO.shape with ⟨h, _⟩ | ⟨g, c, h, _⟩
    · exact ⟨_, _, _, h⟩
    · exact ⟨_, _, _, h⟩
  have HO := Lib.hid hO
  have HF := Lib.hid hF
  have hbx : bx < w.heap.size + 0 ∨ True := .inr trivial
  have s0 : w.heap.size ≤ (w.later y0).heap.size := y0.2.size
  have s1 : (w.later y0).heap.size ≤ ((w.later y0).later y1).heap.size := y1.2.size
  have s2 : ((w.later y0).later y1).heap.size ≤ (((w.later y0).later y1).later y2).heap.size := y2.2.size
  have hcmp : ∀ (V : World), Ext (((w.later y0).later y1).later y2) V → ∀ bk, (Value.slice A9 n9 c9).ownBlock = some bk → ∀ W, Mod (· = bk) V W → ∀ x y : Int, Calls Try.prog 92 (#[.int .i64 x, .int .i64 y] ++ #[.pointer (some ⟨bx, 0, none⟩)]) W fun e w' => e = .returned (.int .i64 (cmpBy (fun n => (look L n).getD 0) x y)) ∧ ∃ q os', w' = Go.Sort.grow (W.drewN q) os' := by
    intro V hV bk hbk W hMW x y
    have hbk1 := HF.out bk hbk
    have hmlt := HM.out.lt
    have c1 : W.cell? ⟨bx, 0, none⟩ = some (.map (some m)) := by
      rw [cell?_mod hMW (by have := hV.size; omega) (by omega), cell?_mod hV (by omega) (fun h => h), cell?_later _ y2 _ _ (by omega), cell?_later _ y1 _ _ (by omega)]
      exact hn3 0
    have hm2 : MapL ki ki W m L clock := (((HM1.out.later y2.2).later hV).mod hMW (by omega))
    refine Calls.mono (bykey_c (f := look L) (by have := hMW.size; have := hV.size; omega) c1 ⟨L, clock, hm2, fun _ => rfl⟩ x y) ?_
    rintro e w' ⟨rfl, rfl⟩
    exact ⟨rfl, 0, #[], by simp [World.drewN]⟩
  have HC := Lib.hid hcmp
  have HND := Lib.hid hnd
  have HME := Lib.hid hmem
  clear hcmp hO hF hnd hmem
  repeat' (first | refine X_d (fun vb hvb => ?_) | refine X_dg (fun vb hvb => ?_) | refine X_q ?_ | refine X_g ?_ | refine X_gf ?_ | refine X_niln ?_ | refine X_nil ?_ | (refine X_var (fun yn bn hn1 hn2 hn3 hn4 hn5 => ?_)) | refine W_seqk (fun K hK => ?_) | refine W_seqr ?_ | refine W_ret ?_ | refine W_skip ?_ | refine W_block ?_ | refine W_exit ?_ | (refine X_s (fun x K hK => ?_); go_simp; refine hK _ _ (Ext.alloc _ _) ?_; clear hK K; refine X_al x ?_; generalize (World.later _ x).heap.size = bn; intro yn hn1 hn2 hn3 hn4 hn5; clear x) | refine W_tt ?_ | refine W_ff ?_ | refine W_test (fun hc => ?_) (fun hc => ?_) | go_step)
  refine X_ret Try.func91 (sort64_any (v := fun n => (look L n).getD 0) (HO.out.later (by simp)) (by omega) (enters_of Try.func92 (by kernel_rfl) rfl) (HC.out _ (by simp))) (fun v' w3 hR => ?_)
  obtain ⟨ys, hp, hs, rfl, hO2, hM2⟩ := hR
  have HE3 : Hid (Ext w w3) := Lib.hid (Ext.fresh (by simp) hM2 (fun i hi => by have := HF.out i hi; omega))
  clear hM2
  have HO2 := Lib.hid hO2
  clear hO2
  repeat' (first | refine X_d (fun vb hvb => ?_) | refine X_dg (fun vb hvb => ?_) | refine X_q ?_ | refine X_g ?_ | refine X_gf ?_ | refine X_niln ?_ | refine X_nil ?_ | (refine X_var (fun yn bn hn1 hn2 hn3 hn4 hn5 => ?_)) | refine W_seqk (fun K hK => ?_) | refine W_seqr ?_ | refine W_ret ?_ | refine W_skip ?_ | refine W_block ?_ | refine W_exit ?_ | (refine X_s (fun x K hK => ?_); go_simp; refine hK _ _ (Ext.alloc _ _) ?_; clear hK K; refine X_al x ?_; generalize (World.later _ x).heap.size = bn; intro yn hn1 hn2 hn3 hn4 hn5; clear x) | refine W_tt ?_ | refine W_ff ?_ | refine W_test (fun hc => ?_) (fun hc => ?_) | go_step)
  refine Body_ret hd ⟨ys, hp.nodup_iff.2 HND.out, fun n => (hp.mem_iff).trans (HME.out n), by rw [hp.length_eq]; exact hxl, hs, HE3.out, HO2.out, fun b hb => by have := HF.out b hb; omega⟩
end Go.Ws
