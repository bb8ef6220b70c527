import Derived.Test.YtkdcgmloapmpkaaLawN
namespace Go.Ws
open Go Go.RowKit Go.Proofs
set_option maxHeartbeats 2000000
set_option maxRecDepth 100000
set_option linter.unusedVariables false
set_option linter.unusedSimpArgs false
set_option pp.deepTerms true
set_option pp.maxSteps 100000000

def ent0 : Ent := ⟨1, -1, 0, 0, 1, 0⟩
def rep0 (n : Nat) : List Ent := List.replicate n ent0
theorem rep0_succ (n : Nat) : rep0 (n + 1) = rep0 n ++ [ent0] := by simp [rep0, List.replicate_succ']
theorem rep0_no {n : Nat} (h : n < 4096) : appendNo (rep0 n) ent0 = 0 := by
  have hr : rightB ent0 = true := by decide
  have hl : lastEp (rep0 n) ent0 = false := by
    unfold lastEp
    cases n with
    | zero => rfl
    | succ n => rw [rep0_succ]; simp
  unfold appendNo
  rw [hr, if_neg (by simp), if_neg (by simp [rep0]; omega), hl, if_neg (by simp)]
theorem rep0_ok : ∀ (n : Nat), n ≤ 4096 → ofNo (rep0 n) = 0
  | 0, _ => rfl
  | n + 1, h => by rw [rep0_succ]; exact ofNo_snoc (rep0_ok n (by omega)) (rep0_no (by omega))
def d10 : Ent := ⟨1, 0, 1, 0, 1, 0⟩
theorem rep0_long : appendNo (rep0 4096) d10 = 3 := by
  unfold appendNo
  rw [show rightB d10 = true by decide, if_neg (by simp), if_pos (by simp [rep0])]
theorem rep0_longc : checkNo (rep0 4096) d10 = 3 := by unfold checkNo; rw [if_pos (by rw [rep0_long]; decide), rep0_long]
theorem rep0_last : appendNo (rep0 4095) d10 = 0 := by
  have hl : lastEp (rep0 4095) d10 = false := by
    unfold lastEp
    rw [show (4095 : Nat) = 4094 + 1 from rfl, rep0_succ]; simp; decide
  unfold appendNo
  rw [show rightB d10 = true by decide, if_neg (by simp), if_neg (by simp [rep0]), hl, if_neg (by simp)]
theorem rep0_take : (rep0 4096).take 4095 = rep0 4095 := by simp [rep0]
theorem rep0_mem {n : Nat} {e : Ent} (h : e ∈ rep0 n) : e = ent0 := List.eq_of_mem_replicate h
theorem rep0_opens (n : Nat) (i : Int) (hi : 0 ≤ i) : opensB (rep0 n) i = [] := by
  rw [List.eq_nil_iff_forall_not_mem]
  intro o ho
  obtain ⟨-, h⟩ := (mem_opensB _ _ _).1 ho
  unfold firstOf at h
  cases h1 : (rep0 n).findIdx? (dataB i o.num) with
  | none => rw [h1] at h; cases h
  | some k =>
    obtain ⟨hn, p1, -⟩ := List.findIdx?_eq_some_iff_getElem.1 h1
    have := rep0_mem (List.getElem_mem hn)
    rw [this] at p1
    simp [dataB, ent0] at p1
    omega
theorem d10_opens (n : Nat) (i : Nat) : ∀ o, o ∈ opensB (rep0 n ++ [d10]) i → o.first = n := by
  intro o ho
  obtain ⟨-, h⟩ := (mem_opensB _ _ _).1 ho
  rw [firstOf_snoc] at h
  have h0 : firstOf (rep0 n) i o.num = none := by
    unfold firstOf
    cases h1 : (rep0 n).findIdx? (dataB i o.num) with
    | none => rfl
    | some k =>
      obtain ⟨hn, p1, -⟩ := List.findIdx?_eq_some_iff_getElem.1 h1
      have := rep0_mem (List.getElem_mem hn)
      rw [this] at p1
      simp [dataB, ent0] at p1
  rw [h0, Option.none_or] at h
  by_cases hp : dataB i o.num d10 = true
  · rw [if_pos hp] at h
    have := Option.some.inj h
    rw [← this]; simp [rep0]
  · rw [if_neg hp] at h; cases h
theorem minF_same {c : Int} {os : List Opn} (h : ∀ o ∈ os, o.first = c) : minF c os = c := by
  rw [minF_eq]
  rcases foldl_min_mem (os.map (·.first)) c with h1 | h1
  · exact h1
  · obtain ⟨o, ho, he⟩ := List.mem_map.1 h1
    rw [← he]; exact h o ho
theorem rep0_stable (n : Nat) : stableB (rep0 n) = n := by
  have h0 : stTo (rep0 n) 0 = n := by simp [stTo, rep0]
  have h : ∀ k, stTo (rep0 n) k = n := by
    intro k
    induction k with
    | zero => exact h0
    | succ k ih =>
      rw [stTo, ih, rep0_opens n k (by omega)]; rfl
  exact h 4
theorem d10_stable : stableB (rep0 4095 ++ [d10]) = 4095 := by
  have h0 : stTo (rep0 4095 ++ [d10]) 0 = 4096 := by rw [stTo]; simp [rep0]
  have hm : (⟨1, 4095⟩ : Opn) ∈ opensB (rep0 4095 ++ [d10]) ((0 : Nat) : Int) := by
    rw [mem_opensB]
    refine ⟨?_, ?_⟩
    · rw [markedB_snoc]
      have : markedB (rep0 4095) ((0 : Nat) : Int) 1 = false := by
        unfold markedB
        rw [List.any_eq_false]
        intro e he
        rw [rep0_mem he]; decide
      simp only [this]; decide
    · rw [firstOf_snoc]
      have h1 : firstOf (rep0 4095) ((0 : Nat) : Int) 1 = none := by
        unfold firstOf
        cases h1 : (rep0 4095).findIdx? (dataB ((0 : Nat) : Int) 1) with
        | none => rfl
        | some k =>
          obtain ⟨hn, p1, -⟩ := List.findIdx?_eq_some_iff_getElem.1 h1
          have := rep0_mem (List.getElem_mem hn)
          rw [this] at p1
          simp [dataB, ent0] at p1
      simp only [h1, Option.none_or]
      rw [if_pos (by decide)]; simp [rep0]
  have h1 : stTo (rep0 4095 ++ [d10]) 1 = 4095 := by
    rw [stTo, h0, minF_eq]
    obtain ⟨-, hle⟩ := foldl_min_le ((opensB (rep0 4095 ++ [d10]) ((0 : Nat) : Int)).map (·.first)) 4096
    have hle := hle 4095 (List.mem_map.2 ⟨_, hm, rfl⟩)
    rcases foldl_min_mem ((opensB (rep0 4095 ++ [d10]) ((0 : Nat) : Int)).map (·.first)) 4096 with h2 | h2
    · omega
    · obtain ⟨o, ho, he⟩ := List.mem_map.1 h2
      have := d10_opens 4095 0 o ho
      rw [← he, this]; rfl
  have hs : ∀ k, stTo (rep0 4095 ++ [d10]) (k + 1) = 4095 := by
    intro k
    induction k with
    | zero => exact h1
    | succ k ih => rw [stTo, ih]; exact minF_same (fun o ho => (d10_opens 4095 (k + 1) o ho).trans rfl)
  exact hs 3
theorem long8_calls (w : World) : Pure Try.prog 12 #[] w (.bool true) := by
  refine Fn_of Try.func12 rfl (Nat.le_of_ble_eq_true rfl) ?_; intro A hd hA; simp only [ix, Nat.reduceAdd]; replace hA : A.tmps.size = 60 := hA
  repeat' (first | refine X_gt ?_ | refine X_q ?_ | refine X_g ?_ | refine X_gf ?_ | refine X_niln ?_ | refine X_nil ?_ | (refine X_var (fun yn bn hn1 hn2 hn3 hn4 hn5 => ?_)) | refine W_seqk (fun K hK => ?_) | refine W_seqr ?_ | refine W_ret ?_ | refine W_skip ?_ | refine W_block ?_ | refine W_exit ?_ | (refine X_s (fun x K hK => ?_); go_simp; refine hK _ _ (Ext.alloc _ _) ?_; clear hK K; refine X_al x ?_; generalize (World.later _ x).heap.size = bn; intro yn hn1 hn2 hn3 hn4 hn5; clear x) | refine W_tt ?_ | refine W_ff ?_ | refine W_test (fun hc => ?_) (fun hc => ?_) | go_step)
  refine X_ret Try.func48 (tabNew_calls _) (fun v' w1 hR => ?_)
  obtain ⟨bt, rfl, hE1, hT⟩ := hR
  have HT0 := Lib.hid hT.here
  have HE0 := Lib.hid hE1
  clear hE1 hT
  repeat' (first | refine X_gt ?_ | refine X_q ?_ | refine X_g ?_ | refine X_gf ?_ | refine X_niln ?_ | refine X_nil ?_ | (refine X_var (fun yn bn hn1 hn2 hn3 hn4 hn5 => ?_)) | refine W_seqk (fun K hK => ?_) | refine W_seqr ?_ | refine W_ret ?_ | refine W_skip ?_ | refine W_block ?_ | refine W_exit ?_ | (refine X_s (fun x K hK => ?_); go_simp; refine hK _ _ (Ext.alloc _ _) ?_; clear hK K; refine X_al x ?_; generalize (World.later _ x).heap.size = bn; intro yn hn1 hn2 hn3 hn4 hn5; clear x) | refine W_tt ?_ | refine W_ff ?_ | refine W_test (fun hc => ?_) (fun hc => ?_) | go_step)
  refine W_loops [1, 2] (fun n vs W => ∃ (k : Nat) (F : Nat → Prop), k + n = 4096 ∧ vs = [.pointer (some ⟨bt, 0, none⟩), .int .i64 k] ∧ Tab W bt F (rep0 k) ∧ Ext w W ∧ ∀ j, F j → w.heap.size ≤ j) 4096 hd hA (by decide) ⟨0, _, by omega, by simp, HT0.out, HE0.out, fun j hj => hj.1⟩ ?_
  clear hd hA A HT0 HE0; intro n vs B W hd hA _ ⟨k, F, hk, hvs, hT, hE, hF⟩; subst hvs
  simp only [List.zip_cons_cons, List.zip_nil_right, List.zip_nil_left]
  have HT := Lib.hid hT
  have HE := Lib.hid hE
  have HF := Lib.hid hF
  clear hT hE hF
  by_cases hlt : k < 4096
  · have hki : (k : Int) < 4096 := by omega
    have HNO := Lib.hid (rep0_no hlt)
    refine W_seqk (fun K hK => ?_)
    repeat' (first | refine X_gt ?_ | refine X_q ?_ | refine X_g ?_ | refine X_gf ?_ | refine X_niln ?_ | refine X_nil ?_ | (refine X_var (fun yn bn hn1 hn2 hn3 hn4 hn5 => ?_)) | refine W_seqk (fun K hK => ?_) | refine W_seqr ?_ | refine W_ret ?_ | refine W_skip ?_ | refine W_block ?_ | refine W_exit ?_ | (refine X_s (fun x K hK => ?_); go_simp; refine hK _ _ (Ext.alloc _ _) ?_; clear hK K; refine X_al x ?_; generalize (World.later _ x).heap.size = bn; intro yn hn1 hn2 hn3 hn4 hn5; clear x) | refine W_tt ?_ | refine W_ff ?_ | refine W_test (fun hc => ?_) (fun hc => ?_) | go_step)
    refine X_ret Try.func50 (tabAppend_calls (HT.out.later (by simp)) ent0) (fun v' W2 hR => ?_)
    obtain ⟨rfl, hM2, hT2⟩ := hR
    rw [HNO.out] at hT2 ⊢
    rw [if_pos rfl, ← rep0_succ] at hT2
    have HT2 := Lib.hid hT2
    have HE2 := Lib.hid (Ext.fresh HE.out hM2 HF.out)
    have hsz := HE.out.size
    clear hM2 hT2
    repeat' (first | refine X_pure Try.func45 (num8_calls _ _) ?_ | refine X_gpure Try.func45 (fun _ => num8_calls _ _) ?_ | refine X_gt ?_ | refine X_q ?_ | refine X_g ?_ | refine X_gf ?_ | refine X_niln ?_ | refine X_nil ?_ | (refine X_var (fun yn bn hn1 hn2 hn3 hn4 hn5 => ?_)) | refine W_seqk (fun K hK => ?_) | refine W_seqr ?_ | refine W_ret ?_ | refine W_skip ?_ | refine W_block ?_ | refine W_exit ?_ | (refine X_s (fun x K hK => ?_); go_simp; refine hK _ _ (Ext.alloc _ _) ?_; clear hK K; refine X_al x ?_; generalize (World.later _ x).heap.size = bn; intro yn hn1 hn2 hn3 hn4 hn5; clear x) | refine W_tt ?_ | refine W_ff ?_ | refine W_test (fun hc => ?_) (fun hc => ?_) | go_step)
    exact ⟨_, _, rfl, hd, hA, n - 1, by omega, k + 1, _, by omega, by simp, HT2.out.later (by simp), Ext.trans HE2.out (by simp), fun j hj => hj.elim (fun h => HF.out j h) (fun h => by omega)⟩
  · obtain rfl : k = 4096 := by omega
    have hok := rep0_ok 4096 (by omega)
    repeat' (first | refine X_pure Try.func52 (data8_calls _ _ _) ?_ | refine X_gpure Try.func52 (fun _ => data8_calls _ _ _) ?_ | refine X_gt ?_ | refine X_q ?_ | refine X_g ?_ | refine X_gf ?_ | refine X_niln ?_ | refine X_nil ?_ | (refine X_var (fun yn bn hn1 hn2 hn3 hn4 hn5 => ?_)) | refine W_seqk (fun K hK => ?_) | refine W_seqr ?_ | refine W_ret ?_ | refine W_skip ?_ | refine W_block ?_ | refine W_exit ?_ | (refine X_s (fun x K hK => ?_); go_simp; refine hK _ _ (Ext.alloc _ _) ?_; clear hK K; refine X_al x ?_; generalize (World.later _ x).heap.size = bn; intro yn hn1 hn2 hn3 hn4 hn5; clear x) | refine W_tt ?_ | refine W_ff ?_ | refine W_test (fun hc => ?_) (fun hc => ?_) | go_step)
    refine X_ret Try.func50 (tabAppend_calls (HT.out.later (by simp)) d10) (fun v' W2 hR => ?_)
    obtain ⟨rfl, hM2, hT2⟩ := hR
    rw [rep0_long] at hT2 ⊢
    rw [if_neg (by decide)] at hT2
    have HT2 := Lib.hid hT2
    have HE2 := Lib.hid (Ext.fresh HE.out hM2 HF.out)
    have hsz := HE.out.size
    have HF2 : Hid (∀ j, (F j ∨ W.heap.size ≤ j) → w.heap.size ≤ j) := Lib.hid (fun j hj => hj.elim (fun h => HF.out j h) (fun h => by omega))
    have hl : ((rep0 4096).length : Int) = 4096 := by simp [rep0]
    have HC := Lib.hid (fun (V : World) (G : Nat → Prop) (h : Tab V bt G (rep0 4096)) => (rep0_longc ▸ tabCheck_calls h (rep0_ok 4096 (by omega)) d10 : Pure Try.prog 49 #[.pointer (some ⟨bt, 0, none⟩), d10.v] V (.int .i64 3)))
    have HS := Lib.hid (fun (V : World) (G : Nat → Prop) (h : Tab V bt G (rep0 4096)) => (rep0_stable 4096 ▸ tabStable_calls h (rep0_ok 4096 (by omega)) : Pure Try.prog 53 #[.pointer (some ⟨bt, 0, none⟩)] V (.int .i64 ((4096 : Nat) : Int))))
    have HLN := Lib.hid (fun (V : World) (G : Nat → Prop) (h : Tab V bt G (rep0 4096)) => (hl ▸ tabLen_calls h : Pure Try.prog 51 #[.pointer (some ⟨bt, 0, none⟩)] V (.int .i64 4096)))
    clear hM2 hT2 HT HE HF hl
    repeat' (first | refine X_pure Try.func52 (data8_calls _ _ _) ?_ | refine X_gpure Try.func52 (fun _ => data8_calls _ _ _) ?_ | refine X_pure Try.func45 (num8_calls _ _) ?_ | refine X_gpure Try.func45 (fun _ => num8_calls _ _) ?_ | (refine X_pure Try.func49 (HC.out _ _ (HT2.out.later (by simp))) ?_) | (refine X_pure Try.func53 (HS.out _ _ (HT2.out.later (by simp))) ?_) | (refine X_pure Try.func51 (HLN.out _ _ (HT2.out.later (by simp))) ?_) | refine X_gt ?_ | refine X_q ?_ | refine X_g ?_ | refine X_gf ?_ | refine X_niln ?_ | refine X_nil ?_ | (refine X_var (fun yn bn hn1 hn2 hn3 hn4 hn5 => ?_)) | refine W_seqk (fun K hK => ?_) | refine W_seqr ?_ | refine W_ret ?_ | refine W_skip ?_ | refine W_block ?_ | refine W_exit ?_ | (refine X_s (fun x K hK => ?_); go_simp; refine hK _ _ (Ext.alloc _ _) ?_; clear hK K; refine X_al x ?_; generalize (World.later _ x).heap.size = bn; intro yn hn1 hn2 hn3 hn4 hn5; clear x) | refine W_tt ?_ | refine W_ff ?_ | refine W_test (fun hc => ?_) (fun hc => ?_) | go_step)
    refine X_ret Try.func54 (tabTrunc_calls (HT2.out.later (by simp)) hok 4095) (fun v' W3 hR => ?_)
    rw [if_neg (by simp [rep0])] at hR
    obtain ⟨rfl, hM3, hT3⟩ := hR
    have hT3 : Tab W3 bt _ (rep0 4095) := rep0_take ▸ hT3
    have HT3 := Lib.hid hT3
    have HE3 := Lib.hid (Ext.fresh (HE2.out.trans (by simp)) hM3 HF2.out)
    have hsz2 := HE2.out.size
    clear hM3 hT3
    repeat' (first | refine X_pure Try.func52 (data8_calls _ _ _) ?_ | refine X_gpure Try.func52 (fun _ => data8_calls _ _ _) ?_ | refine X_pure Try.func45 (num8_calls _ _) ?_ | refine X_gpure Try.func45 (fun _ => num8_calls _ _) ?_ | refine X_gt ?_ | refine X_q ?_ | refine X_g ?_ | refine X_gf ?_ | refine X_niln ?_ | refine X_nil ?_ | (refine X_var (fun yn bn hn1 hn2 hn3 hn4 hn5 => ?_)) | refine W_seqk (fun K hK => ?_) | refine W_seqr ?_ | refine W_ret ?_ | refine W_skip ?_ | refine W_block ?_ | refine W_exit ?_ | (refine X_s (fun x K hK => ?_); go_simp; refine hK _ _ (Ext.alloc _ _) ?_; clear hK K; refine X_al x ?_; generalize (World.later _ x).heap.size = bn; intro yn hn1 hn2 hn3 hn4 hn5; clear x) | refine W_tt ?_ | refine W_ff ?_ | refine W_test (fun hc => ?_) (fun hc => ?_) | go_step)
    refine X_ret Try.func50 (tabAppend_calls (HT3.out.later (by simp)) d10) (fun v' W4 hR => ?_)
    obtain ⟨rfl, hM4, hT4⟩ := hR
    rw [rep0_last] at hT4 ⊢
    rw [if_pos rfl] at hT4
    have HT4 := Lib.hid hT4
    have HE4 := Lib.hid (Ext.fresh (HE3.out.trans (by simp)) hM4 (fun j hj => hj.elim (fun h => HF2.out j h) (fun h => by omega)))
    have hok4 : ofNo (rep0 4095 ++ [d10]) = 0 := ofNo_snoc (rep0_ok 4095 (by omega)) rep0_last
    have HS4 := Lib.hid (fun (V : World) (G : Nat → Prop) (h : Tab V bt G (rep0 4095 ++ [d10])) => (d10_stable ▸ tabStable_calls h hok4 : Pure Try.prog 53 #[.pointer (some ⟨bt, 0, none⟩)] V (.int .i64 4095)))
    clear hM4 hT4 hT3
    repeat' (first | refine X_pure Try.func45 (num8_calls _ _) ?_ | refine X_gpure Try.func45 (fun _ => num8_calls _ _) ?_ | (refine X_pure Try.func53 (HS4.out _ _ (HT4.out.later (by simp))) ?_) | refine X_pure Try.func41 (works8_calls) ?_ | refine X_gpure Try.func41 (fun _ => works8_calls) ?_ | refine X_gt ?_ | refine X_q ?_ | refine X_g ?_ | refine X_gf ?_ | refine X_niln ?_ | refine X_nil ?_ | (refine X_var (fun yn bn hn1 hn2 hn3 hn4 hn5 => ?_)) | refine W_seqk (fun K hK => ?_) | refine W_seqr ?_ | refine W_ret ?_ | refine W_skip ?_ | refine W_block ?_ | refine W_exit ?_ | (refine X_s (fun x K hK => ?_); go_simp; refine hK _ _ (Ext.alloc _ _) ?_; clear hK K; refine X_al x ?_; generalize (World.later _ x).heap.size = bn; intro yn hn1 hn2 hn3 hn4 hn5; clear x) | refine W_tt ?_ | refine W_ff ?_ | refine W_test (fun hc => ?_) (fun hc => ?_) | go_step)
    exact Body_ret hd ⟨rfl, Ext.trans HE4.out (by simp)⟩
end Go.Ws
