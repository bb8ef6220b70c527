import Derived.Test.YtkdcgmloapmpkaaRow
namespace Go.Ws
open Go Go.RowKit Go.Proofs Go.ChangeAt
set_option maxRecDepth 100000
set_option linter.unusedSimpArgs false

theorem toList_of {s : String} {l : List Char} (h : s = String.ofList l) : s.toList = l := by subst h; exact String.toList_ofList
theorem wordsSigns_word : ∀ (w r : List Char), (w.all fun c => c.toNat != 32) = true → wordsSigns (w ++ Char.ofNat 32 :: r) = w :: wordsSigns r
  | [], r, _ => rfl
  | c :: w, r, h => by
    simp only [List.all_cons, Bool.and_eq_true] at h
    have ih := wordsSigns_word w r h.2
    have hc : c ≠ Char.ofNat 32 := by rintro rfl; exact absurd h.1 (by decide)
    rw [List.cons_append, wordsSigns, ih]
    exact hc
/-- The head's words, by their letters' numbers. -/
def word0 : List Char := [104, 97, 114, 110, 101, 115, 115].map Char.ofNat
def word1 : List Char := [99, 98, 57, 48, 52, 50, 100, 100, 50, 97, 57, 54, 98, 102, 97, 99, 50, 99, 49, 55, 102, 54, 57, 54, 98, 49, 48, 55, 50, 49, 55, 55, 53, 52, 54, 51, 97, 102, 49, 56, 98, 48, 51, 48, 50, 99, 51, 48, 52, 49, 48, 56, 97, 56, 50, 54, 49, 53, 51, 98, 99, 101, 49, 98].map Char.ofNat
def word2 : List Char := [99, 117, 116].map Char.ofNat
def word3 : List Char := [97, 116, 32, 119, 97, 121, 115, 116, 97, 116, 105, 111, 110, 47, 119, 97, 121, 115, 116, 97, 116, 105, 111, 110, 108, 97, 119, 48, 57, 46, 86, 105, 115, 105, 98, 108, 101, 86, 105, 101, 119, 115, 32, 119, 97, 121, 115, 116, 97, 116, 105, 111, 110, 47, 119, 97, 121, 115, 116, 97, 116, 105, 111, 110, 108, 97, 119, 48, 57, 46, 86, 105, 115, 105, 98, 108, 101, 71, 111, 111, 100, 115, 32, 119, 97, 121, 115, 116, 97, 116, 105, 111, 110, 47, 119, 97, 121, 115, 116, 97, 116, 105, 111, 110, 108, 97, 119, 48, 57, 46, 86, 105, 115, 105, 98, 108, 101, 65, 108, 108, 32, 119, 97, 121, 115, 116, 97, 116, 105, 111, 110, 47, 119, 97, 121, 115, 116, 97, 116, 105, 111, 110, 108, 97, 119, 48, 57, 46, 86, 105, 115, 105, 98, 108, 101, 69, 110, 100, 115, 32, 119, 97, 121, 115, 116, 97, 116, 105, 111, 110, 47, 119, 97, 121, 115, 116, 97, 116, 105, 111, 110, 108, 97, 119, 48, 57, 46, 86, 105, 115, 105, 98, 108, 101, 71, 114, 111, 119, 115, 32, 119, 97, 121, 115, 116, 97, 116, 105, 111, 110, 47, 119, 97, 121, 115, 116, 97, 116, 105, 111, 110, 108, 97, 119, 48, 57, 46, 86, 105, 115, 105, 98, 108, 101, 82, 101, 97, 100, 115, 32, 119, 97, 121, 115, 116, 97, 116, 105, 111, 110, 47, 119, 97, 121, 115, 116, 97, 116, 105, 111, 110, 108, 97, 119, 48, 57, 46, 86, 105, 115, 105, 98, 108, 101, 67, 111, 112, 105, 101, 115, 32, 119, 97, 121, 115, 116, 97, 116, 105, 111, 110, 47, 119, 97, 121, 115, 116, 97, 116, 105, 111, 110, 108, 97, 119, 48, 56, 46, 80, 114, 111, 100, 117, 99, 101, 114, 115, 87, 114, 105, 116, 101, 114, 115, 32, 119, 97, 121, 115, 116, 97, 116, 105, 111, 110, 47, 119, 97, 121, 115, 116, 97, 116, 105, 111, 110, 108, 97, 119, 48, 56, 46, 80, 114, 111, 100, 117, 99, 101, 114, 115, 79, 110, 99, 101, 32, 119, 97, 121, 115, 116, 97, 116, 105, 111, 110, 47, 119, 97, 121, 115, 116, 97, 116, 105, 111, 110, 108, 97, 119, 48, 56, 46, 80, 114, 111, 100, 117, 99, 101, 114, 115, 76, 111, 110, 103, 32, 119, 97, 121, 115, 116, 97, 116, 105, 111, 110, 47, 119, 97, 121, 115, 116, 97, 116, 105, 111, 110, 108, 97, 119, 48, 56, 46, 80, 114, 111, 100, 117, 99, 101, 114, 115, 77, 97, 107, 101, 115, 32, 119, 97, 121, 115, 116, 97, 116, 105, 111, 110, 47, 119, 97, 121, 115, 116, 97, 116, 105, 111, 110, 108, 97, 119, 48, 56, 46, 80, 114, 111, 100, 117, 99, 101, 114, 115, 76, 105, 110, 101, 115, 32, 119, 97, 121, 115, 116, 97, 116, 105, 111, 110, 47, 119, 97, 121, 115, 116, 97, 116, 105, 111, 110, 108, 97, 119, 48, 56, 46, 80, 114, 111, 100, 117, 99, 101, 114, 115, 79, 112, 101, 110, 115, 32, 119, 97, 121, 115, 116, 97, 116, 105, 111, 110, 47, 119, 97, 121, 115, 116, 97, 116, 105, 111, 110, 108, 97, 119, 48, 56, 46, 80, 114, 111, 100, 117, 99, 101, 114, 115, 80, 108, 97, 121, 115, 32, 119, 97, 121, 115, 116, 97, 116, 105, 111, 110, 47, 119, 97, 121, 115, 116, 97, 116, 105, 111, 110, 108, 97, 119, 48, 56, 46, 80, 114, 111, 100, 117, 99, 101, 114, 115, 67, 104, 101, 99, 107, 115, 32, 119, 97, 121, 115, 116, 97, 116, 105, 111, 110, 47, 119, 97, 121, 115, 116, 97, 116, 105, 111, 110, 108, 97, 119, 48, 56, 46, 80, 114, 111, 100, 117, 99, 101, 114, 115, 67, 111, 112, 105, 101, 115].map Char.ofNat
theorem headList : Try.prog.initOrder.toList = word0 ++ Char.ofNat 32 :: (word1 ++ Char.ofNat 32 :: (word2 ++ Char.ofNat 32 :: word3)) := toList_of (by kernel_rfl)
theorem headWords : wordsSigns Try.prog.initOrder.toList = word0 :: word1 :: word2 :: wordsSigns word3 := by
  rw [headList, wordsSigns_word _ _ (by decide +kernel), wordsSigns_word _ _ (by decide +kernel), wordsSigns_word _ _ (by decide +kernel)]
theorem behindHead (r : List (List Char)) : behindMainWord (word0 :: word1 :: word2 :: r) = word2 :: r := by kernel_rfl
theorem mainWords : behindMainWord (wordsSigns Try.prog.initOrder.toList) = word2 :: wordsSigns word3 := by rw [headWords, behindHead]
theorem gcNo : (word2 == "gc".toList) = false := by kernel_rfl
theorem specNo : (word2 == "spec".toList) = false := by kernel_rfl
theorem carriedNo : (word2 == "carried".toList) = false := by kernel_rfl
theorem cutYes : (word2 == "cut".toList) = true := by kernel_rfl
theorem strips (r : List (List Char)) : stripLifts liftWords (word2 :: r) = ([], word2 :: r) := by kernel_rfl
theorem laysNo : Try.prog.laysLater = false := by kernel_rfl
theorem reflNo : Try.prog.bearsReflect = false := by kernel_rfl
theorem doorYes : Try.prog.doorFits [] = true := by kernel_rfl
theorem headLifts_of {P : Program} {c : List Char} {r : List (List Char)} (h : behindMainWord (wordsSigns P.initOrder.toList) = c :: r) (hs : stripLifts liftWords (c :: r) = ([], c :: r)) : P.headLifts = [] := by
  unfold Program.headLifts
  rw [h, hs]
  exact ite_self _
theorem mayEnter_of {P : Program} {c : List Char} {r : List (List Char)} (h : behindMainWord (wordsSigns P.initOrder.toList) = c :: r) (hs : stripLifts liftWords (c :: r) = ([], c :: r))
    (h1 : (c == "gc".toList) = false) (h2 : (c == "spec".toList) = false) (h3 : (c == "carried".toList) = false) (h4 : ((c :: r).head? == some "cut".toList) = true) (h5 : P.laysLater = false) (h6 : P.bearsReflect = false) (h7 : P.doorFits [] = true) : P.mayEnter = true := by
  unfold Program.mayEnter
  rw [h]
  simp only [hs, h1, h2, h3, h4, h5, h6, h7, Bool.or_self, Bool.false_and, Bool.false_or, Bool.not_false, Bool.or_true, Bool.and_self, Bool.true_and, List.contains_nil]
theorem liftsFinal_of {P : Program} {c : List Char} {r : List (List Char)} (h : behindMainWord (wordsSigns P.initOrder.toList) = c :: r) (hl : P.headLifts = [])
    (h3 : ((c :: r).head? == some "carried".toList) = false) : P.liftsFinal = false := by
  unfold Program.liftsFinal
  rw [h, hl]
  simp only [h3, Bool.false_and, Bool.false_or, List.contains_nil]
theorem make_of {P : Program} {c : List Char} {r : List (List Char)} (h : behindMainWord (wordsSigns P.initOrder.toList) = c :: r)
    (h1 : (c == "gc".toList) = false) (h2 : (c == "spec".toList) = false) (h4 : (c == "cut".toList) = true) : P.make = some .cut := by
  unfold Program.make
  rw [h]
  simp only [h1, h2, h4, Bool.or_self, Bool.true_or, Bool.false_eq_true, if_false, if_true]
theorem headCut (r : List (List Char)) : ((word2 :: r).head? == some "cut".toList) = true := cutYes
theorem headCarried (r : List (List Char)) : ((word2 :: r).head? == some "carried".toList) = false := carriedNo
theorem headLiftsIs : Try.prog.headLifts = [] := headLifts_of mainWords (strips _)
theorem mayEnter : Try.prog.mayEnter = true := mayEnter_of mainWords (strips _) gcNo specNo carriedNo (headCut _) laysNo reflNo doorYes
theorem liftsFinal : Try.prog.liftsFinal = false := liftsFinal_of mainWords headLiftsIs (headCarried _)
theorem makeIs : Try.prog.make = some .cut := make_of mainWords gcNo specNo cutYes
theorem mapsRow : mapsRowed Try.prog = true := by kernel_rfl
theorem stopsIs : (Try.prog.stops == []) = true := by kernel_rfl
theorem stopKnobsIs : (Try.prog.stopKnobs == []) = true := by kernel_rfl
theorem plainKeysIs : Try.prog.plainKeys = false := by kernel_rfl
theorem stopsHeardIs : Try.prog.stopsHeard = true := by kernel_rfl
theorem joined_of {P : Program} {f : FuncId} {fn : Func} {s : ChangeSpec} {c : OpenClaim}
    (k0 : (c.wf (OpenSpec.ofChange s)) = true)
    (k1 : (laidOutB P) = true)
    (k2 : (mapsRowed P) = true)
    (k3 : (fn.params.all (P.readableRec ·)) = true)
    (k4 : (namedTie P c.named s.vars) = true)
    (k5 : (c.stops == []) = true)
    (k6 : (P.stops == []) = true)
    (k7 : (c.knobs == []) = true)
    (k8 : (P.stopKnobs == []) = true)
    (k9 : (c.inPlace == P.inPlace f) = true)
    (k10 : (c.unfollowed == P.unfollowed f) = true)
    (k11 : (c.recurses == P.recurses f) = true)
    (k12 : (c.named == P.varsNamed f) = true)
    (k13 : (c.maps == (fn.params.toList ++ s.plain.varTypes P).any (P.mapsRec ·)) = true)
    (k14 : (c.ifaces == (fn.params.toList ++ s.plain.varTypes P).any (P.ifacesRec ·)) = true)
    (k15 : (c.mapsOut == P.mapsAmong fn.resultTypes.toList) = true)
    (k16 : (c.loops == (fn.params.toList ++ s.plain.varTypes P).any (P.loopsFrom ·)) = true)
    (k17 : (c.wideKeys == (fn.params.toList ++ s.plain.varTypes P ++ fn.resultTypes.toList).any (P.wideKeysFrom ·)) = true)
    (k18 : (s.vars.all (P.varReadable ·)) = true)
    (k19 : (fn.resultTypes.all (fun t => P.readableRec t && decide (t < P.types.size))) = true)
    (k20 : (c.ifacesOut == fn.resultTypes.toList.any (P.ifacesRec ·)) = true)
    (k21 : (c.loopsOut == fn.resultTypes.toList.any (P.loopsFrom ·)) = true)
    (k22 : (c.plainKeys == P.plainKeys) = true)
    (k23 : (c.shortTexts.isNone) = true)
    (k24 : (P.stopsHeard) = true)
    (k25 : (P.mayEnter) = true)
    (k26 : (c.lifted == P.liftsFinal) = true)
    (k27 : (P.make == some c.make) = true)
    (k28 : (c.kinds == (if c.domain.isEmpty then [] else fn.params.toList.map fun t => match P.underlying t with | some (.int k) => some k | _ => none)) = true)
    (k29 : (c.pinned == c.pinnedBy) = true)
    (k30 : (c.veiled == (fn.params.toList ++ s.plain.varTypes P ++ fn.resultTypes.toList).any (P.veiledRec ·)) = true)
    (k31 : (c.veiledFits P fn.params.toList (fn.params.toList ++ s.plain.varTypes P ++ fn.resultTypes.toList)) = true) : joinedFacts P f fn s c = true := by
  unfold joinedFacts
  simp only [Bool.and_eq_true]
  exact ⟨⟨⟨⟨⟨⟨⟨⟨⟨⟨⟨⟨⟨⟨⟨⟨⟨⟨⟨⟨⟨⟨⟨⟨⟨⟨⟨⟨⟨⟨⟨k0, k1⟩, k2⟩, k3⟩, k4⟩, k5⟩, k6⟩, k7⟩, k8⟩, k9⟩, k10⟩, k11⟩, k12⟩, k13⟩, k14⟩, k15⟩, k16⟩, k17⟩, k18⟩, k19⟩, k20⟩, k21⟩, k22⟩, k23⟩, k24⟩, k25⟩, k26⟩, k27⟩, k28⟩, k29⟩, k30⟩, k31⟩
end Go.Ws
