/-
  The head's words of this seat's translation, letter by letter: the kernel reckons three facts of the program off this list where the string itself costs it too much. Conditions: none.
-/
import Derived.Test.YtokpjgpdkmimgaaRows
import Derived.JoinedOf
namespace Go.Proofs.Ytokpjgpdkmimgaa
def ioChars : List Char := [Char.ofNat 104, Char.ofNat 97, Char.ofNat 114, Char.ofNat 110, Char.ofNat 101, Char.ofNat 115, Char.ofNat 115, Char.ofNat 32, Char.ofNat 48, Char.ofNat 99, Char.ofNat 99, Char.ofNat 102, Char.ofNat 99, Char.ofNat 102, Char.ofNat 102, Char.ofNat 52, Char.ofNat 101, Char.ofNat 50, Char.ofNat 48, Char.ofNat 49, Char.ofNat 100, Char.ofNat 99, Char.ofNat 56, Char.ofNat 97, Char.ofNat 53, Char.ofNat 97, Char.ofNat 50, Char.ofNat 56, Char.ofNat 54, Char.ofNat 50, Char.ofNat 102, Char.ofNat 51, Char.ofNat 52, Char.ofNat 54, Char.ofNat 49, Char.ofNat 48, Char.ofNat 99, Char.ofNat 102, Char.ofNat 50, Char.ofNat 54, Char.ofNat 48, Char.ofNat 52, Char.ofNat 49, Char.ofNat 97, Char.ofNat 48, Char.ofNat 55, Char.ofNat 101, Char.ofNat 51, Char.ofNat 57, Char.ofNat 48, Char.ofNat 49, Char.ofNat 51, Char.ofNat 99, Char.ofNat 99, Char.ofNat 101, Char.ofNat 48, Char.ofNat 50, Char.ofNat 48, Char.ofNat 98, Char.ofNat 50, Char.ofNat 99, Char.ofNat 99, Char.ofNat 101, Char.ofNat 52, Char.ofNat 51, Char.ofNat 52, Char.ofNat 97, Char.ofNat 50, Char.ofNat 54, Char.ofNat 52, Char.ofNat 51, Char.ofNat 99, Char.ofNat 32, Char.ofNat 99, Char.ofNat 117, Char.ofNat 116, Char.ofNat 32, Char.ofNat 97, Char.ofNat 116, Char.ofNat 32, Char.ofNat 97, Char.ofNat 114, Char.ofNat 114, Char.ofNat 97, Char.ofNat 115, Char.ofNat 47, Char.ofNat 97, Char.ofNat 114, Char.ofNat 114, Char.ofNat 97, Char.ofNat 115, Char.ofNat 107, Char.ofNat 101, Char.ofNat 101, Char.ofNat 112, Char.ofNat 46, Char.ofNat 83, Char.ofNat 117, Char.ofNat 109, Char.ofNat 115, Char.ofNat 84, Char.ofNat 101, Char.ofNat 108, Char.ofNat 108, Char.ofNat 32, Char.ofNat 97, Char.ofNat 114, Char.ofNat 114, Char.ofNat 97, Char.ofNat 115, Char.ofNat 47, Char.ofNat 97, Char.ofNat 114, Char.ofNat 114, Char.ofNat 97, Char.ofNat 115, Char.ofNat 107, Char.ofNat 101, Char.ofNat 101, Char.ofNat 112, Char.ofNat 46, Char.ofNat 80, Char.ofNat 97, Char.ofNat 99, Char.ofNat 107, Char.ofNat 115, Char.ofNat 83, Char.ofNat 104, Char.ofNat 111, Char.ofNat 114, Char.ofNat 116, Char.ofNat 32, Char.ofNat 97, Char.ofNat 114, Char.ofNat 114, Char.ofNat 97, Char.ofNat 115, Char.ofNat 47, Char.ofNat 97, Char.ofNat 114, Char.ofNat 114, Char.ofNat 97, Char.ofNat 115, Char.ofNat 108, Char.ofNat 97, Char.ofNat 119, Char.ofNat 46, Char.ofNat 67, Char.ofNat 97, Char.ofNat 116, Char.ofNat 97, Char.ofNat 108, Char.ofNat 111, Char.ofNat 103, Char.ofNat 69, Char.ofNat 110, Char.ofNat 99, Char.ofNat 111, Char.ofNat 100, Char.ofNat 101, Char.ofNat 115, Char.ofNat 32, Char.ofNat 97, Char.ofNat 114, Char.ofNat 114, Char.ofNat 97, Char.ofNat 115, Char.ofNat 47, Char.ofNat 97, Char.ofNat 114, Char.ofNat 114, Char.ofNat 97, Char.ofNat 115, Char.ofNat 108, Char.ofNat 97, Char.ofNat 119, Char.ofNat 46, Char.ofNat 80, Char.ofNat 114, Char.ofNat 101, Char.ofNat 115, Char.ofNat 115, Char.ofNat 85, Char.ofNat 110, Char.ofNat 112, Char.ofNat 97, Char.ofNat 99, Char.ofNat 107, Char.ofNat 115, Char.ofNat 32, Char.ofNat 97, Char.ofNat 114, Char.ofNat 114, Char.ofNat 97, Char.ofNat 115, Char.ofNat 47, Char.ofNat 97, Char.ofNat 114, Char.ofNat 114, Char.ofNat 97, Char.ofNat 115, Char.ofNat 108, Char.ofNat 97, Char.ofNat 119, Char.ofNat 46, Char.ofNat 67, Char.ofNat 97, Char.ofNat 116, Char.ofNat 97, Char.ofNat 108, Char.ofNat 111, Char.ofNat 103, Char.ofNat 70, Char.ofNat 105, Char.ofNat 110, Char.ofNat 100, Char.ofNat 115, Char.ofNat 32, Char.ofNat 97, Char.ofNat 114, Char.ofNat 114, Char.ofNat 97, Char.ofNat 115, Char.ofNat 47, Char.ofNat 97, Char.ofNat 114, Char.ofNat 114, Char.ofNat 97, Char.ofNat 115, Char.ofNat 107, Char.ofNat 101, Char.ofNat 101, Char.ofNat 112, Char.ofNat 46, Char.ofNat 80, Char.ofNat 97, Char.ofNat 99, Char.ofNat 107, Char.ofNat 115, Char.ofNat 66, Char.ofNat 97, Char.ofNat 99, Char.ofNat 107, Char.ofNat 32, Char.ofNat 97, Char.ofNat 114, Char.ofNat 114, Char.ofNat 97, Char.ofNat 115, Char.ofNat 47, Char.ofNat 97, Char.ofNat 114, Char.ofNat 114, Char.ofNat 97, Char.ofNat 115, Char.ofNat 108, Char.ofNat 97, Char.ofNat 119, Char.ofNat 46, Char.ofNat 65, Char.ofNat 114, Char.ofNat 114, Char.ofNat 97, Char.ofNat 121, Char.ofNat 82, Char.ofNat 101, Char.ofNat 112, Char.ofNat 108, Char.ofNat 97, Char.ofNat 99, Char.ofNat 101, Char.ofNat 115, Char.ofNat 32, Char.ofNat 97, Char.ofNat 114, Char.ofNat 114, Char.ofNat 97, Char.ofNat 115, Char.ofNat 47, Char.ofNat 97, Char.ofNat 114, Char.ofNat 114, Char.ofNat 97, Char.ofNat 115, Char.ofNat 107, Char.ofNat 101, Char.ofNat 101, Char.ofNat 112, Char.ofNat 46, Char.ofNat 68, Char.ofNat 101, Char.ofNat 118, Char.ofNat 105, Char.ofNat 99, Char.ofNat 101, Char.ofNat 115, Char.ofNat 75, Char.ofNat 101, Char.ofNat 101, Char.ofNat 112]
theorem io_eq : Try.prog.initOrder = String.ofList ioChars := by kernel_rfl
theorem io_list : Try.prog.initOrder.toList = ioChars := by rw [io_eq, String.toList_ofList]
theorem words_ : behindMainWord (wordsSigns ioChars) = [[Char.ofNat 99, Char.ofNat 117, Char.ofNat 116]] ++ (wordsSigns ioChars).drop 3 := by kernel_rfl
theorem words_at : behindMainWord (wordsSigns Try.prog.initOrder.toList) = [[Char.ofNat 99, Char.ofNat 117, Char.ofNat 116]] ++ (wordsSigns ioChars).drop 3 := by rw [io_list]; exact words_
theorem later_ : Try.prog.laysLater = false := by kernel_rfl
theorem reflect_ : Try.prog.bearsReflect = false := by kernel_rfl
theorem fits_ : Try.prog.doorFits [] = true := by kernel_rfl
theorem make_gen {P : Program} {rest : List (List Char)} (h : behindMainWord (wordsSigns P.initOrder.toList) = [[Char.ofNat 99, Char.ofNat 117, Char.ofNat 116]] ++ rest) : P.make = some .cut := by
  unfold Program.make
  rw [h]
  simp only [List.singleton_append]
  rw [if_neg (by decide), if_pos (by rw [show (([Char.ofNat 99, Char.ofNat 117, Char.ofNat 116] : List Char) == "cut".toList) = true from by decide]; rfl)]
theorem strip_gen (rest : List (List Char)) : stripLifts liftWords ([Char.ofNat 99, Char.ofNat 117, Char.ofNat 116] :: rest) = ([], [Char.ofNat 99, Char.ofNat 117, Char.ofNat 116] :: rest) := by kernel_rfl
theorem headLifts_gen {P : Program} {rest : List (List Char)} (h : behindMainWord (wordsSigns P.initOrder.toList) = [[Char.ofNat 99, Char.ofNat 117, Char.ofNat 116]] ++ rest) : P.headLifts = [] := by
  unfold Program.headLifts
  rw [h, List.singleton_append, strip_gen]
  dsimp only
  split <;> rfl
theorem liftsFinal_gen {P : Program} {rest : List (List Char)} (h : behindMainWord (wordsSigns P.initOrder.toList) = [[Char.ofNat 99, Char.ofNat 117, Char.ofNat 116]] ++ rest) : P.liftsFinal = false := by
  unfold Program.liftsFinal
  rw [h, headLifts_gen h, List.singleton_append]
  dsimp only
  rw [List.head?_cons, show (some [Char.ofNat 99, Char.ofNat 117, Char.ofNat 116] == some "carried".toList) = false from by decide]
  rfl
theorem mayEnter_gen {P : Program} {rest : List (List Char)} (h : behindMainWord (wordsSigns P.initOrder.toList) = [[Char.ofNat 99, Char.ofNat 117, Char.ofNat 116]] ++ rest)
    (h1 : P.laysLater = false) (h2 : P.bearsReflect = false) (h3 : P.doorFits [] = true) : P.mayEnter = true := by
  unfold Program.mayEnter
  rw [h, List.singleton_append]
  dsimp only
  rw [strip_gen]
  dsimp only
  rw [h1, h2, h3]
  first | kernel_rfl | exact rfl
theorem mayEnter_ : Try.prog.mayEnter = true := mayEnter_gen words_at later_ reflect_ fits_
theorem liftsFinal_ : Try.prog.liftsFinal = false := liftsFinal_gen words_at
theorem make_ : Try.prog.make = some .cut := make_gen words_at
theorem laidOut : laidOutB Try.prog = true := by kernel_rfl
theorem mapsRowed_ : mapsRowed Try.prog = true := by kernel_rfl
theorem stopsHeard_ : Try.prog.stopsHeard = true := by kernel_rfl
theorem plainKeys_ : Try.prog.plainKeys = true := by kernel_rfl
theorem stops_ : Try.prog.stops = [] := by kernel_rfl
theorem knobs_ : Try.prog.stopKnobs = [] := by kernel_rfl

/-- The facts of a row, out of the program's own and those of the one function. -/
theorem joined_mk {P : Program} {f : FuncId} {fn : Func} {s : ChangeSpec} {c : OpenClaim}
    (l1 : laidOutB P = true) (l2 : mapsRowed P = true) (l3 : P.stopsHeard = true) (l4 : P.plainKeys = true) (l5 : P.stops = []) (l6 : P.stopKnobs = []) (l7 : P.mayEnter = true) (l8 : P.liftsFinal = false) (l9 : P.make = some .cut)
    (r1 : c.inPlace = P.inPlace f) (r2 : c.unfollowed = P.unfollowed f) (r3 : c.recurses = P.recurses f) (r4 : c.named = P.varsNamed f)
    (q1 : (c.wf (OpenSpec.ofChange s) && fn.params.all (P.readableRec ·) && namedTie P c.named s.vars && (c.stops == []) && (c.knobs == []) && (c.plainKeys == true) && (c.lifted == false) && (some .cut == some c.make)) = true)
    (q2 : (c.maps == (fn.params.toList ++ s.plain.varTypes P).any (P.mapsRec ·)) = true) (q3 : (c.ifaces == (fn.params.toList ++ s.plain.varTypes P).any (P.ifacesRec ·)) = true) (q4 : (c.mapsOut == P.mapsAmong fn.resultTypes.toList) = true)
    (q5 : (c.loops == (fn.params.toList ++ s.plain.varTypes P).any (P.loopsFrom ·)) = true) (q6 : (c.wideKeys == (fn.params.toList ++ s.plain.varTypes P ++ fn.resultTypes.toList).any (P.wideKeysFrom ·)) = true)
    (q7 : (s.vars.all (P.varReadable ·) && fn.resultTypes.all (fun t => P.readableRec t && decide (t < P.types.size)) && (c.ifacesOut == fn.resultTypes.toList.any (P.ifacesRec ·)) && (c.loopsOut == fn.resultTypes.toList.any (P.loopsFrom ·)) && c.shortTexts.isNone) = true)
    (q8 : c.domain = []) (q8' : c.kinds = []) (q9 : (c.pinned == c.pinnedBy) = true)
    (q10 : (c.veiled == (fn.params.toList ++ s.plain.varTypes P ++ fn.resultTypes.toList).any (P.veiledRec ·)) = true)
    (q11 : c.veiledFits P fn.params.toList (fn.params.toList ++ s.plain.varTypes P ++ fn.resultTypes.toList) = true) : joinedFacts P f fn s c = true := by
  simp only [Bool.and_eq_true] at q1 q7
  obtain ⟨⟨⟨⟨⟨⟨⟨w1, w2⟩, w3⟩, w4⟩, w5⟩, w6⟩, w7⟩, w8⟩ := q1
  obtain ⟨⟨⟨⟨v1, v2⟩, v3⟩, v4⟩, v5⟩ := q7
  unfold joinedFacts
  rw [l1, l2, l3, l4, l5, l6, l7, l8, l9, w1, w2, w3, w4, w5, w6, w7, w8, q2, q3, q4, q5, q6, v1, v2, v3, v4, v5, q9, q10, q11]
  simp [r1, r2, r3, r4, q8, q8']
end Go.Proofs.Ytokpjgpdkmimgaa
