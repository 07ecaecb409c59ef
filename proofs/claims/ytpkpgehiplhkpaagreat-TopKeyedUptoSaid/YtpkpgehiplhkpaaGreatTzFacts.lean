/-
  Closed facts about the program of this seat, and how a row's closed facts are put together out of them.
-/
import Derived.Test.YtpkpgehiplhkpaaGreatRows
import Derived.JoinedOf
import Derived.ChangeOld
namespace Go.Proofs.YtpkpgehiplhkpaaGreat
open Go.ChangeShapes Go.WideShapes
set_option linter.unusedVariables false

theorem words_space (r : List Char) : wordsSigns (Char.ofNat 32 :: r) = [] :: wordsSigns r := rfl
theorem words_sign {c : Char} {r w : List Char} {ws : List (List Char)} (hc : c ≠ Char.ofNat 32) (h : wordsSigns r = w :: ws) : wordsSigns (c :: r) = (c :: w) :: ws := by
  rw [wordsSigns]
  · rw [h]
  · intro he; exact hc he
/-- What stands behind the program's first three words. -/
def orderRest : List Char := [Char.ofNat 97, Char.ofNat 116, Char.ofNat 32, Char.ofNat 97, Char.ofNat 112, Char.ofNat 112, Char.ofNat 108, Char.ofNat 101, Char.ofNat 108, Char.ofNat 111, Char.ofNat 102, Char.ofNat 116,
  Char.ofNat 47, Char.ofNat 97, Char.ofNat 112, Char.ofNat 112, Char.ofNat 108, Char.ofNat 101, Char.ofNat 108, Char.ofNat 111, Char.ofNat 102, Char.ofNat 116, Char.ofNat 116, Char.ofNat 111,
  Char.ofNat 112, Char.ofNat 46, Char.ofNat 84, Char.ofNat 111, Char.ofNat 112, Char.ofNat 84, Char.ofNat 114, Char.ofNat 117, Char.ofNat 101, Char.ofNat 32, Char.ofNat 97, Char.ofNat 112,
  Char.ofNat 112, Char.ofNat 108, Char.ofNat 101, Char.ofNat 108, Char.ofNat 111, Char.ofNat 102, Char.ofNat 116, Char.ofNat 47, Char.ofNat 97, Char.ofNat 112, Char.ofNat 112, Char.ofNat 108,
  Char.ofNat 101, Char.ofNat 108, Char.ofNat 111, Char.ofNat 102, Char.ofNat 116, Char.ofNat 116, Char.ofNat 111, Char.ofNat 112, Char.ofNat 46, Char.ofNat 84, Char.ofNat 111, Char.ofNat 112,
  Char.ofNat 72, Char.ofNat 101, Char.ofNat 108, Char.ofNat 100, Char.ofNat 32, Char.ofNat 97, Char.ofNat 112, Char.ofNat 112, Char.ofNat 108, Char.ofNat 101, Char.ofNat 108, Char.ofNat 111,
  Char.ofNat 102, Char.ofNat 116, Char.ofNat 47, Char.ofNat 97, Char.ofNat 112, Char.ofNat 112, Char.ofNat 108, Char.ofNat 101, Char.ofNat 108, Char.ofNat 111, Char.ofNat 102, Char.ofNat 116,
  Char.ofNat 116, Char.ofNat 111, Char.ofNat 112, Char.ofNat 46, Char.ofNat 84, Char.ofNat 111, Char.ofNat 112, Char.ofNat 66, Char.ofNat 97, Char.ofNat 100, Char.ofNat 32, Char.ofNat 97,
  Char.ofNat 112, Char.ofNat 112, Char.ofNat 108, Char.ofNat 101, Char.ofNat 108, Char.ofNat 111, Char.ofNat 102, Char.ofNat 116, Char.ofNat 47, Char.ofNat 97, Char.ofNat 112, Char.ofNat 112,
  Char.ofNat 108, Char.ofNat 101, Char.ofNat 108, Char.ofNat 111, Char.ofNat 102, Char.ofNat 116, Char.ofNat 108, Char.ofNat 97, Char.ofNat 119, Char.ofNat 46, Char.ofNat 68, Char.ofNat 101,
  Char.ofNat 115, Char.ofNat 107, Char.ofNat 82, Char.ofNat 117, Char.ofNat 110, Char.ofNat 115, Char.ofNat 32, Char.ofNat 97, Char.ofNat 112, Char.ofNat 112, Char.ofNat 108, Char.ofNat 101,
  Char.ofNat 108, Char.ofNat 111, Char.ofNat 102, Char.ofNat 116, Char.ofNat 47, Char.ofNat 97, Char.ofNat 112, Char.ofNat 112, Char.ofNat 108, Char.ofNat 101, Char.ofNat 108, Char.ofNat 111,
  Char.ofNat 102, Char.ofNat 116, Char.ofNat 116, Char.ofNat 111, Char.ofNat 112, Char.ofNat 46, Char.ofNat 84, Char.ofNat 111, Char.ofNat 112, Char.ofNat 84, Char.ofNat 104, Char.ofNat 101,
  Char.ofNat 114, Char.ofNat 101, Char.ofNat 32, Char.ofNat 97, Char.ofNat 112, Char.ofNat 112, Char.ofNat 108, Char.ofNat 101, Char.ofNat 108, Char.ofNat 111, Char.ofNat 102, Char.ofNat 116,
  Char.ofNat 47, Char.ofNat 97, Char.ofNat 112, Char.ofNat 112, Char.ofNat 108, Char.ofNat 101, Char.ofNat 108, Char.ofNat 111, Char.ofNat 102, Char.ofNat 116, Char.ofNat 116, Char.ofNat 111,
  Char.ofNat 112, Char.ofNat 46, Char.ofNat 84, Char.ofNat 111, Char.ofNat 112, Char.ofNat 77, Char.ofNat 97, Char.ofNat 100, Char.ofNat 101, Char.ofNat 32, Char.ofNat 97, Char.ofNat 112,
  Char.ofNat 112, Char.ofNat 108, Char.ofNat 101, Char.ofNat 108, Char.ofNat 111, Char.ofNat 102, Char.ofNat 116, Char.ofNat 47, Char.ofNat 97, Char.ofNat 112, Char.ofNat 112, Char.ofNat 108,
  Char.ofNat 101, Char.ofNat 108, Char.ofNat 111, Char.ofNat 102, Char.ofNat 116, Char.ofNat 116, Char.ofNat 111, Char.ofNat 112, Char.ofNat 46, Char.ofNat 84, Char.ofNat 111, Char.ofNat 112,
  Char.ofNat 65, Char.ofNat 110, Char.ofNat 121, Char.ofNat 32, Char.ofNat 97, Char.ofNat 112, Char.ofNat 112, Char.ofNat 108, Char.ofNat 101, Char.ofNat 108, Char.ofNat 111, Char.ofNat 102,
  Char.ofNat 116, Char.ofNat 47, Char.ofNat 97, Char.ofNat 112, Char.ofNat 112, Char.ofNat 108, Char.ofNat 101, Char.ofNat 108, Char.ofNat 111, Char.ofNat 102, Char.ofNat 116, Char.ofNat 116,
  Char.ofNat 111, Char.ofNat 112, Char.ofNat 46, Char.ofNat 84, Char.ofNat 111, Char.ofNat 112, Char.ofNat 75, Char.ofNat 101, Char.ofNat 121, Char.ofNat 101, Char.ofNat 100]
def wordSum : List Char := [Char.ofNat 57, Char.ofNat 101, Char.ofNat 49, Char.ofNat 51, Char.ofNat 48, Char.ofNat 98, Char.ofNat 97, Char.ofNat 57, Char.ofNat 49, Char.ofNat 98, Char.ofNat 99, Char.ofNat 99,
  Char.ofNat 102, Char.ofNat 51, Char.ofNat 54, Char.ofNat 56, Char.ofNat 100, Char.ofNat 99, Char.ofNat 99, Char.ofNat 53, Char.ofNat 100, Char.ofNat 52, Char.ofNat 101, Char.ofNat 53,
  Char.ofNat 97, Char.ofNat 100, Char.ofNat 52, Char.ofNat 51, Char.ofNat 57, Char.ofNat 99, Char.ofNat 98, Char.ofNat 97, Char.ofNat 97, Char.ofNat 57, Char.ofNat 49, Char.ofNat 48,
  Char.ofNat 50, Char.ofNat 100, Char.ofNat 52, Char.ofNat 49, Char.ofNat 50, Char.ofNat 98, Char.ofNat 49, Char.ofNat 49, Char.ofNat 97, Char.ofNat 55, Char.ofNat 97, Char.ofNat 50,
  Char.ofNat 55, Char.ofNat 101, Char.ofNat 55, Char.ofNat 51, Char.ofNat 49, Char.ofNat 52, Char.ofNat 50, Char.ofNat 102, Char.ofNat 101, Char.ofNat 50, Char.ofNat 98, Char.ofNat 99,
  Char.ofNat 57, Char.ofNat 49, Char.ofNat 54, Char.ofNat 49]
def wordMain : List Char := [Char.ofNat 104, Char.ofNat 97, Char.ofNat 114, Char.ofNat 110, Char.ofNat 101, Char.ofNat 115, Char.ofNat 115]
def wordCut : List Char := [Char.ofNat 99, Char.ofNat 117, Char.ofNat 116]
set_option maxRecDepth 100000 in
theorem order_list : Tryz.prog.initOrder.toList = wordMain ++ Char.ofNat 32 :: (wordSum ++ Char.ofNat 32 :: (wordCut ++ Char.ofNat 32 :: orderRest)) := by
  have h : Tryz.prog.initOrder = String.ofList [Char.ofNat 104, Char.ofNat 97, Char.ofNat 114, Char.ofNat 110, Char.ofNat 101, Char.ofNat 115, Char.ofNat 115, Char.ofNat 32, Char.ofNat 57, Char.ofNat 101, Char.ofNat 49, Char.ofNat 51,
  Char.ofNat 48, Char.ofNat 98, Char.ofNat 97, Char.ofNat 57, Char.ofNat 49, Char.ofNat 98, Char.ofNat 99, Char.ofNat 99, Char.ofNat 102, Char.ofNat 51, Char.ofNat 54, Char.ofNat 56,
  Char.ofNat 100, Char.ofNat 99, Char.ofNat 99, Char.ofNat 53, Char.ofNat 100, Char.ofNat 52, Char.ofNat 101, Char.ofNat 53, Char.ofNat 97, Char.ofNat 100, Char.ofNat 52, Char.ofNat 51,
  Char.ofNat 57, Char.ofNat 99, Char.ofNat 98, Char.ofNat 97, Char.ofNat 97, Char.ofNat 57, Char.ofNat 49, Char.ofNat 48, Char.ofNat 50, Char.ofNat 100, Char.ofNat 52, Char.ofNat 49,
  Char.ofNat 50, Char.ofNat 98, Char.ofNat 49, Char.ofNat 49, Char.ofNat 97, Char.ofNat 55, Char.ofNat 97, Char.ofNat 50, Char.ofNat 55, Char.ofNat 101, Char.ofNat 55, Char.ofNat 51,
  Char.ofNat 49, Char.ofNat 52, Char.ofNat 50, Char.ofNat 102, Char.ofNat 101, Char.ofNat 50, Char.ofNat 98, Char.ofNat 99, Char.ofNat 57, Char.ofNat 49, Char.ofNat 54, Char.ofNat 49,
  Char.ofNat 32, Char.ofNat 99, Char.ofNat 117, Char.ofNat 116, Char.ofNat 32, Char.ofNat 97, Char.ofNat 116, Char.ofNat 32, Char.ofNat 97, Char.ofNat 112, Char.ofNat 112, Char.ofNat 108,
  Char.ofNat 101, Char.ofNat 108, Char.ofNat 111, Char.ofNat 102, Char.ofNat 116, Char.ofNat 47, Char.ofNat 97, Char.ofNat 112, Char.ofNat 112, Char.ofNat 108, Char.ofNat 101, Char.ofNat 108,
  Char.ofNat 111, Char.ofNat 102, Char.ofNat 116, Char.ofNat 116, Char.ofNat 111, Char.ofNat 112, Char.ofNat 46, Char.ofNat 84, Char.ofNat 111, Char.ofNat 112, Char.ofNat 84, Char.ofNat 114,
  Char.ofNat 117, Char.ofNat 101, Char.ofNat 32, Char.ofNat 97, Char.ofNat 112, Char.ofNat 112, Char.ofNat 108, Char.ofNat 101, Char.ofNat 108, Char.ofNat 111, Char.ofNat 102, Char.ofNat 116,
  Char.ofNat 47, Char.ofNat 97, Char.ofNat 112, Char.ofNat 112, Char.ofNat 108, Char.ofNat 101, Char.ofNat 108, Char.ofNat 111, Char.ofNat 102, Char.ofNat 116, Char.ofNat 116, Char.ofNat 111,
  Char.ofNat 112, Char.ofNat 46, Char.ofNat 84, Char.ofNat 111, Char.ofNat 112, Char.ofNat 72, Char.ofNat 101, Char.ofNat 108, Char.ofNat 100, Char.ofNat 32, Char.ofNat 97, Char.ofNat 112,
  Char.ofNat 112, Char.ofNat 108, Char.ofNat 101, Char.ofNat 108, Char.ofNat 111, Char.ofNat 102, Char.ofNat 116, Char.ofNat 47, Char.ofNat 97, Char.ofNat 112, Char.ofNat 112, Char.ofNat 108,
  Char.ofNat 101, Char.ofNat 108, Char.ofNat 111, Char.ofNat 102, Char.ofNat 116, Char.ofNat 116, Char.ofNat 111, Char.ofNat 112, Char.ofNat 46, Char.ofNat 84, Char.ofNat 111, Char.ofNat 112,
  Char.ofNat 66, Char.ofNat 97, Char.ofNat 100, Char.ofNat 32, Char.ofNat 97, Char.ofNat 112, Char.ofNat 112, Char.ofNat 108, Char.ofNat 101, Char.ofNat 108, Char.ofNat 111, Char.ofNat 102,
  Char.ofNat 116, Char.ofNat 47, Char.ofNat 97, Char.ofNat 112, Char.ofNat 112, Char.ofNat 108, Char.ofNat 101, Char.ofNat 108, Char.ofNat 111, Char.ofNat 102, Char.ofNat 116, Char.ofNat 108,
  Char.ofNat 97, Char.ofNat 119, Char.ofNat 46, Char.ofNat 68, Char.ofNat 101, Char.ofNat 115, Char.ofNat 107, Char.ofNat 82, Char.ofNat 117, Char.ofNat 110, Char.ofNat 115, Char.ofNat 32,
  Char.ofNat 97, Char.ofNat 112, Char.ofNat 112, Char.ofNat 108, Char.ofNat 101, Char.ofNat 108, Char.ofNat 111, Char.ofNat 102, Char.ofNat 116, Char.ofNat 47, Char.ofNat 97, Char.ofNat 112,
  Char.ofNat 112, Char.ofNat 108, Char.ofNat 101, Char.ofNat 108, Char.ofNat 111, Char.ofNat 102, Char.ofNat 116, Char.ofNat 116, Char.ofNat 111, Char.ofNat 112, Char.ofNat 46, Char.ofNat 84,
  Char.ofNat 111, Char.ofNat 112, Char.ofNat 84, Char.ofNat 104, Char.ofNat 101, Char.ofNat 114, Char.ofNat 101, Char.ofNat 32, Char.ofNat 97, Char.ofNat 112, Char.ofNat 112, Char.ofNat 108,
  Char.ofNat 101, Char.ofNat 108, Char.ofNat 111, Char.ofNat 102, Char.ofNat 116, Char.ofNat 47, Char.ofNat 97, Char.ofNat 112, Char.ofNat 112, Char.ofNat 108, Char.ofNat 101, Char.ofNat 108,
  Char.ofNat 111, Char.ofNat 102, Char.ofNat 116, Char.ofNat 116, Char.ofNat 111, Char.ofNat 112, Char.ofNat 46, Char.ofNat 84, Char.ofNat 111, Char.ofNat 112, Char.ofNat 77, Char.ofNat 97,
  Char.ofNat 100, Char.ofNat 101, Char.ofNat 32, Char.ofNat 97, Char.ofNat 112, Char.ofNat 112, Char.ofNat 108, Char.ofNat 101, Char.ofNat 108, Char.ofNat 111, Char.ofNat 102, Char.ofNat 116,
  Char.ofNat 47, Char.ofNat 97, Char.ofNat 112, Char.ofNat 112, Char.ofNat 108, Char.ofNat 101, Char.ofNat 108, Char.ofNat 111, Char.ofNat 102, Char.ofNat 116, Char.ofNat 116, Char.ofNat 111,
  Char.ofNat 112, Char.ofNat 46, Char.ofNat 84, Char.ofNat 111, Char.ofNat 112, Char.ofNat 65, Char.ofNat 110, Char.ofNat 121, Char.ofNat 32, Char.ofNat 97, Char.ofNat 112, Char.ofNat 112,
  Char.ofNat 108, Char.ofNat 101, Char.ofNat 108, Char.ofNat 111, Char.ofNat 102, Char.ofNat 116, Char.ofNat 47, Char.ofNat 97, Char.ofNat 112, Char.ofNat 112, Char.ofNat 108, Char.ofNat 101,
  Char.ofNat 108, Char.ofNat 111, Char.ofNat 102, Char.ofNat 116, Char.ofNat 116, Char.ofNat 111, Char.ofNat 112, Char.ofNat 46, Char.ofNat 84, Char.ofNat 111, Char.ofNat 112, Char.ofNat 75,
  Char.ofNat 101, Char.ofNat 121, Char.ofNat 101, Char.ofNat 100] := by kernel_rfl
  rw [h, String.toList_ofList]
  rfl
theorem words_word : ∀ (l r : List Char), (∀ c ∈ l, c ≠ Char.ofNat 32) → wordsSigns (l ++ Char.ofNat 32 :: r) = l :: wordsSigns r
  | [], r, _ => words_space r
  | c :: l, r, h => words_sign (h c (List.mem_cons_self ..)) (words_word l r fun x hx => h x (List.mem_cons_of_mem _ hx))
theorem order_words : wordsSigns Tryz.prog.initOrder.toList = wordMain :: wordSum :: wordCut :: wordsSigns orderRest := by
  rw [order_list, words_word wordMain _ (by decide +kernel), words_word wordSum _ (by decide +kernel), words_word wordCut _ (by decide +kernel)]
theorem behind_of {m s : List Char} {r : List (List Char)} (h : ((m == "harness".toList || m == "ownmain".toList) && isSumSigns s) = true) : behindMainWord (m :: s :: r) = r := by
  unfold behindMainWord
  simp only [h, if_true]
theorem order_behind : behindMainWord (wordsSigns Tryz.prog.initOrder.toList) = wordCut :: wordsSigns orderRest := by
  rw [order_words]
  exact behind_of (by decide +kernel)
theorem strip_cut (r : List (List Char)) : stripLifts liftWords (wordCut :: r) = ([], wordCut :: r) := by rfl
theorem mayEnter_of {P : Program} {r : List (List Char)} (h : behindMainWord (wordsSigns P.initOrder.toList) = wordCut :: r) (h1 : P.laysLater = false) (h2 : P.bearsReflect = false) (h3 : P.doorFits [] = true) : P.mayEnter = true := by
  unfold Program.mayEnter
  rw [h]
  simp only [h1, h2, strip_cut, h3]
  rfl
theorem liftsFinal_of {P : Program} {r : List (List Char)} (h : behindMainWord (wordsSigns P.initOrder.toList) = wordCut :: r) : P.liftsFinal = false := by
  unfold Program.liftsFinal Program.headLifts
  rw [h]
  simp only [strip_cut]
  rfl
theorem make_of {P : Program} {r : List (List Char)} (h : behindMainWord (wordsSigns P.initOrder.toList) = wordCut :: r) : P.make = some .cut := by
  unfold Program.make
  rw [h]
  rfl
theorem prog_laysLater : Tryz.prog.laysLater = false := by kernel_rfl
theorem prog_bearsReflect : Tryz.prog.bearsReflect = false := by kernel_rfl
theorem prog_doorFits : Tryz.prog.doorFits [] = true := by kernel_rfl
theorem prog_mayEnter : Tryz.prog.mayEnter = true := mayEnter_of order_behind prog_laysLater prog_bearsReflect prog_doorFits
theorem prog_liftsFinal : Tryz.prog.liftsFinal = false := liftsFinal_of order_behind
theorem prog_make : Tryz.prog.make = some .cut := make_of order_behind
theorem prog_laidOut : laidOutB Tryz.prog = true := by kernel_rfl
theorem prog_rowed : mapsRowed Tryz.prog = true := by kernel_rfl
theorem prog_stops : (Tryz.prog.stops == []) = true := by kernel_rfl
theorem prog_stopKnobs : (Tryz.prog.stopKnobs == []) = true := by kernel_rfl
theorem prog_stopsHeard : Tryz.prog.stopsHeard = true := by kernel_rfl
theorem prog_plainKeys : Tryz.prog.plainKeys = true := by kernel_rfl

theorem and_mk {a b : Bool} (ha : a = true) (hb : b = true) : (a && b) = true := by rw [ha, hb]; rfl

set_option maxRecDepth 100000 in
theorem joined {f : FuncId} {fn : Func} {s : ChangeSpec} {c : OpenClaim}
    (h1 : (c.wf (OpenSpec.ofChange s)) = true)
    (h4 : (fn.params.all (Tryz.prog.readableRec ·)) = true)
    (h5 : (namedTie Tryz.prog c.named s.vars) = true)
    (h6 : ((c.stops == [])) = true)
    (h8 : ((c.knobs == [])) = true)
    (h10 : ((c.inPlace == Tryz.prog.inPlace f)) = true)
    (h11 : ((c.unfollowed == Tryz.prog.unfollowed f)) = true)
    (h12 : ((c.recurses == Tryz.prog.recurses f)) = true)
    (h13 : ((c.named == Tryz.prog.varsNamed f)) = true)
    (h14 : ((c.maps == (fn.params.toList ++ s.plain.varTypes Tryz.prog).any (Tryz.prog.mapsRec ·))) = true)
    (h15 : ((c.ifaces == (fn.params.toList ++ s.plain.varTypes Tryz.prog).any (Tryz.prog.ifacesRec ·))) = true)
    (h16 : ((c.mapsOut == Tryz.prog.mapsAmong fn.resultTypes.toList)) = true)
    (h17 : ((c.loops == (fn.params.toList ++ s.plain.varTypes Tryz.prog).any (Tryz.prog.loopsFrom ·))) = true)
    (h18 : ((c.wideKeys == (fn.params.toList ++ s.plain.varTypes Tryz.prog ++ fn.resultTypes.toList).any (Tryz.prog.wideKeysFrom ·))) = true)
    (h19 : (s.vars.all (Tryz.prog.varReadable ·)) = true)
    (h20 : (fn.resultTypes.all (fun t => Tryz.prog.readableRec t && decide (t < Tryz.prog.types.size))) = true)
    (h21 : ((c.ifacesOut == fn.resultTypes.toList.any (Tryz.prog.ifacesRec ·))) = true)
    (h22 : ((c.loopsOut == fn.resultTypes.toList.any (Tryz.prog.loopsFrom ·))) = true)
    (h23 : c.plainKeys = true)
    (h24 : (c.shortTexts.isNone) = true)
    (h27 : c.lifted = false)
    (h28 : c.make = .cut)
    (h29 : ((c.kinds == (if c.domain.isEmpty then [] else fn.params.toList.map fun t => match Tryz.prog.underlying t with | some (.int k) => some k | _ => none))) = true)
    (h30 : ((c.pinned == c.pinnedBy)) = true)
    (h31 : ((c.veiled == (fn.params.toList ++ s.plain.varTypes Tryz.prog ++ fn.resultTypes.toList).any (Tryz.prog.veiledRec ·))) = true)
    (h32 : (c.veiledFits Tryz.prog fn.params.toList (fn.params.toList ++ s.plain.varTypes Tryz.prog ++ fn.resultTypes.toList)) = true) :
    joinedFacts Tryz.prog f fn s c = true := by
  have e23 : (c.plainKeys == Tryz.prog.plainKeys) = true := by rw [h23, prog_plainKeys]; rfl
  have e27 : (c.lifted == Tryz.prog.liftsFinal) = true := by rw [h27, prog_liftsFinal]; rfl
  have e28 : (Tryz.prog.make == some c.make) = true := by rw [h28, prog_make]; rfl
  unfold joinedFacts
  exact and_mk (and_mk (and_mk (and_mk (and_mk (and_mk (and_mk (and_mk (and_mk (and_mk (and_mk (and_mk (and_mk (and_mk (and_mk (and_mk (and_mk (and_mk (and_mk (and_mk (and_mk (and_mk (and_mk (and_mk (and_mk (and_mk (and_mk (and_mk (and_mk (and_mk (and_mk h1 prog_laidOut) prog_rowed) h4) h5) h6) prog_stops) h8) prog_stopKnobs) h10) h11) h12) h13) h14) h15) h16) h17) h18) h19) h20) h21) h22) e23) h24) prog_stopsHeard) prog_mayEnter) e27) e28) h29) h30) h31) h32
end Go.Proofs.YtpkpgehiplhkpaaGreat
