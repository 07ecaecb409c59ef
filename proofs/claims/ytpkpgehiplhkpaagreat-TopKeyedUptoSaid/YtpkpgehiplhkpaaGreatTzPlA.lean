import Derived.Test.YtpkpgehiplhkpaaGreatTzExC
import Derived.Test.YtpkpgehiplhkpaaGreatTzExW
import Derived.Test.YtpkpgehiplhkpaaGreatTzOdC
import Derived.Test.YtpkpgehiplhkpaaGreatTzBrW
namespace Go.Proofs.YtpkpgehiplhkpaaGreat
open Go.RowKit
def abc : List UInt8 := [97, 98, 99]
def nameA : ByteArray := ⟨#[97]⟩
section
variable {D K : ByteArray}
def blobA (D : ByteArray) : Blob := ⟨D, abc, 0, false⟩
def partA (D : ByteArray) : Part := ⟨nameA, D, 3⟩
def entA (D K : ByteArray) : Entry := ⟨K, [partA D], 0, 1⟩
def flA (K : ByteArray) : Flight := ⟨K, 1, []⟩
theorem nameA_ok : nameFault nameA = 0 := by
 unfold nameFault textFault
 rw [if_neg (by decide), if_pos (by unfold AllIn; decide)]
theorem partA_ok (hD : hexFault D = 0) : partsFault [partA D] = 0 := by
 unfold partsFault faultFrom faultFrom partFault partA
 simp [nameA_ok, notAfter, hD, sizeBad]
theorem ord_put : ordFault ⟨1, 0, ⟨#[]⟩, abc, []⟩ = 0 := by decide
theorem ord_ask (n : Int) (h0 : 0 ≤ n) (h1 : n ≤ 4000) (hK : hexFault K = 0) : ordFault ⟨12, n, K, [], []⟩ = 0 := by
 have e : partsFault [] = 0 := rfl
 unfold ordFault ordForm ordRest
 simp [isKind, hasN, hasD, hasB, hasP, hK, e]
 omega
theorem ord_done (ps : List Part) (hK : hexFault K = 0) (hp : partsFault ps = 0) : ordFault ⟨13, 0, K, [], ps⟩ = 0 := by
 unfold ordFault ordForm ordRest
 simp [isKind, hasN, hasD, hasB, hasP, hK, hp]
theorem ord_get (hK : hexFault K = 0) : ordFault ⟨6, 0, K, [], []⟩ = 0 := by
 have e : partsFault [] = 0 := rfl
 unfold ordFault ordForm ordRest
 simp [isKind, hasN, hasD, hasB, hasP, hK, e]
theorem blobA_ok (hD : hexFault D = 0) (hs : sumStr abc = D) : blobsFault [blobA D] = 0 := by
 unfold blobsFault faultFrom faultFrom blobFault blobErr blobErrOf blobA
 have hs2 : sumStr [97, 98, 99] = D := hs
 simp [hD, hs2, notAfter, pinErr, abc]
theorem used0 : used [] = 0 := rfl
theorem usedA : used [blobA D] = 3 := by
 show wrap64 (0 + ((3 : Nat) : Int)) = 3
 unfold wrap64
 decide
theorem entA_ok (hD : hexFault D = 0) (hK : hexFault K = 0) : entriesFault [entA D K] = 0 := by
 unfold entriesFault faultFrom faultFrom entryFault entA
 simp [hK, notAfter, partA_ok hD, pinErr, stampBad]
theorem key_self (K : ByteArray) : (K.toList == K.toList) = true := beq_self_eq_true _
theorem thereA : thereFault [blobA D] [partA D] = 0 := by
 unfold thereFault thereFault thereOne
 simp [atKey, blobA, partA, abc]
theorem store0 (r : Int) (h0 : 0 ≤ r) (h1 : r ≤ 4000) : storeFault [] [] r 0 = 0 := by
 have e1 : blobsFault [] = 0 := rfl
 have e2 : entriesFault [] = 0 := rfl
 unfold storeFault roomFault entsFault badClock
 simp [e1, e2, used0]
 omega
theorem storeA (hD : hexFault D = 0) (hs : sumStr abc = D) : storeFault [blobA D] [] 50 0 = 0 := by
 have e2 : entriesFault [] = 0 := rfl
 unfold storeFault roomFault entsFault badClock
 simp [blobA_ok hD hs, e2, usedA]
theorem storeB (hD : hexFault D = 0) (hK : hexFault K = 0) (hs : sumStr abc = D) : storeFault [blobA D] [entA D K] 50 1 = 0 := by
 have e3 : thereFault [blobA D] (entA D K).parts = 0 := thereA
 unfold storeFault roomFault entsFault entsFault badClock
 simp [blobA_ok hD hs, entA_ok hD hK, usedA, e3]
 simp [entA]
theorem coll0 {bs : List Blob} {es : List Entry} {r t : Int} (h : storeFault bs es r t = 0) : collF bs es r t 0 [] ⟨#[]⟩ = 0 := by
 unfold collF collE
 have e1 : shapeE 0 [] ⟨#[]⟩ = 0 := by
  unfold shapeE goodC
  simp [goodG]
 have e2 : okMust bs [] (mustD 0 bs es) := by
  unfold mustD okMust
  simp
 rw [h, if_neg (by simp), e1, if_neg (by simp), if_pos e2]
def LA (D : ByteArray) : Loft := ⟨⟨[blobA D], [], 50, 0⟩, ⟨0, [], ⟨#[]⟩⟩, []⟩
def LB (D K : ByteArray) : Loft := ⟨⟨[blobA D], [], 50, 0⟩, ⟨0, [], ⟨#[]⟩⟩, [flA K]⟩
def LC (D K : ByteArray) : Loft := ⟨⟨[blobA D], [entA D K], 50, 1⟩, ⟨0, [], ⟨#[]⟩⟩, []⟩
theorem put_step (_ : hexFault D = 0) (hs : sumStr abc = D) : putbOut [] [] 50 0 0 [] ⟨#[]⟩ abc = ⟨0, (LA D).store, (LA D).coll⟩ ∧ putbD [] [] 50 0 0 [] ⟨#[]⟩ abc = D := by
 have h0 := coll0 (store0 50 (by decide) (by decide))
 have hL : bputsL abc [] = [blobA D] := by
  unfold bputsL bputL
  rw [hs]
  rfl
 have hE : bputsE abc [] = 0 := by
  have e1 : blobsFault [] = 0 := rfl
  unfold bputsE bputE
  simp [e1, abc]
 have hP : pbsE [] [] 50 0 abc = 0 := by
  unfold pbsE pblE
  simp [store0, hE, hL, usedA]
 constructor
 · unfold putbOut
   rw [h0, hP, hL, hs, bar_ok]
   rfl
 unfold putbD barD
 rw [h0, hP, hs]
 rfl
theorem loftA (hD : hexFault D = 0) (hs : sumStr abc = D) : loftF [blobA D] [] 50 0 0 [] ⟨#[]⟩ [] = 0 := by
 unfold loftF
 exact loft_ok (coll0 (storeA hD hs)) rfl (by unfold clash; simp)
theorem flA_ok (hK : hexFault K = 0) : flightsFault [flA K] = 0 := by
 unfold flightsFault flightsFrom flightsFrom flightFault flA crewOf
 simp [hK, atKey, crewFault]
theorem loftB (hD : hexFault D = 0) (hK : hexFault K = 0) (hs : sumStr abc = D) : loftF [blobA D] [] 50 0 0 [] ⟨#[]⟩ [flA K] = 0 := by
 unfold loftF
 exact loft_ok (coll0 (storeA hD hs)) (flA_ok hK) (by unfold clash; simp)
theorem ask_step (hD : hexFault D = 0) (hK : hexFault K = 0) (hs : sumStr abc = D) : exAsk [blobA D] [] 50 0 0 ⟨#[]⟩ [] [] K 1 = ⟨0, (LB D K).store, (LB D K).coll, (LB D K).flights, [], true⟩ := by
 unfold exAsk
 rw [loftA hD hs]
 unfold askOut joinE joinL joinB joinE
 have e1 : flightsFault [] = 0 := rfl
 simp [atKey, e1, hK, LB, flA]
theorem done_step (hD : hexFault D = 0) (hK : hexFault K = 0) (hs : sumStr abc = D) : exDone [blobA D] [] 50 0 0 ⟨#[]⟩ [] [flA K] K [partA D] = ⟨0, (LC D K).store, (LC D K).coll, [], [1]⟩ := by
 have hE : endE (flightsFault [flA K]) K [flA K] = 0 := by
  unfold endE
  rw [flA_ok hK]
  simp [atKey, flA]
 have hW : endW (flightsFault [flA K]) K [flA K] = [1] := by
  unfold endW
  rw [hE, if_pos rfl]
  simp [atKey, flA, crewOf]
 have hLl : endL (flightsFault [flA K]) K [flA K] = [] := by
  unfold endL
  rw [hE, if_pos rfl]
  simp [atKey, flA]
 have hX : spX K [partA D] 0 = entA D K := rfl
 have hpl : putL (entA D K) [] = [entA D K] := by
  unfold putL
  simp [hasKey, lowAt]
 have hS : spsE [blobA D] [] 50 0 K [partA D] = 0 := by
  unfold spsE spE
  have e1 : putsE (entA D K) [] = 0 := by
   have e0 : entriesFault [] = 0 := rfl
   unfold putsE putErr
   rw [hpl, entA_ok hD hK]
   simp [e0]
  simp [storeA hD hs, hK, partA_ok hD, thereA, hX, e1]
 have hO : putOut [blobA D] [] 50 0 0 [] ⟨#[]⟩ K [partA D] = ⟨0, (LC D K).store, (LC D K).coll⟩ := by
  unfold putOut
  rw [coll0 (storeA hD hs), hS, hX, hpl, bar_ok]
  rfl
 unfold exDone
 rw [loftB hD hK hs, hE, hO, hLl, hW]
 rfl
theorem get_step (hD : hexFault D = 0) (hK : hexFault K = 0) (hs : sumStr abc = D) : gtE (storeFault [blobA D] [entA D K] 50 1) K 1 [entA D K] = 0 ∧ gtP K [entA D K] = [partA D] ∧ (gtL K 1 [entA D K]).length = 1 := by
 rw [storeB hD hK hs]
 unfold gtE gtP gtL
 simp [atKey, entA]
end
end Go.Proofs.YtpkpgehiplhkpaaGreat
