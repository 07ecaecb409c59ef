import Derived.Test.YtpkpgehiplhkpaaGreatTzKdD
import Derived.Test.YtpkpgehiplhkpaaGreatTzPlA
import Derived.Test.YtpkpgehiplhkpaaGreatTzDkS
import Derived.Test.YtpkpgehiplhkpaaGreatTzDkM
import Derived.Test.YtpkpgehiplhkpaaGreatTzDkG
namespace Go.Proofs.YtpkpgehiplhkpaaGreat
open Go.RowKit
theorem dig_hexv (n : Nat) : n < 16 → 0 ≤ hexv (hexDig n) := by
 have key : ∀ j : Fin 16, 0 ≤ hexv (hexDig j.val) := by decide
 exact fun h => key ⟨n, h⟩
theorem allHex_of (l : List UInt8) : AllHex (bstr (hexOf l)) := by
 intro k h
 have hk : k < (hexOf l).length := h
 change 0 ≤ hexv ((hexOf l)[k]'hk)
 have hm : (hexOf l)[k] ∈ hexOf l := List.getElem_mem hk
 obtain ⟨c, -, hc⟩ := List.mem_flatMap.1 hm
 have hlt := c.toNat_lt
 simp only [hexTwo, List.mem_cons, List.not_mem_nil, or_false] at hc
 rcases hc with hc | hc <;> rw [hc]
 · exact dig_hexv _ (by omega)
 exact dig_hexv _ (by omega)
theorem digS_size (l : List UInt8) : (digS l).size = 64 := by
 show (hexOf (bytesW (hashW l))).length = 64
 rw [hexOf_len, bytesW_len, hashW8]
theorem digS_hex (l : List UInt8) : hexFault (digS l) = 0 := by
 unfold hexFault
 rw [if_pos (digS_size l)]
 exact if_pos (allHex_of (bytesW (hashW l)))
def oPut : Order := ⟨1, 0, ⟨#[]⟩, abc, []⟩
def oAsk (K : ByteArray) (n : Int) : Order := ⟨12, n, K, [], []⟩
def oDone (K : ByteArray) (ps : List Part) : Order := ⟨13, 0, K, [], ps⟩
def oGet (K : ByteArray) : Order := ⟨6, 0, K, [], []⟩
noncomputable def wkSt (D K : ByteArray) : Nat → Loft
 | 0 => ⟨⟨[], [], 50, 0⟩, ⟨0, [], ⟨#[]⟩⟩, []⟩
 | 1 => LA D
 | 2 => LB D K
 | 3 => LC D K
 | _ => ⟨⟨[blobA D], gtL K 1 [entA D K], 50, 2⟩, ⟨0, [], ⟨#[]⟩⟩, []⟩
def wkRp (D : ByteArray) : Nat → Rep
 | 0 => ⟨0, D, [], [], 0, []⟩
 | 1 => ⟨0, ⟨#[]⟩, [], [], 1, []⟩
 | 2 => ⟨0, ⟨#[]⟩, [], [], 0, [1]⟩
 | _ => ⟨0, ⟨#[]⟩, [], [partA D], 0, []⟩
abbrev wkOrders (D K : ByteArray) : List Order := [oPut, oAsk K 1, oDone K [partA D], oGet K]
section
variable {D K : ByteArray} (hD : hexFault D = 0) (hK : hexFault K = 0) (hs : sumStr abc = D) (hKs : K.size ≤ 140737488351232)
abbrev OrdDoes (o : Order) (L N : Loft) (y : Rep) : Prop :=
 ∀ p dv pv W, DeskAt W p L → RB W dv o.data → RP W pv o.parts → Calls Tryz.prog 37 #[.pointer (some ⟨p, 0, none⟩), .agg #[.int .i64 o.kind, .int .i64 o.n, .string o.digest, dv, pv]] W (DeskPost p N y W)
theorem empty_small : (⟨#[]⟩ : ByteArray).size ≤ 140737488351232 := by decide
theorem none_few : ([] : List ByteArray).length ≤ 8388608 := by decide
include hD hs
theorem wk_put : OrdDoes oPut ⟨⟨[], [], 50, 0⟩, ⟨0, [], ⟨#[]⟩⟩, []⟩ (LA D) ⟨0, D, [], [], 0, []⟩ := by
 intro p dv pv W hL hd hp
 refine desk_order_blob p _ _ oPut dv pv W hL hd hp empty_small _ ord_put (by decide) ?_
 intro dv pv W hL hd hp
 have h := desk_blob_put p _ oPut dv pv W hL hd hp (putbOut [] [] 50 0 0 [] ⟨#[]⟩ abc) (putbD [] [] 50 0 0 [] ⟨#[]⟩ abc) rfl
  (fun v u gv dv w h g hg gd => barrier_PutBlob v u gv [] [] 50 0 0 ⟨#[]⟩ [] dv abc w h g hg gd empty_small none_few)
 rw [(put_step hD hs).1, (put_step hD hs).2, if_pos rfl] at h
 exact h
include hK hKs
theorem wk_ask : OrdDoes (oAsk K 1) (LA D) (LB D K) ⟨0, ⟨#[]⟩, [], [], 1, []⟩ := by
 intro p dv pv W hL hd hp
 refine desk_order_flight p _ _ (oAsk K 1) dv pv W hL hd hp hKs _ (ord_ask 1 (by decide) (by decide) hK) (by show ¬ (12 : Int) ≤ 4; decide) (by show ¬ (12 : Int) ≤ 8; decide) (by show ¬ (12 : Int) ≤ 11; decide) ?_
 intro dv pv W hL hd hp
 have h := desk_flight_ask p (LA D) (oAsk K 1) dv pv W hL hd hp (exAsk [blobA D] [] 50 0 0 ⟨#[]⟩ [] [] K 1) rfl
  (fun v u gv fv w h g hg hf => exec_Ask v u gv fv [blobA D] [] 50 0 0 ⟨#[]⟩ [] [] K 1 w h g hg hf hKs (by decide) empty_small none_few)
 rw [ask_step hD hK hs, if_pos rfl] at h
 exact h
theorem wk_done : OrdDoes (oDone K [partA D]) (LB D K) (LC D K) ⟨0, ⟨#[]⟩, [], [], 0, [1]⟩ := by
 intro p dv pv W hL hd hp
 refine desk_order_flight p _ _ (oDone K [partA D]) dv pv W hL hd hp hKs _ (ord_done _ hK (partA_ok hD)) (by show ¬ (13 : Int) ≤ 4; decide) (by show ¬ (13 : Int) ≤ 8; decide) (by show ¬ (13 : Int) ≤ 11; decide) ?_
 intro dv pv W hL hd hp
 have h := desk_flight_done p (LB D K) (oDone K [partA D]) dv pv W hL hd hp (exDone [blobA D] [] 50 0 0 ⟨#[]⟩ [] [flA K] K [partA D]) rfl
  (fun v u gv fv pv w h g hg hf hp => exec_Done v u gv fv [blobA D] [] 50 0 0 ⟨#[]⟩ [] [flA K] K pv [partA D] w h g hg hf hp hKs empty_small none_few)
 rw [done_step hD hK hs, if_pos rfl] at h
 exact h
theorem wk_get : OrdDoes (oGet K) (LC D K) ⟨⟨[blobA D], gtL K 1 [entA D K], 50, 2⟩, ⟨0, [], ⟨#[]⟩⟩, []⟩ ⟨0, ⟨#[]⟩, [], [partA D], 0, []⟩ := by
 intro p dv pv W hL hd hp
 refine desk_order_entry p _ _ (oGet K) dv pv W hL hd hp hKs _ (ord_get hK) (by show ¬ (6 : Int) ≤ 4; decide) (by show (6 : Int) ≤ 8; decide) ?_
 intro dv pv W hL hd hp
 obtain ⟨g1, g2, -⟩ := get_step hD hK hs
 have h := desk_entry_get p (LC D K) (oGet K) dv pv W hL hd hp 0 ⟨[blobA D], gtL K 1 [entA D K], 50, 2⟩ [partA D] rfl
  (fun v u w h g => by
    have q := store_Get v u [blobA D] [entA D K] 50 1 K w h g
    unfold GtRes at q
    rw [g1, g2] at q
    exact q)
 rw [if_pos rfl] at h
 exact h
theorem works_run (lv : Value) (w : World) (hl : ROrd w lv (wkOrders D K)) :
 Calls Tryz.prog 12 #[.int .i64 50, lv] w (RunPost (wkSt D K 4) [wkRp D 0, wkRp D 1, wkRp D 2, wkRp D 3] w) := by
 have h0 := wk_put hD hs
 have h1 := wk_ask hD hK hs hKs
 have h2 := wk_done hD hK hs hKs
 have h3 := wk_get hD hK hs hKs
 have e1 : (wkOrders D K).length = 4 := rfl
 have e2 : (List.range 4).map (wkRp D) = [wkRp D 0, wkRp D 1, wkRp D 2, wkRp D 3] := rfl
 have h := desk_Run 50 lv (wkOrders D K) (wkSt D K) (wkRp D) w hl (by decide) (by decide) (by rw [e1]; decide) rfl (by
  intro k hk p dv pv W hL hd hp
  rw [e1] at hk
  clear e1 e2 hl
  obtain rfl | rfl | rfl | rfl : k = 0 ∨ k = 1 ∨ k = 2 ∨ k = 3 := by omega
  · exact h0 p dv pv W hL hd hp
  · exact h1 p dv pv W hL hd hp
  · exact h2 p dv pv W hL hd hp
  · exact h3 p dv pv W hL hd hp)
 rw [e1, e2] at h
 exact h
end
end Go.Proofs.YtpkpgehiplhkpaaGreat

namespace Go.Proofs.YtpkpgehiplhkpaaGreat
open Go.RowKit
theorem qzkya_1 {P : Prop} (h : P := by decide) : P := h
def entK (K : ByteArray) : Entry := ⟨K, [], 0, 1⟩
def flK (K : ByteArray) : Flight := ⟨K, 1, [2]⟩
noncomputable def kySt (K : ByteArray) : Nat → Loft
 | 0 => ⟨⟨[], [], 100, 0⟩, ⟨0, [], ⟨#[]⟩⟩, []⟩
 | 1 => ⟨⟨[], [], 100, 0⟩, ⟨0, [], ⟨#[]⟩⟩, [flA K]⟩
 | 2 => ⟨⟨[], [], 100, 0⟩, ⟨0, [], ⟨#[]⟩⟩, [flK K]⟩
 | 3 => ⟨⟨[], [entK K], 100, 1⟩, ⟨0, [], ⟨#[]⟩⟩, []⟩
 | _ => ⟨⟨[], gtL K 1 [entK K], 100, 2⟩, ⟨0, [], ⟨#[]⟩⟩, []⟩
def kyRp : Nat → Rep
 | 0 => ⟨0, ⟨#[]⟩, [], [], 1, []⟩
 | 1 => ⟨0, ⟨#[]⟩, [], [], 2, []⟩
 | 2 => ⟨0, ⟨#[]⟩, [], [], 0, [1, 2]⟩
 | _ => ⟨0, ⟨#[]⟩, [], [], 0, []⟩
abbrev kyOrders (K : ByteArray) : List Order := [oAsk K 1, oAsk K 2, oDone K [], oAsk K 3]
theorem ky_loft0 : loftF [] [] 100 0 0 [] ⟨#[]⟩ [] = 0 := by
 unfold loftF
 exact loft_ok (coll0 (store0 100 qzkya_1 qzkya_1)) rfl (by unfold clash; simp)
section
variable {K : ByteArray} (hK : hexFault K = 0) (hKs : K.size ≤ 140737488351232)
include hK
theorem ky_loft1 : loftF [] [] 100 0 0 [] ⟨#[]⟩ [flA K] = 0 := by
 unfold loftF
 exact loft_ok (coll0 (store0 100 qzkya_1 qzkya_1)) (flA_ok hK) (by unfold clash; simp)
theorem flK_ok : flightsFault [flK K] = 0 := by
 unfold flightsFault flightsFrom flightsFrom flightFault flK crewOf
 simp [hK, atKey, crewFault]
theorem ky_loft2 : loftF [] [] 100 0 0 [] ⟨#[]⟩ [flK K] = 0 := by
 unfold loftF
 exact loft_ok (coll0 (store0 100 qzkya_1 qzkya_1)) (flK_ok hK) (by unfold clash; simp)
theorem entK_ok : entriesFault [entK K] = 0 := by
 have e : partsFault [] = 0 := rfl
 unfold entriesFault faultFrom faultFrom entryFault entK
 simp [hK, notAfter, e, pinErr, stampBad]
theorem ky_store : storeFault [] [entK K] 100 1 = 0 := by
 have e1 : blobsFault [] = 0 := rfl
 have e3 : thereFault [] (entK K).parts = 0 := rfl
 unfold storeFault roomFault entsFault entsFault badClock
 simp [e1, entK_ok hK, used0, e3]
 simp [entK]
theorem ky_loft3 : loftF [] [entK K] 100 1 0 [] ⟨#[]⟩ [] = 0 := by
 unfold loftF
 exact loft_ok (coll0 (ky_store hK)) rfl (by unfold clash; simp)
theorem ky_ask1 : exAsk [] [] 100 0 0 ⟨#[]⟩ [] [] K 1 = ⟨0, (kySt K 1).store, (kySt K 1).coll, (kySt K 1).flights, [], true⟩ := by
 unfold exAsk
 rw [ky_loft0]
 unfold askOut joinE joinL joinB joinE
 have e1 : flightsFault [] = 0 := rfl
 simp [atKey, e1, hK, kySt, flA]
theorem ky_ask2 : exAsk [] [] 100 0 0 ⟨#[]⟩ [] [flA K] K 2 = ⟨0, (kySt K 2).store, (kySt K 2).coll, (kySt K 2).flights, [], false⟩ := by
 unfold exAsk
 rw [ky_loft1 hK, flA_ok hK]
 unfold askOut joinE joinL joinB joinE
 simp [atKey, hK, kySt, flA, flK, crewOf]
theorem ky_done : exDone [] [] 100 0 0 ⟨#[]⟩ [] [flK K] K [] = ⟨0, (kySt K 3).store, (kySt K 3).coll, [], [1, 2]⟩ := by
 have hE : endE (flightsFault [flK K]) K [flK K] = 0 := by
  unfold endE
  rw [flK_ok hK]
  simp [atKey, flK]
 have hW : endW (flightsFault [flK K]) K [flK K] = [1, 2] := by
  unfold endW
  rw [hE, if_pos rfl]
  simp [atKey, flK, crewOf]
 have hLl : endL (flightsFault [flK K]) K [flK K] = [] := by
  unfold endL
  rw [hE, if_pos rfl]
  simp [atKey, flK]
 have hX : spX K [] 0 = entK K := rfl
 have hpl : putL (entK K) [] = [entK K] := by
  unfold putL
  simp [hasKey, lowAt]
 have e0 : partsFault [] = 0 := rfl
 have hS : spsE [] [] 100 0 K [] = 0 := by
  unfold spsE spE
  have e1 : putsE (entK K) [] = 0 := by
   have e0 : entriesFault [] = 0 := rfl
   unfold putsE putErr
   rw [hpl, entK_ok hK]
   simp [e0]
  have e2 : thereFault [] [] = 0 := rfl
  simp [store0, hK, e0, e2, hX, e1]
 have hO : putOut [] [] 100 0 0 [] ⟨#[]⟩ K [] = ⟨0, (kySt K 3).store, (kySt K 3).coll⟩ := by
  unfold putOut
  rw [coll0 (store0 100 qzkya_1 qzkya_1), hS, hX, hpl, bar_ok]
  rfl
 unfold exDone
 rw [ky_loft2 hK, hE, hO, hLl, hW]
 rfl
theorem ky_ask3 : exAsk [] [entK K] 100 1 0 ⟨#[]⟩ [] [] K 3 = ⟨0, (kySt K 4).store, (kySt K 4).coll, (kySt K 4).flights, [], false⟩ := by
 have h1 : gtE (storeFault [] [entK K] 100 1) K 1 [entK K] = 0 := by
  rw [ky_store hK]
  unfold gtE
  simp [atKey, entK]
 have h2 : gtP K [entK K] = [] := by
  unfold gtP
  simp [atKey, entK]
 have h3 : decide (atKey (fun x : Entry => x.key) K [entK K] < [entK K].length) = true := by simp [atKey, entK]
 unfold exAsk
 rw [ky_loft3 hK, h1, h2, h3, show decide ((3 : Int) < 1 ∨ (1000 : Int) < 3) = false by decide, ask_got]
 rfl
include hKs
theorem ky_do1 : OrdDoes (oAsk K 1) (kySt K 0) (kySt K 1) (kyRp 0) := by
 intro p dv pv W hL hd hp
 refine desk_order_flight p _ _ (oAsk K 1) dv pv W hL hd hp hKs _ (ord_ask 1 qzkya_1 qzkya_1 hK) (by show ¬ (12 : Int) ≤ 4; decide) (by show ¬ (12 : Int) ≤ 8; decide) (by show ¬ (12 : Int) ≤ 11; decide) ?_
 intro dv pv W hL hd hp
 have h := desk_flight_ask p (kySt K 0) (oAsk K 1) dv pv W hL hd hp (exAsk [] [] 100 0 0 ⟨#[]⟩ [] [] K 1) rfl
  (fun v u gv fv w h g hg hf => exec_Ask v u gv fv [] [] 100 0 0 ⟨#[]⟩ [] [] K 1 w h g hg hf hKs qzkya_1 empty_small none_few)
 rw [ky_ask1 hK, if_pos rfl] at h
 exact h
theorem ky_do2 : OrdDoes (oAsk K 2) (kySt K 1) (kySt K 2) (kyRp 1) := by
 intro p dv pv W hL hd hp
 refine desk_order_flight p _ _ (oAsk K 2) dv pv W hL hd hp hKs _ (ord_ask 2 qzkya_1 qzkya_1 hK) (by show ¬ (12 : Int) ≤ 4; decide) (by show ¬ (12 : Int) ≤ 8; decide) (by show ¬ (12 : Int) ≤ 11; decide) ?_
 intro dv pv W hL hd hp
 have h := desk_flight_ask p (kySt K 1) (oAsk K 2) dv pv W hL hd hp (exAsk [] [] 100 0 0 ⟨#[]⟩ [] [flA K] K 2) rfl
  (fun v u gv fv w h g hg hf => exec_Ask v u gv fv [] [] 100 0 0 ⟨#[]⟩ [] [flA K] K 2 w h g hg hf hKs qzkya_1 empty_small none_few)
 rw [ky_ask2 hK, if_pos rfl] at h
 have e : askN ⟨0, (kySt K 2).store, (kySt K 2).coll, (kySt K 2).flights, [], false⟩ (oAsk K 2).digest = 2 := by
  unfold askN waitsB kySt flK oAsk
  simp
 rw [e] at h
 exact h
theorem ky_do3 : OrdDoes (oDone K []) (kySt K 2) (kySt K 3) (kyRp 2) := by
 have e : partsFault [] = 0 := rfl
 intro p dv pv W hL hd hp
 refine desk_order_flight p _ _ (oDone K []) dv pv W hL hd hp hKs _ (ord_done _ hK e) (by show ¬ (13 : Int) ≤ 4; decide) (by show ¬ (13 : Int) ≤ 8; decide) (by show ¬ (13 : Int) ≤ 11; decide) ?_
 intro dv pv W hL hd hp
 have h := desk_flight_done p (kySt K 2) (oDone K []) dv pv W hL hd hp (exDone [] [] 100 0 0 ⟨#[]⟩ [] [flK K] K []) rfl
  (fun v u gv fv pv w h g hg hf hp => exec_Done v u gv fv [] [] 100 0 0 ⟨#[]⟩ [] [flK K] K pv [] w h g hg hf hp hKs empty_small none_few)
 rw [ky_done hK, if_pos rfl] at h
 exact h
theorem ky_do4 : OrdDoes (oAsk K 3) (kySt K 3) (kySt K 4) (kyRp 3) := by
 intro p dv pv W hL hd hp
 refine desk_order_flight p _ _ (oAsk K 3) dv pv W hL hd hp hKs _ (ord_ask 3 qzkya_1 qzkya_1 hK) (by show ¬ (12 : Int) ≤ 4; decide) (by show ¬ (12 : Int) ≤ 8; decide) (by show ¬ (12 : Int) ≤ 11; decide) ?_
 intro dv pv W hL hd hp
 have h := desk_flight_ask p (kySt K 3) (oAsk K 3) dv pv W hL hd hp (exAsk [] [entK K] 100 1 0 ⟨#[]⟩ [] [] K 3) rfl
  (fun v u gv fv w h g hg hf => exec_Ask v u gv fv [] [entK K] 100 1 0 ⟨#[]⟩ [] [] K 3 w h g hg hf hKs qzkya_1 empty_small none_few)
 rw [ky_ask3 hK, if_pos rfl] at h
 exact h
theorem keyed_run (lv : Value) (w : World) (hl : ROrd w lv (kyOrders K)) :
 Calls Tryz.prog 12 #[.int .i64 100, lv] w (RunPost (kySt K 4) [kyRp 0, kyRp 1, kyRp 2, kyRp 3] w) := by
 have h0 := ky_do1 hK hKs
 have h1 := ky_do2 hK hKs
 have h2 := ky_do3 hK hKs
 have h3 := ky_do4 hK hKs
 have e1 : (kyOrders K).length = 4 := rfl
 have e2 : (List.range 4).map kyRp = [kyRp 0, kyRp 1, kyRp 2, kyRp 3] := rfl
 have h := desk_Run 100 lv (kyOrders K) (kySt K) kyRp w hl qzkya_1 qzkya_1 (by rw [e1]; decide) rfl (by
  intro k hk p dv pv W hL hd hp
  rw [e1] at hk
  clear e1 e2 hl
  obtain rfl | rfl | rfl | rfl : k = 0 ∨ k = 1 ∨ k = 2 ∨ k = 3 := by omega
  · exact h0 p dv pv W hL hd hp
  · exact h1 p dv pv W hL hd hp
  · exact h2 p dv pv W hL hd hp
  · exact h3 p dv pv W hL hd hp)
 rw [e1, e2] at h
 exact h
end
end Go.Proofs.YtpkpgehiplhkpaaGreat

namespace Go.Proofs.YtpkpgehiplhkpaaGreat
open Go.RowKit
theorem rord_of (W : World) (b n : Nat) (cs : Array Value) (T : TypeId) (l : List Order) (h : W.heap[b]? = some (.cells cs T (0, 0)))
 (hE : ∀ (k : Nat) (x : Order), l[k]? = some x → ∃ dv pv, cs[k * 5]? = some (.int .i64 x.kind) ∧ cs[k * 5 + 1]? = some (.int .i64 x.n) ∧ cs[k * 5 + 2]? = some (.string x.digest) ∧ cs[k * 5 + 3]? = some dv ∧ cs[k * 5 + 4]? = some pv ∧ RB W dv x.data ∧ RP W pv x.parts)
 (hn : n = l.length) (hlen : l.length ≤ 80) : ROrd W (.slice (some ⟨b, 0, none⟩) n n) l := by
 subst hn
 refine ⟨_, _, rfl, Nat.le_refl _, by simp only [maxLen]; omega, by omega, fun h => by simp at h, fun k x hk => ⟨b, 0, rfl, heap_lt h, ?_⟩⟩
 obtain ⟨dv, pv, h0, h1, h2, h3, h4, h5, h6⟩ := hE k x hk
 refine ⟨dv, pv, ?_, ?_, ?_, ?_, ?_, h5, h6⟩
 · rw [cell_of_row W b _ cs T _ h, Nat.zero_add]; exact h0
 · rw [cell_of_row W b _ cs T _ h, Nat.zero_add]; exact h1
 · rw [cell_of_row W b _ cs T _ h, Nat.zero_add]; exact h2
 · rw [cell_of_row W b _ cs T _ h, Nat.zero_add]; exact h3
 rw [cell_of_row W b _ cs T _ h, Nat.zero_add]; exact h4
theorem lit8f (w : World) (t : TypeId) (fr : Nat × Nat) (cs : Array Value) (l : List UInt8) (k n : Nat) (hk : k = w.heap.size) (h : cs.toList = l.flatMap cU8) (hn : n = l.length) (hm : l.length ≤ 140737488351232) : RB (w.alloc (.cells cs t fr)) (.slice (some ⟨k, 0, none⟩) n n) l := by
 subst hk hn
 refine ⟨_, _, rfl, Nat.le_refl _, by simp [maxLen]; omega, by omega, fun h => by simp at h, fun j x hj => ⟨w.heap.size, 0, rfl, by simp, ?_⟩⟩
 unfold EU8
 rw [cell_of_row _ _ _ cs t fr (heap_alloc_new w _), ← Array.getElem?_toList, h, flat_get (cells := cU8) (fun _ => rfl) (by decide)]
 simp [hj, cU8, Nat.mod_one]
theorem rp_lit (w : World) (t : TypeId) (x : Part) (k : Nat) (hk : k = w.heap.size) (h1 : x.name.size ≤ 140737488351232) (h2 : x.digest.size ≤ 140737488351232) (h3 : (Lit.int .i64 x.size).wf = true) : RP (w.alloc (.cells #[.string x.name, .string x.digest, .int .i64 x.size] t)) (.slice (some ⟨k, 0, none⟩) 1 1) [x] := by
 subst hk
 refine ⟨_, _, rfl, Nat.le_refl _, by simp [maxLen], (show 1 * 40 ≤ 140737488351232 by decide), fun h => by simp at h, fun j y hj => ⟨w.heap.size, 0, rfl, by simp, ?_⟩⟩
 obtain ⟨hlt, hy⟩ := List.getElem?_eq_some_iff.1 hj
 have hj0 : j = 0 := by simpa using hlt
 subst hj0
 simp only [List.getElem_cons_zero] at hy
 subst hy
 have hc := fun o => cell_of_row (w.alloc (.cells #[.string x.name, .string x.digest, .int .i64 x.size] t)) w.heap.size o _ t _ (heap_alloc_new w _)
 exact ⟨hc 0, hc 1, hc 2, h1, h2, h3⟩
set_option maxRecDepth 100000 in
set_option maxHeartbeats 4000000 in
theorem works_ok (w : World) : Calls Tryz.prog 14 #[] w fun e w' => e = .returned (.bool true) ∧ Below w.heap.size w w' := by
 have hd := hid fun v w h => keep_Digest v abc w h (by decide)
 have hk := hid fun w => keep_Key 2 w (by decide)
 have hD := digS_hex abc
 have hs : sumStr abc = digS abc := sum_dig abc (by decide)
 have hK : hexFault (keyS 2) = 0 := digS_hex _
 have hKs : (keyS 2).size ≤ 140737488351232 := by
  have h : (keyS 2).size = 64 := digS_size _
  omega
 have hDs : (digS abc).size = 64 := digS_size abc
 have hrun := hid fun lv w h => works_run hD hK hs hKs lv w h
 have hg := (get_step hD hK hs).2.2
 generalize keyS 2 = K at *
 generalize digS abc = D at *
 clear hD hK hs hKs
 have kc := fun (W : World) (C : Array Value) (n c : Nat) => Lib.run_convert_bytes_const (P := Tryz.prog) W 41 5 C n c Tryz.underlying41 Tryz.underlying5
 go_enter Tryz.func14, Tryz.ntmps14
 go_wp2_with fail
 ((with_reducible refine (hd.out _ _ ?_).mono ?_))
 · exact lit8f _ _ _ _ abc _ 3 rfl rfl rfl (by decide)
 rintro e1 w1 ⟨rfl, b1⟩
 have hb1 := hid (b_call (b_alloc (Below.refl _ _) _) b1)
 clear b1
 go_wp2_with fail
 ((with_reducible refine (hk.out _).mono ?_); rintro e2 w2 ⟨rfl, b2⟩)
 have rA2 := hid ((lit8f w1 _ (3, 4) #[.int .u8 97, .int .u8 98, .int .u8 99] abc _ 3 rfl rfl rfl (by decide)).mono EU8.stable b2)
 have hb2 := hid (b_call (b_alloc hb1.out _) b2)
 clear b2 hb1
 go_wp2_with fail
 ((with_reducible refine (hk.out _).mono ?_); rintro e3 w3 ⟨rfl, b3⟩)
 have rA3 := hid (rA2.out.mono EU8.stable b3)
 have hb3 := hid (b_call hb2.out b3)
 clear b3 hb2 rA2
 go_wp2_with fail
 ((with_reducible refine (hk.out _).mono ?_); rintro e4 w4 ⟨rfl, b4⟩)
 have rP4 := hid ((rp_lit w3 _ (partA D) _ rfl (show nameA.size ≤ 140737488351232 by decide) (by show D.size ≤ _; omega) (show (Lit.int .i64 3).wf = true by decide)).mono EPart.stable b4)
 have rA4 := hid (rA3.out.mono EU8.stable (b_call (b_alloc (Below.refl _ _) _) b4))
 have hb4 := hid (b_call (b_alloc hb3.out _) b4)
 clear b4 hb3 rA3
 go_wp2_with fail
 have hro := hid (rord_of (w4.alloc (.cells #[.int .i64 1, .int .i64 0, .string ⟨#[]⟩, .slice (some ⟨w1.heap.size, 0, none⟩) 3 3, .slice none 0 0, .int .i64 12, .int .i64 1, .string K, .slice none 0 0, .slice none 0 0, .int .i64 13, .int .i64 0, .string K, .slice none 0 0, .slice (some ⟨w3.heap.size, 0, none⟩) 1 1, .int .i64 6, .int .i64 0, .string K, .slice none 0 0, .slice none 0 0] 47)) w4.heap.size 4 #[.int .i64 1, .int .i64 0, .string ⟨#[]⟩, .slice (some ⟨w1.heap.size, 0, none⟩) 3 3, .slice none 0 0, .int .i64 12, .int .i64 1, .string K, .slice none 0 0, .slice none 0 0, .int .i64 13, .int .i64 0, .string K, .slice none 0 0, .slice (some ⟨w3.heap.size, 0, none⟩) 1 1, .int .i64 6, .int .i64 0, .string K, .slice none 0 0, .slice none 0 0] 47 (wkOrders D K) (heap_alloc_new w4 _) (by
  intro k x hx
  have hk4 : k < 4 := (List.getElem?_eq_some_iff.1 hx).1
  have rA5 := rA4.out.mono EU8.stable (b_alloc (Below.refl w4.heap.size w4) (.cells #[.int .i64 1, .int .i64 0, .string ⟨#[]⟩, .slice (some ⟨w1.heap.size, 0, none⟩) 3 3, .slice none 0 0, .int .i64 12, .int .i64 1, .string K, .slice none 0 0, .slice none 0 0, .int .i64 13, .int .i64 0, .string K, .slice none 0 0, .slice (some ⟨w3.heap.size, 0, none⟩) 1 1, .int .i64 6, .int .i64 0, .string K, .slice none 0 0, .slice none 0 0] 47))
  have rP5 := rP4.out.mono EPart.stable (b_alloc (Below.refl w4.heap.size w4) (.cells #[.int .i64 1, .int .i64 0, .string ⟨#[]⟩, .slice (some ⟨w1.heap.size, 0, none⟩) 3 3, .slice none 0 0, .int .i64 12, .int .i64 1, .string K, .slice none 0 0, .slice none 0 0, .int .i64 13, .int .i64 0, .string K, .slice none 0 0, .slice (some ⟨w3.heap.size, 0, none⟩) 1 1, .int .i64 6, .int .i64 0, .string K, .slice none 0 0, .slice none 0 0] 47))
  obtain rfl | rfl | rfl | rfl : k = 0 ∨ k = 1 ∨ k = 2 ∨ k = 3 := by omega
  · simp only [List.getElem?_cons_zero, Option.some.injEq] at hx
    subst hx
    exact ⟨_, _, rfl, rfl, rfl, rfl, rfl, rA5, RS.nil⟩
  · simp only [List.getElem?_cons_succ, List.getElem?_cons_zero, Option.some.injEq] at hx
    subst hx
    exact ⟨_, _, rfl, rfl, rfl, rfl, rfl, RS.nil, RS.nil⟩
  · simp only [List.getElem?_cons_succ, List.getElem?_cons_zero, Option.some.injEq] at hx
    subst hx
    exact ⟨_, _, rfl, rfl, rfl, rfl, rfl, RS.nil, rP5⟩
  · simp only [List.getElem?_cons_succ, List.getElem?_cons_zero, Option.some.injEq] at hx
    subst hx
    exact ⟨_, _, rfl, rfl, rfl, rfl, rfl, RS.nil, RS.nil⟩) rfl (by show 4 ≤ 80; decide))
 have hb5 := hid (b_alloc hb4.out (.cells #[.int .i64 1, .int .i64 0, .string ⟨#[]⟩, .slice (some ⟨w1.heap.size, 0, none⟩) 3 3, .slice none 0 0, .int .i64 12, .int .i64 1, .string K, .slice none 0 0, .slice none 0 0, .int .i64 13, .int .i64 0, .string K, .slice none 0 0, .slice (some ⟨w3.heap.size, 0, none⟩) 1 1, .int .i64 6, .int .i64 0, .string K, .slice none 0 0, .slice none 0 0] 47))
 clear rA4 rP4 hb4
 ((with_reducible refine (hrun.out _ _ hro.out).mono ?_); rintro e5 w5 ⟨v, rs, a1, c1, a2, c2, a3, c3, a4, c4, rfl, hrs, own, reps, -, b5⟩)
 have hst : dcells (wkSt D K 4) a1 c1 a2 c2 a3 c3 a4 c4 = #[.slice a1 1 c1, .slice a2 1 c2, .int .i64 50, .int .i64 2, .int .i64 0, .slice a3 0 c3, .string ⟨#[]⟩, .slice a4 0 c4] := by
  show #[_, Value.slice a2 (gtL K 1 [entA D K]).length c2, _, _, _, _, _, _] = _
  rw [hg]
  rfl
 rw [hst]
 clear hst
 have hb6 := hid (b_call hb5.out b5)
 obtain ⟨r0, r1, r2, r3, rfl⟩ : ∃ r0 r1 r2 r3, rs = [r0, r1, r2, r3] := by
  have hl := congrArg List.length hrs
  simp only [List.length_map, List.length_cons, List.length_nil] at hl
  match rs, hl with
  | [r0, r1, r2, r3], _ => exact ⟨r0, r1, r2, r3, rfl⟩
 simp only [List.map_cons, List.map_nil, List.cons.injEq] at hrs
 obtain ⟨-, -, -, h3, -⟩ := hrs
 obtain ⟨y3, d3, p3, g3⟩ := r3
 simp only at h3
 subst h3
 obtain ⟨-, hrp, -, -⟩ := reps _ (List.mem_cons_of_mem _ (List.mem_cons_of_mem _ (List.mem_cons_of_mem _ (List.mem_cons_self ..))))
 rcases os_forms' own with ⟨-, h⟩ | ⟨g, c, rfl, hc4⟩
 · cases h
 have x0 := OS.cell (i := 3) (o := 0) own cRep_len rfl rfl
 have x3 := OS.cell (i := 3) (o := 3) own cRep_len rfl rfl
 obtain ⟨pa, pc⟩ := p3
 have hat : ∃ b off, pa = some ⟨b, off, none⟩ ∧ b < w5.heap.size ∧ EPart w5 b (off + 0 * 3) (partA D) := by
  obtain ⟨_, _, hv, _, _, _, _, hat⟩ := hrp
  simp only [RepR.pv, Value.slice.injEq] at hv
  obtain ⟨rfl, -, -⟩ := hv
  obtain ⟨b, off, h1, hb, h2⟩ := hat 0 (partA D) rfl
  exact ⟨b, off, h1, hb, h2⟩
 obtain ⟨bp, op, rfl, hbl, q0, q1, q2, -⟩ := hat
 have z0 : w5.cell? ⟨g, 18, none⟩ = some (.int .i64 0) := x0
 have z3 : w5.cell? ⟨g, 21, none⟩ = some (.slice (some ⟨bp, op, none⟩) 1 pc) := x3
 rw [Nat.zero_mul, Nat.add_zero] at q1
 have z1 : w5.cell? ⟨bp, op + 1, none⟩ = some (.string D) := q1
 have hc : 4 ≤ c := hc4
 have hgl : g < w5.heap.size := (World.ownsRow.lt own g rfl).2
 clear x0 x3 q0 q1 q2 hrp hc4 own reps b5 hro
 simp only [List.length_cons, List.length_nil]
 go_wp2_with fail
 go_ret
 exact ⟨rfl, b_alloc hb6.out _⟩
end Go.Proofs.YtpkpgehiplhkpaaGreat
