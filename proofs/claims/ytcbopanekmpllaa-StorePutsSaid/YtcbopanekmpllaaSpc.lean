/-
  store.Put and the reference's StorePut over all arguments. Printed by gen_spw.py.
-/
import Derived.Test.YtcbopanekmpllaaSpi
import Derived.Test.YtcbopanekmpllaaSpr
import Derived.Test.YtcbopanekmpllaaIPc
namespace Go.Proofs.Ytcbopanekmpllaa
open Go.RowKit

/-- The entry that is put. -/
def spX (s : ByteArray) (ps : List Part) (t : Int) : Entry := ⟨s, ps, 0, t + 1⟩
/-- What is wrong with putting an entry into a store. -/
def spsE (bs : List Blob) (es : List Entry) (r t : Int) (s : ByteArray) (ps : List Part) : Int := spE (storeFault bs es r t) (hexFault s) (partsFault ps) (thereFault bs ps) t (putsE (spX s ps t) es)
theorem store_Put (v u b : Value) (bs : List Blob) (es : List Entry) (r t : Int) (s : ByteArray) (ps : List Part) (w : World) (h : RBl w v bs) (g : RE w u es) (gp : RP w b ps) (hs : s.size ≤ 140737488351232) :
    Calls Try.prog 42 #[.agg #[v, u, .int .i64 r, .int .i64 t], .string s, b] w (StRes (spsE bs es r t s ps) ⟨bs, putL (spX s ps t) es, r, t + 1⟩ w) :=
  store_Put' v u b bs es r t s ps w h g gp _ _ _ _ _ _ (fun w h g => store_Check v u bs es r t w h g) (fun w => hex_Check_any s w hs) (fun w h => manifest_Check b ps w h) (fun w h g => store_have v b bs ps w h g)
    (fun hz v w h gp => index_Put v b es (spX s ps t) w h gp (fit_of gp ⟨hs, show (Lit.int .i64 0).wf = true by decide, wf_small (by have := clock_of hz; show 0 ≤ t + 1; omega) (by have := clock_of hz; show t + 1 ≤ _; omega)⟩)) clock_of
theorem ref_StorePut (v u b : Value) (bs : List Blob) (es : List Entry) (r t : Int) (s : ByteArray) (ps : List Part) (w : World) (h : RBl w v bs) (g : RE w u es) (gp : RP w b ps) (hs : s.size ≤ 140737488351232) :
    Calls Try.prog 43 #[.agg #[v, u, .int .i64 r, .int .i64 t], .string s, b] w (StRes (spsE bs es r t s ps) ⟨bs, putL (spX s ps t) es, r, t + 1⟩ w) :=
  ref_StorePut' v u b bs es r t s ps w h g gp _ _ _ _ _ _ (fun w h g => ref_StoreFault v u bs es r t w h g) (fun w => ref_HexFault_any s w hs) (fun w h => ref_PartsFault b ps w h) (fun w h g => ref_partsThere v b bs ps w h g)
    (fun hz v w h gp => ref_EntriesPut v b es (spX s ps t) w h gp (fit_of gp ⟨hs, show (Lit.int .i64 0).wf = true by decide, wf_small (by have := clock_of hz; show 0 ≤ t + 1; omega) (by have := clock_of hz; show t + 1 ≤ _; omega)⟩)) clock_of
end Go.Proofs.Ytcbopanekmpllaa
