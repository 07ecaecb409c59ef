/-
  store.PutBlob and the reference's StorePutBlob over all arguments. Printed by gen_pbw.py.
-/
import Derived.Test.YtcbopanekmpllaaPbl
import Derived.Test.YtcbopanekmpllaaPblr
import Derived.Test.YtcbopanekmpllaaBpc
namespace Go.Proofs.Ytcbopanekmpllaa
open Go.RowKit

/-- What is wrong with putting bytes into a store. -/
def pbsE (bs : List Blob) (es : List Entry) (r t : Int) (data : List UInt8) : Int := pblE (storeFault bs es r t) (bputsE data bs) (bputsL data bs) r
theorem store_PutBlob (v u b : Value) (bs : List Blob) (es : List Entry) (r t : Int) (data : List UInt8) (w : World) (h : RBl w v bs) (g : RE w u es) (gd : RB w b data) :
    Calls Try.prog 40 #[.agg #[v, u, .int .i64 r, .int .i64 t], b] w (PbRes (pbsE bs es r t data) (sumStr data) ⟨bputsL data bs, es, r, t⟩ w) :=
  store_PutBlob' v u b bs es r t data w h g gd (storeFault bs es r t) (bputsE data bs) (fitsV (bputsL data bs) r) (sumStr data) (bputsL data bs) (fun w h g => store_Check v u bs es r t w h g) (fun w h g => blob_Put v b bs data w h g) (fun v w h => room_Fits_any v _ r w h)
    (fun hz he => fits_used (bputL_small rfl he).1 (bputL_small rfl he).2 (room_of hz))
theorem ref_StorePutBlob (v u b : Value) (bs : List Blob) (es : List Entry) (r t : Int) (data : List UInt8) (w : World) (h : RBl w v bs) (g : RE w u es) (gd : RB w b data) :
    Calls Try.prog 41 #[.agg #[v, u, .int .i64 r, .int .i64 t], b] w (PbRes (pbsE bs es r t data) (sumStr data) ⟨bputsL data bs, es, r, t⟩ w) :=
  ref_StorePutBlob' v u b bs es r t data w h g gd (storeFault bs es r t) (bputsE data bs) (used (bputsL data bs)) (sumStr data) (bputsL data bs) (fun w h g => ref_StoreFault v u bs es r t w h g) (fun w h g => ref_BlobsPut v b bs data w h g) (fun v w h => ref_RoomUsed v _ w h) rfl
end Go.Proofs.Ytcbopanekmpllaa
