import Derived.Test.YtpkpgehiplhkpaaGreatTzBrR
import Derived.Test.YtpkpgehiplhkpaaGreatTzChc
namespace Go.Proofs.YtpkpgehiplhkpaaGreat
open Go.RowKit
theorem sumStr_size (l : List UInt8) : (sumStr l).size ≤ 140737488351232 := by
 have := sumStr_small l
 omega
noncomputable def putbOut (bs : List Blob) (es : List Entry) (r t ph : Int) (gy : List ByteArray) (pl : ByteArray) (data : List UInt8) : CoOut := barOut (collF bs es r t ph gy pl) (pbsE bs es r t data) ⟨bputsL data bs, es, r, t⟩ ph gy pl [sumStr data]
noncomputable def putbD (bs : List Blob) (es : List Entry) (r t ph : Int) (gy : List ByteArray) (pl : ByteArray) (data : List UInt8) : ByteArray := barD (collF bs es r t ph gy pl) (pbsE bs es r t data) (sumStr data)
theorem barrier_PutBlob (v u gv : Value) (bs : List Blob) (es : List Entry) (r t ph : Int) (pl : ByteArray) (gy : List ByteArray) (b : Value) (data : List UInt8) (w : World) (h : RBl w v bs) (g : RE w u es) (hg : RT w gv gy) (gd : RB w b data) (hpl : pl.size ≤ 140737488351232) (hgl : gy.length ≤ 8388608) :
 Calls Tryz.prog 144 #[.agg #[v, u, .int .i64 r, .int .i64 t], .agg #[.int .i64 ph, gv, .string pl], b] w (CoResD (putbOut bs es r t ph gy pl data) (putbD bs es r t ph gy pl data) w) :=
 barrier_PutBlob' v u gv bs es r t ph pl gy b data (sumStr data) w h g hg gd (collF bs es r t ph gy pl) (pbsE bs es r t data) (bputsL data bs) es r t (sumStr_size data) hgl (fun w h g hg => collect_Check v u gv bs es r t ph pl gy w h g hg hpl hgl) (fun w h g gd => store_PutBlob v u b bs es r t data w h g gd)
end Go.Proofs.YtpkpgehiplhkpaaGreat
