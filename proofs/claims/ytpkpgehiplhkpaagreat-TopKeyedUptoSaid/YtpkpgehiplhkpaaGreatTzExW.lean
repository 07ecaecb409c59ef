import Derived.Test.YtpkpgehiplhkpaaGreatTzExI
import Derived.Test.YtpkpgehiplhkpaaGreatTzBpW
namespace Go.Proofs.YtpkpgehiplhkpaaGreat
open Go.RowKit
noncomputable def exDone (bs : List Blob) (es : List Entry) (r t ph : Int) (pl : ByteArray) (gy : List ByteArray) (fl : List Flight) (s : ByteArray) (ps : List Part) : LfOut :=
 doneOut (loftF bs es r t ph gy pl fl) (endE (flightsFault fl) s fl) (putOut bs es r t ph gy pl s ps) (endL (flightsFault fl) s fl) (endW (flightsFault fl) s fl)
theorem exec_Done (v u gv fv : Value) (bs : List Blob) (es : List Entry) (r t ph : Int) (pl : ByteArray) (gy : List ByteArray) (fl : List Flight) (s : ByteArray) (b : Value) (ps : List Part) (w : World) (h : RBl w v bs) (g : RE w u es) (hg : RT w gv gy) (hfl : RF w fv fl) (gd : RP w b ps) (hs : s.size ≤ 140737488351232) (hpl : pl.size ≤ 140737488351232) (hgl : gy.length ≤ 8388608) :
 Calls Tryz.prog 155 #[.agg #[v, u, .int .i64 r, .int .i64 t, .int .i64 ph, gv, .string pl, fv], .string s, b] w (LfRes (exDone bs es r t ph pl gy fl s ps) w) :=
 exec_Done' v u gv fv bs es r t ph pl gy fl s b ps w h g hg hfl gd _ _ _ _ _ (fun w h g hg hf => exec_Check v u gv fv bs es r t ph pl gy fl w h g hg hf hpl hgl)
  (fun w h => (flight_EndO fv fl s w h (flightsFault fl) (fun hz => flights_fit hz) (fun w h => flight_Check fv fl w h)).mono fun _ _ h => h) (fun w h g hg gd => barrier_Put v u gv bs es r t ph pl gy b s ps w h g hg gd hs hpl hgl)
end Go.Proofs.YtpkpgehiplhkpaaGreat
