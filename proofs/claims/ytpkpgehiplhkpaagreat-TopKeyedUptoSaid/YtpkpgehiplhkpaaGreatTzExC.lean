import Derived.Test.YtpkpgehiplhkpaaGreatTzExA
import Derived.Test.YtpkpgehiplhkpaaGreatTzGtx
import Derived.Test.YtpkpgehiplhkpaaGreatTzFjW
namespace Go.Proofs.YtpkpgehiplhkpaaGreat
open Go.RowKit
theorem askF_find (s : ByteArray) (es : List Entry) : (findE (fun x : Entry => x.key) s es == 0) = decide (atKey (fun x : Entry => x.key) s es < es.length) := by
 have hle := atKey_le (fun x : Entry => x.key) s es
 unfold findE
 by_cases h : atKey (fun x : Entry => x.key) s es = es.length
 · rw [if_pos h, h]
   simp
 rw [if_neg h]
 simp
 omega
noncomputable def exAsk (bs : List Blob) (es : List Entry) (r t ph : Int) (pl : ByteArray) (gy : List ByteArray) (fl : List Flight) (s : ByteArray) (n : Int) : AkOut :=
 askOut (loftF bs es r t ph gy pl fl) (decide (atKey (fun x : Entry => x.key) s es < es.length)) (decide (n < 1 ∨ 1000 < n)) (gtE (storeFault bs es r t) s t es) ⟨bs, gtL s t es, r, t + 1⟩ (gtP s es)
  (joinE (flightsFault fl) (hexFault s) n s fl) (joinL (flightsFault fl) (hexFault s) n s fl) (joinB (flightsFault fl) (hexFault s) n s fl) ⟨bs, es, r, t⟩ ⟨ph, gy, pl⟩ fl
theorem exec_Ask (v u gv fv : Value) (bs : List Blob) (es : List Entry) (r t ph : Int) (pl : ByteArray) (gy : List ByteArray) (fl : List Flight) (s : ByteArray) (n : Int) (w : World) (h : RBl w v bs) (g : RE w u es) (hg : RT w gv gy) (hfl : RF w fv fl) (hs : s.size ≤ 140737488351232) (hwf : (Lit.int .i64 n).wf = true) (hpl : pl.size ≤ 140737488351232) (hgl : gy.length ≤ 8388608) :
 Calls Tryz.prog 153 #[.agg #[v, u, .int .i64 r, .int .i64 t, .int .i64 ph, gv, .string pl, fv], .string s, .int .i64 n] w (AkRes (exAsk bs es r t ph pl gy fl s n) w) :=
 exec_Ask' v u gv fv bs es r t ph pl gy fl s n w h g hg hfl _ _ _ _ _ _ _ _ _ _ _ (askF_find s es) rfl (fun w h g hg hf => exec_Check v u gv fv bs es r t ph pl gy fl w h g hg hf hpl hgl)
  (fun w h g hg hf => exec_CopyO v u gv fv bs es r t ph pl gy fl w h g hg hf) (fun w g => index_Find u es s w g) (fun w h g => store_Get v u bs es r t s w h g) (fun w h => flight_JoinA fv fl s n w h hs hwf)
end Go.Proofs.YtpkpgehiplhkpaaGreat
