/-
  barrier.PutBlob and the reference over all arguments; the law BarrierPutsBlob: its walk. Printed by gen_brw.py.
-/
import Derived.Test.YtkbijjglodnfbaaGreatQdBrI
import Derived.Test.YtkbijjglodnfbaaGreatQdBrR
import Derived.Test.YtkbijjglodnfbaaGreatQdPbx
import Derived.Test.YtkbijjglodnfbaaGreatQdChc
import Derived.Test.YtkbijjglodnfbaaGreatQdOpC
import Derived.Test.YtkbijjglodnfbaaGreatQdHlx
namespace Go.Proofs.YtkbijjglodnfbaaGreat
open Go.RowKit

noncomputable def holdOut (bs : List Blob) (es : List Entry) (r t ph : Int) (gy : List ByteArray) (pl : ByteArray) (s : ByteArray) (up : Bool) : CoOut := barOut (collF bs es r t ph gy pl) (holdE (fun x : Blob => x.digest) (fun x => x.pins) (storeFault bs es r t) s up bs) ⟨heldB s up bs, es, r, t⟩ ph gy pl [s]
theorem barrier_HoldBlob (v u gv : Value) (bs : List Blob) (es : List Entry) (r t ph : Int) (pl : ByteArray) (gy : List ByteArray) (s : ByteArray) (up : Bool) (w : World) (h : RBl w v bs) (g : RE w u es) (hg : RT w gv gy) (hs : s.size ≤ 140737488351232) (hpl : pl.size ≤ 140737488351232) (hgl : gy.length ≤ 8388608) :
    Calls Tryz.prog 31 #[.agg #[v, u, .int .i64 r, .int .i64 t], .agg #[.int .i64 ph, gv, .string pl], .string s, .bool up] w (CoResO (holdOut bs es r t ph gy pl s up) w) :=
  barrier_HoldBlob' v u gv bs es r t ph pl gy s up w h g hg (collF bs es r t ph gy pl) _ (heldB s up bs) es r t hs hgl (fun w h g hg => collect_Check v u gv bs es r t ph pl gy w h g hg hpl hgl) (fun w h g => store_HoldBlob v u bs es r t s up w h g (storeFault bs es r t) (fun w h g => store_Check v u bs es r t w h g))
theorem ref_KeptHoldBlob (v u gv : Value) (bs : List Blob) (es : List Entry) (r t ph : Int) (pl : ByteArray) (gy : List ByteArray) (s : ByteArray) (up : Bool) (w : World) (h : RBl w v bs) (g : RE w u es) (hg : RT w gv gy) (hs : s.size ≤ 140737488351232) (hpl : pl.size ≤ 140737488351232) (hgl : gy.length ≤ 8388608) :
    Calls Tryz.prog 33 #[.agg #[v, u, .int .i64 r, .int .i64 t], .agg #[.int .i64 ph, gv, .string pl], .string s, .bool up] w (CoResO (holdOut bs es r t ph gy pl s up) w) :=
  ref_KeptHoldBlob' v u gv bs es r t ph pl gy s up w h g hg (collF bs es r t ph gy pl) _ (heldB s up bs) es r t hs hgl (fun w h g hg => ref_CollectFault v u gv bs es r t ph pl gy w h g hg hpl hgl) (fun w h g => ref_StoreHoldBlob v u bs es r t s up w h g (storeFault bs es r t) (fun w h g => ref_StoreFault v u bs es r t w h g))

end Go.Proofs.YtkbijjglodnfbaaGreat
