/-
  mark.Step, collect.Tick and the references over all arguments; the laws MarkSteps and CollectTicks: their walks. Printed by gen_brw.py.
-/
import Derived.Test.YtpcnhldlfmdlhaaGreatQxMsJ
import Derived.Test.YtpcnhldlfmdlhaaGreatQxMsR
import Derived.Test.YtpcnhldlfmdlhaaGreatQxTkI
import Derived.Test.YtpcnhldlfmdlhaaGreatQxRnL
import Derived.Test.YtpcnhldlfmdlhaaGreatQxOpC
namespace Go.Proofs.YtpcnhldlfmdlhaaGreat
open Go.RowKit
theorem mark_Step (v u gv : Value) (bs : List Blob) (es : List Entry) (r t ph : Int) (pl : ByteArray) (gy : List ByteArray) (w : World) (h : RBl w v bs) (g : RE w u es) (hg : RT w gv gy) (hgl : gy.length ≤ 8388608) : Calls Tryz.prog 117 #[.agg #[v, u, .int .i64 r, .int .i64 t], .agg #[.int .i64 ph, gv, .string pl]] w (CoResO (mkOut (storeFault bs es r t) ph bs es r t gy) w) :=
  mark_Step' v u gv bs es r t ph pl gy w h g hg (by omega) _ (fun w h g => store_Check v u bs es r t w h g)
theorem ref_MarkStepped (v u gv : Value) (bs : List Blob) (es : List Entry) (r t ph : Int) (pl : ByteArray) (gy : List ByteArray) (w : World) (h : RBl w v bs) (g : RE w u es) (hg : RT w gv gy) (hgl : gy.length ≤ 8388608) : Calls Tryz.prog 128 #[.agg #[v, u, .int .i64 r, .int .i64 t], .agg #[.int .i64 ph, gv, .string pl]] w (CoResO (mkOut (storeFault bs es r t) ph bs es r t gy) w) :=
  ref_MarkStepped' v u gv bs es r t ph pl gy w h g hg (by omega) _ (fun w h g => ref_StoreFault v u bs es r t w h g)
theorem collect_Tick (v u gv : Value) (bs : List Blob) (es : List Entry) (r t ph : Int) (pl : ByteArray) (gy : List ByteArray) (w : World) (h : RBl w v bs) (g : RE w u es) (hg : RT w gv gy) (hpl : pl.size ≤ 140737488351232) (hgl : gy.length ≤ 8388608) : Calls Tryz.prog 52 #[.agg #[v, u, .int .i64 r, .int .i64 t], .agg #[.int .i64 ph, gv, .string pl]] w (CoResD (tkO ⟨bs, es, r, t⟩ ⟨ph, gy, pl⟩) (tkG ⟨bs, es, r, t⟩ ⟨ph, gy, pl⟩) w) :=
  collect_Tick' v u gv bs es r t ph pl gy w h g hg (collF bs es r t ph gy pl) (mkOut (storeFault bs es r t) ph bs es r t gy) (swAll pl ph bs es r t) (fun w h g hg => collect_Check v u gv bs es r t ph pl gy w h g hg hpl hgl) (fun _ w h g hg => mark_Step v u gv bs es r t ph pl gy w h g hg hgl) (fun _ w h' g' => sweep_Step v u gv bs es r t ph pl w h' g' (by obtain ⟨a, c, rfl, -⟩ := hg; exact ⟨_, _, _, rfl⟩))
theorem ref_CollectTick (v u gv : Value) (bs : List Blob) (es : List Entry) (r t ph : Int) (pl : ByteArray) (gy : List ByteArray) (w : World) (h : RBl w v bs) (g : RE w u es) (hg : RT w gv gy) (hpl : pl.size ≤ 140737488351232) (hgl : gy.length ≤ 8388608) : Calls Tryz.prog 55 #[.agg #[v, u, .int .i64 r, .int .i64 t], .agg #[.int .i64 ph, gv, .string pl]] w (CoResD (tkO ⟨bs, es, r, t⟩ ⟨ph, gy, pl⟩) (tkG ⟨bs, es, r, t⟩ ⟨ph, gy, pl⟩) w) :=
  ref_CollectTick' v u gv bs es r t ph pl gy w h g hg (collF bs es r t ph gy pl) (mkOut (storeFault bs es r t) ph bs es r t gy) (swAll pl ph bs es r t) (fun w h g hg => ref_CollectFault v u gv bs es r t ph pl gy w h g hg hpl hgl) (fun _ w h g hg => ref_MarkStepped v u gv bs es r t ph pl gy w h g hg hgl) (fun _ w h' g' => ref_Swept v u gv bs es r t ph pl w h' g' (by obtain ⟨a, c, rfl, -⟩ := hg; exact ⟨_, _, _, rfl⟩))

end Go.Proofs.YtpcnhldlfmdlhaaGreat
