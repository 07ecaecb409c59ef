/-
  index.Put and the reference's EntriesPut over all arguments.
-/
import Derived.Test.YtcbopanekmpllaaPuti
import Derived.Test.YtcbopanekmpllaaPutr
namespace Go.Proofs.Ytcbopanekmpllaa
open Go.RowKit

/-- What is wrong with putting an entry. -/
def putsE (x : Entry) (l : List Entry) : Int := putErr (entriesFault l) (entriesFault (putL x l))
theorem index_Put (v dv : Value) (l : List Entry) (x : Entry) (w : World) (h : RE w v l) (g : RP w dv x.parts) (hx : FitEntry x) :
    Calls Try.prog 18 #[v, .agg #[.string x.key, dv, .int .i64 x.pins, .int .i64 x.stamp]] w (EnRes (putsE x l) (putL x l) w) :=
  index_Put' v dv l x w h g hx _ _ (fun w h => index_Check v l w h) (fun v w h => index_Check v _ w h) rising_entries
theorem ref_EntriesPut (v dv : Value) (l : List Entry) (x : Entry) (w : World) (h : RE w v l) (g : RP w dv x.parts) (hx : FitEntry x) :
    Calls Try.prog 19 #[v, .agg #[.string x.key, dv, .int .i64 x.pins, .int .i64 x.stamp]] w (EnRes (putsE x l) (putL x l) w) :=
  ref_EntriesPut' v dv l x w h g hx _ _ (fun w h => ref_EntriesFault v l w h) (fun v w h => ref_EntriesFault v _ w h) rising_entries
theorem fit_of {w : World} {dv : Value} {x : Entry} (g : RP w dv x.parts) (h : okEntry x) : FitEntry x := by
  obtain ⟨_, _, _, _, _, hr, _, hat⟩ := g
  refine ⟨h, hr, fun p hp => ?_⟩
  obtain ⟨j, hj⟩ := List.getElem?_of_mem hp
  obtain ⟨_, _, _, _, _, _, _, q⟩ := hat j p hj
  exact q

end Go.Proofs.Ytcbopanekmpllaa
