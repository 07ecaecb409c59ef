import Derived.Test.YtpkpgehiplhkpaaGreatTzBrR
import Derived.Test.YtpkpgehiplhkpaaGreatTzSpx
import Derived.Test.YtpkpgehiplhkpaaGreatTzChc
namespace Go.Proofs.YtpkpgehiplhkpaaGreat
open Go.RowKit
noncomputable def putOut (bs : List Blob) (es : List Entry) (r t ph : Int) (gy : List ByteArray) (pl : ByteArray) (s : ByteArray) (L : List Part) : CoOut := barOut (collF bs es r t ph gy pl) (spsE bs es r t s L) ⟨bs, putL (spX s L t) es, r, t + 1⟩ ph gy pl (L.map (·.digest))
theorem sps_parts {bs : List Blob} {es : List Entry} {r t ph : Int} {gy : List ByteArray} {pl s : ByteArray} {L : List Part} (_ : collF bs es r t ph gy pl = 0) (h : spsE bs es r t s L = 0) : L.length ≤ 8 := by
 unfold spsE at h
 have h3 : partsFault L = 0 := by
  apply Classical.byContradiction
  intro hn
  by_cases h1 : storeFault bs es r t = 0
  · by_cases h2 : hexFault s = 0
    · rw [h1, h2, spE_3 hn] at h; exact hn h
    rw [h1, spE_2 h2] at h; exact h2 h
  rw [spE_1 h1] at h; exact h1 h
 have := (partsFault_zero h3).1
 omega
theorem barrier_Put (v u gv : Value) (bs : List Blob) (es : List Entry) (r t ph : Int) (pl : ByteArray) (gy : List ByteArray) (b : Value) (s : ByteArray) (L : List Part) (w : World) (h : RBl w v bs) (g : RE w u es) (hg : RT w gv gy) (gd : RP w b L) (hs : s.size ≤ 140737488351232) (hpl : pl.size ≤ 140737488351232) (hgl : gy.length ≤ 8388608) :
 Calls Tryz.prog 211 #[.agg #[v, u, .int .i64 r, .int .i64 t], .agg #[.int .i64 ph, gv, .string pl], .string s, b] w (CoResO (putOut bs es r t ph gy pl s L) w) :=
 barrier_Put' v u gv bs es r t ph pl gy b s L w h g hg gd (collF bs es r t ph gy pl) (spsE bs es r t s L) bs (putL (spX s L t) es) r (t + 1) (sps_parts) hgl (fun w h g hg => collect_Check v u gv bs es r t ph pl gy w h g hg hpl hgl) (fun w h g gd => store_Put v u b bs es r t s L w h g gd hs)
end Go.Proofs.YtpkpgehiplhkpaaGreat
