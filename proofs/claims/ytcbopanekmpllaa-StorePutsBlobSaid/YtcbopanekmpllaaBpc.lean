/-
  blob.Put and the reference's BlobsPut over all arguments. Printed by gen_bpw.py.
-/
import Derived.Test.YtcbopanekmpllaaBpi
import Derived.Test.YtcbopanekmpllaaBpr
namespace Go.Proofs.Ytcbopanekmpllaa
open Go.RowKit

theorem sumRest_len : ∀ (n : Nat) (ws h : List UInt32), h.length = 8 → (sumRest n ws h).length = 8
  | 0, _, _, h8 => h8
  | n + 1, ws, _, h8 => sumRest_len n (ws.drop 16) _ (compress_len _ _ h8)
theorem sumStr_small (l : List UInt8) : (sumStr l).size ≤ 64 := by
  unfold sumStr
  split
  · exact Nat.zero_le _
  · show (bstr (hexOf (bytesW (hashW l)))).size ≤ 64
    have h : (hexOf (bytesW (hashW l))).length = 64 := by rw [hexOf_len, bytesW_len]; unfold hashW; rw [sumRest_len _ _ _ rfl]
    show (hexOf (bytesW (hashW l))).toArray.size ≤ 64
    rw [List.size_toArray, h]
    exact Nat.le_refl _
/-- What is wrong with putting bytes, and what is left. -/
def bputsE (data : List UInt8) (l : List Blob) : Int := bputE (blobsFault l) (sumStr data) data l
def bputsL (data : List UInt8) (l : List Blob) : List Blob := bputL (sumStr data) data l
theorem blob_Put (v u : Value) (l : List Blob) (data : List UInt8) (w : World) (h : RBl w v l) (g : RB w u data) : Calls Try.prog 24 #[v, u] w (BlRes (bputsE data l) (sumStr data) (bputsL data l) w) :=
  blob_Put' v u l data (sumStr data) (padErr data) w h g (Nat.le_trans (sumStr_small data) (by decide)) _ (fun w h => blob_Check v l w h) (fun w g => sha_Sum u data w g) rising_blobs
theorem ref_BlobsPut (v u : Value) (l : List Blob) (data : List UInt8) (w : World) (h : RBl w v l) (g : RB w u data) : Calls Try.prog 25 #[v, u] w (BlRes (bputsE data l) (sumStr data) (bputsL data l) w) :=
  ref_BlobsPut' v u l data (sumStr data) (padErr data) w h g (Nat.le_trans (sumStr_small data) (by decide)) _ (fun w h => ref_BlobsFault v l w h) (fun w g => ref_ShaSum u data w g) rising_blobs
end Go.Proofs.Ytcbopanekmpllaa
