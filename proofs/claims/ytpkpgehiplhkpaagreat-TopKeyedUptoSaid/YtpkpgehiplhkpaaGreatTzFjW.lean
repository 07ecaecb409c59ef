import Derived.Test.YtpkpgehiplhkpaaGreatTzFjn
namespace Go.Proofs.YtpkpgehiplhkpaaGreat
open Go.RowKit
end Go.Proofs.YtpkpgehiplhkpaaGreat

namespace Go.Proofs.YtpkpgehiplhkpaaGreat
open Go.RowKit
theorem flights_ok6 {l : List Flight} (h0 : flightsFault l = 0) : l.length ≤ 6 ∧ ∀ x ∈ l, x.waiters.length ≤ 5 := ⟨by
 rcases Nat.lt_or_ge 6 l.length with h6 | h6
 · rw [flights_long h6] at h0; cases h0
 · exact h6, flights_fit h0⟩
theorem flight_JoinA (v : Value) (l : List Flight) (s : ByteArray) (n : Int) (w : World) (h : RF w v l) (hs : s.size ≤ 140737488351232) (hwf : (Lit.int .i64 n).wf = true) :
 Calls Tryz.prog 218 #[v, .string s, .int .i64 n] w (JoinPost (flightsFault l) (hexFault s) n s l w) :=
 flight_Join v l s n w h hs hwf _ flights_ok6 (fun w g => flight_Check v l w g)
end Go.Proofs.YtpkpgehiplhkpaaGreat
