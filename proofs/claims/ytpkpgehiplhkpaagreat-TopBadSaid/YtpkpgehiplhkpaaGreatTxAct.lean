import Derived.Test.YtpkpgehiplhkpaaGreatTxMnf
namespace Go.Proofs.YtpkpgehiplhkpaaGreat
open Go.RowKit
end Go.Proofs.YtpkpgehiplhkpaaGreat
