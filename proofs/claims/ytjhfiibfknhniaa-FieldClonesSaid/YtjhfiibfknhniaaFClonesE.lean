/- The walk of FieldClones, its letters left to the unifier. -/
import Derived.Test.YtjhfiibfknhniaaFClones
namespace Go.Proofs.Ytjhfiibfknhniaa
open Go.RowKit
theorem FieldClones_wk {x : Int} {Ao : Option Addr} {n c : Nat} {ls : List (List Int)} {px py s : Int} (w : World) (hx : -9223372036854775808 ≤ x ∧ x ≤ 9223372036854775807) (hn : ls.length = n) (hnb : n ≤ 140737488351232) (hl : LnsAt w Ao ls)
    (hpx : -9223372036854775808 ≤ px ∧ px ≤ 9223372036854775807) (hpy : -9223372036854775808 ≤ py ∧ py ≤ 9223372036854775807) (hs : 0 ≤ s ∧ s ≤ 255) :
    Calls Try.prog 6 #[.int .i64 x, .slice Ao n c, .int .i64 px, .int .i64 py, .int .u8 s] w (Ret (.bool true) w) := FieldClones_walk x Ao n c ls px py s w hx hn hnb hl hpx hpy hs
end Go.Proofs.Ytjhfiibfknhniaa
