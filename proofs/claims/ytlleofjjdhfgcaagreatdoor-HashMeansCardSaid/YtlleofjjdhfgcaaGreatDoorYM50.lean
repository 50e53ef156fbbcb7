/- Part of the proofs that laws return true for every input, where the tables that the rows list are laid. Texts: Jf. -/
import Derived.Test.YtlleofjjdhfgcaaGreatDoorYM48
import Derived.Test.YtlleofjjdhfgcaaGreatDoorYM49
set_option maxHeartbeats 8000000
set_option maxRecDepth 100000
set_option linter.unusedSimpArgs false
set_option linter.unusedVariables false
namespace Go.Proofs.YtlleofjjdhfgcaaGreatDoor
open Go.RowKit Cen
theorem zmh (z : Int) (a : Option Addr) (cap : Nat) (t : List Cl) (wh : Nat) (w : World) (hwh : wh < 256) (hl : t.length <= 9223372036854775807) (hx : LsCells w a t) (hxi : ∀ c ∈ t, ∀ x ∈ c, -9223372036854775808 <= x /\ x <= 9223372036854775807)
 (hst : Stab w) (htab : Tab w) (hdt : Dtab w) :
 Calls Tryz.prog 3 #[.agg #[.int .i64 z, .slice a t.length cap], .int .u8 (wh : Int)] w fun e w' => e = .returned (.bool true) /\ Below w.heap.size w w' :=
 zsn z a cap t wh (fewC t) (fewX t) w hwh hl hx hxi hst (fun h => zuk t (zlb h) w htab hdt) fun V hV => zfz V (htab.keep hV) (hdt.keep hV)
end Go.Proofs.YtlleofjjdhfgcaaGreatDoor
