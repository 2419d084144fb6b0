/- Arguments of AdmitFinds, opened: a slice's capacity. -/
import Derived.Test.YtmhmcdpadmimlaaGreatDoorDX
import Derived.Test.YtmhmcdpadmimlaaGreatDoorDO
namespace Go.Proofs.YtmhmcdpadmimlaaGreatDoor
open Go.RowKit Go.ChangeShapes Go.WideShapes Go.Deep
set_option linter.unusedVariables false

theorem slice_cap {P : Program} {T e : TypeId} (h : P.underlying T = some (.slice e)) {H : Type} {enc : TypeId × Value → H} {W : World} {fuel : Nat} {cs : List Value} {x : DataW H × List MemPlace} {a : Option Addr} {n c : Nat}
    (hx : DataW.trod enc P W 0 (fun _ => true) true fuel T cs = some x) (hcs : cs = [.slice a n c]) : c ≤ 9223372036854775807 := by
  rcases Go.Deep.open_slice h hx with ⟨rfl, _⟩ | ⟨a', len, cap, m, k, D, Pl, rfl, _, _, hm, _⟩
  · injection hcs with h1 _
    injection h1 with _ _ h2
    omega
  · injection hcs with h1 _
    injection h1 with _ _ h2
    unfold maxLen at hm
    omega
end Go.Proofs.YtmhmcdpadmimlaaGreatDoor
