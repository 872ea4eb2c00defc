/- The copies that are meant: the words. -/
import Derived.Test.YtbnlbcbdhmmlgaaGreatDoorMgB
import Derived.Test.YtbnlbcbdhmmlgaaGreatDoorMiss
import Derived.Test.YtbnlbcbdhmmlgaaGreatDoorHeldI
import Derived.Test.YtbnlbcbdhmmlgaaGreatDoorHeldS
namespace Go.Proofs.YtbnlbcbdhmmlgaaGreatDoor
open Go.RowKit
set_option linter.unusedVariables false
set_option linter.unusedSimpArgs false

noncomputable def cw (P : Nest → Prop) (hs : List Nest) : List Int := (hs.filter fun x => tb (P x)).map fun x => x.a
theorem cw_t {P : Nest → Prop} {ys : List Nest} {x : Nest} (h : P x) : cw P (ys ++ [x]) = cw P ys ++ [x.a] := by simp [cw, tb_t h]
theorem cw_f {P : Nest → Prop} {ys : List Nest} {x : Nest} (h : ¬ P x) : cw P (ys ++ [x]) = cw P ys := by simp [cw, tb_f h]
theorem cw_len (P : Nest → Prop) (ys : List Nest) : (cw P ys).length ≤ ys.length := by unfold cw; rw [List.length_map]; exact List.length_filter_le _ _
end Go.Proofs.YtbnlbcbdhmmlgaaGreatDoor
