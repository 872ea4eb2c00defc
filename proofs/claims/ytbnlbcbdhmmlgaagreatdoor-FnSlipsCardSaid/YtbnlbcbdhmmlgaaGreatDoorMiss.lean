/- Which slips are missing from a copy: missing and l19Missing. -/
import Derived.Test.YtbnlbcbdhmmlgaaGreatDoorMgC
import Derived.Test.YtbnlbcbdhmmlgaaGreatDoorMgB
import Derived.Test.YtbnlbcbdhmmlgaaGreatDoorMgD
namespace Go.Proofs.YtbnlbcbdhmmlgaaGreatDoor
open Go.RowKit
set_option linter.unusedVariables false
set_option linter.unusedSimpArgs false

def Mis (x : Nest) (day : Int) (e : Erratum) : Prop := Con e x ∧ e.day ≤ day ∧ e.id ∉ x.l
noncomputable def miss (x : Nest) (day : Int) (xs : List Erratum) : List Int := (xs.filter fun e => tb (Mis x day e)).map fun e => e.id
theorem miss_t {x : Nest} {day : Int} {ys : List Erratum} {e : Erratum} (h : Mis x day e) : miss x day (ys ++ [e]) = miss x day ys ++ [e.id] := by simp [miss, tb_t h]
theorem miss_f {x : Nest} {day : Int} {ys : List Erratum} {e : Erratum} (h : ¬ Mis x day e) : miss x day (ys ++ [e]) = miss x day ys := by simp [miss, tb_f h]
theorem miss_len (x : Nest) (day : Int) (ys : List Erratum) : (miss x day ys).length ≤ ys.length := by unfold miss; rw [List.length_map]; exact List.length_filter_le _ _
theorem contains_t (A : Option Addr) (c : Nat) (xs : List Int) (v : Int) (w : World) (hn : xs.length ≤ 1152921504606846976) (hA : Fl one 1 w A xs) (h : v ∈ xs) :
    Calls Tryz.prog 32 #[.slice A xs.length c, .int .i64 v] w fun e w' => e = .returned (.bool true) ∧ w = w' := by
  have := contains_any A c xs v w hn hA; rwa [tb_t h] at this
theorem contains_f (A : Option Addr) (c : Nat) (xs : List Int) (v : Int) (w : World) (hn : xs.length ≤ 1152921504606846976) (hA : Fl one 1 w A xs) (h : v ∉ xs) :
    Calls Tryz.prog 32 #[.slice A xs.length c, .int .i64 v] w fun e w' => e = .returned (.bool false) ∧ w = w' := by
  have := contains_any A c xs v w hn hA; rwa [tb_f h] at this
theorem l1Has_t (A : Option Addr) (c : Nat) (xs : List Int) (v : Int) (w : World) (hn : xs.length ≤ 1152921504606846976) (hA : Fl one 1 w A xs) (h : v ∈ xs) :
    Calls Tryz.prog 38 #[.slice A xs.length c, .int .i64 v] w fun e w' => e = .returned (.bool true) ∧ w = w' := by
  have := l1Has_any A c xs v w hn hA; rwa [tb_t h] at this
theorem l1Has_f (A : Option Addr) (c : Nat) (xs : List Int) (v : Int) (w : World) (hn : xs.length ≤ 1152921504606846976) (hA : Fl one 1 w A xs) (h : v ∉ xs) :
    Calls Tryz.prog 38 #[.slice A xs.length c, .int .i64 v] w fun e w' => e = .returned (.bool false) ∧ w = w' := by
  have := l1Has_any A c xs v w hn hA; rwa [tb_f h] at this
end Go.Proofs.YtbnlbcbdhmmlgaaGreatDoor
