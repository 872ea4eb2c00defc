/- The program's structs of integers, as data. -/
namespace Go.Proofs.YtlagfeccdcjimaaDoor
structure Erratum where
  id : Int
  sheet : Int
  frm : Int
  til : Int
  day : Int
  deriving DecidableEq

def Erratum.ints (x : Erratum) : List Int := [x.id, x.sheet, x.frm, x.til, x.day]
theorem Erratum.ints_length (x : Erratum) : x.ints.length = 5 := rfl
theorem Erratum.eq_iff (x y : Erratum) : x = y ↔ x.id = y.id ∧ x.sheet = y.sheet ∧ x.frm = y.frm ∧ x.til = y.til ∧ x.day = y.day := by
  cases x; cases y; simp

theorem Erratum.mk_ints : ∀ l : List Int, l.length = 5 → ∃ x : Erratum, x.ints = l := fun l hl => by
  match l, hl with
  | [q0, q1, q2, q3, q4], _ => exact ⟨⟨q0, q1, q2, q3, q4⟩, rfl⟩

structure Issue where
  sheet : Int
  num : Int
  frm : Int
  til : Int
  deriving DecidableEq

def Issue.ints (x : Issue) : List Int := [x.sheet, x.num, x.frm, x.til]
theorem Issue.ints_length (x : Issue) : x.ints.length = 4 := rfl
theorem Issue.eq_iff (x y : Issue) : x = y ↔ x.sheet = y.sheet ∧ x.num = y.num ∧ x.frm = y.frm ∧ x.til = y.til := by
  cases x; cases y; simp

theorem Issue.mk_ints : ∀ l : List Int, l.length = 4 → ∃ x : Issue, x.ints = l := fun l hl => by
  match l, hl with
  | [q0, q1, q2, q3], _ => exact ⟨⟨q0, q1, q2, q3⟩, rfl⟩

structure Zone where
  id : Int
  west : Int
  south : Int
  east : Int
  north : Int
  deriving DecidableEq

def Zone.ints (x : Zone) : List Int := [x.id, x.west, x.south, x.east, x.north]
theorem Zone.ints_length (x : Zone) : x.ints.length = 5 := rfl
theorem Zone.eq_iff (x y : Zone) : x = y ↔ x.id = y.id ∧ x.west = y.west ∧ x.south = y.south ∧ x.east = y.east ∧ x.north = y.north := by
  cases x; cases y; simp

theorem Zone.mk_ints : ∀ l : List Int, l.length = 5 → ∃ x : Zone, x.ints = l := fun l hl => by
  match l, hl with
  | [q0, q1, q2, q3, q4], _ => exact ⟨⟨q0, q1, q2, q3, q4⟩, rfl⟩

structure Tile where
  row : Int
  col : Int
  sum : Int
  deriving DecidableEq

def Tile.ints (x : Tile) : List Int := [x.row, x.col, x.sum]
theorem Tile.ints_length (x : Tile) : x.ints.length = 3 := rfl
theorem Tile.eq_iff (x y : Tile) : x = y ↔ x.row = y.row ∧ x.col = y.col ∧ x.sum = y.sum := by
  cases x; cases y; simp

theorem Tile.mk_ints : ∀ l : List Int, l.length = 3 → ∃ x : Tile, x.ints = l := fun l hl => by
  match l, hl with
  | [q0, q1, q2], _ => exact ⟨⟨q0, q1, q2⟩, rfl⟩

structure Loan where
  sheet : Int
  reader : Int
  out : Int
  due : Int
  back : Int
  deriving DecidableEq

def Loan.ints (x : Loan) : List Int := [x.sheet, x.reader, x.out, x.due, x.back]
theorem Loan.ints_length (x : Loan) : x.ints.length = 5 := rfl
theorem Loan.eq_iff (x y : Loan) : x = y ↔ x.sheet = y.sheet ∧ x.reader = y.reader ∧ x.out = y.out ∧ x.due = y.due ∧ x.back = y.back := by
  cases x; cases y; simp

theorem Loan.mk_ints : ∀ l : List Int, l.length = 5 → ∃ x : Loan, x.ints = l := fun l hl => by
  match l, hl with
  | [q0, q1, q2, q3, q4], _ => exact ⟨⟨q0, q1, q2, q3, q4⟩, rfl⟩

structure Leg where
  way : Int
  units : Int
  climb : Int
  deriving DecidableEq

def Leg.ints (x : Leg) : List Int := [x.way, x.units, x.climb]
theorem Leg.ints_length (x : Leg) : x.ints.length = 3 := rfl
theorem Leg.eq_iff (x y : Leg) : x = y ↔ x.way = y.way ∧ x.units = y.units ∧ x.climb = y.climb := by
  cases x; cases y; simp

theorem Leg.mk_ints : ∀ l : List Int, l.length = 3 → ∃ x : Leg, x.ints = l := fun l hl => by
  match l, hl with
  | [q0, q1, q2], _ => exact ⟨⟨q0, q1, q2⟩, rfl⟩

structure Four where
  a : Int
  b : Int
  c : Int
  d : Int
  deriving DecidableEq

def Four.ints (x : Four) : List Int := [x.a, x.b, x.c, x.d]
theorem Four.ints_length (x : Four) : x.ints.length = 4 := rfl
theorem Four.eq_iff (x y : Four) : x = y ↔ x.a = y.a ∧ x.b = y.b ∧ x.c = y.c ∧ x.d = y.d := by
  cases x; cases y; simp

theorem Four.mk_ints : ∀ l : List Int, l.length = 4 → ∃ x : Four, x.ints = l := fun l hl => by
  match l, hl with
  | [q0, q1, q2, q3], _ => exact ⟨⟨q0, q1, q2, q3⟩, rfl⟩

structure Two where
  a : Int
  b : Int
  deriving DecidableEq

def Two.ints (x : Two) : List Int := [x.a, x.b]
theorem Two.ints_length (x : Two) : x.ints.length = 2 := rfl
theorem Two.eq_iff (x y : Two) : x = y ↔ x.a = y.a ∧ x.b = y.b := by
  cases x; cases y; simp

theorem Two.mk_ints : ∀ l : List Int, l.length = 2 → ∃ x : Two, x.ints = l := fun l hl => by
  match l, hl with
  | [q0, q1], _ => exact ⟨⟨q0, q1⟩, rfl⟩

end Go.Proofs.YtlagfeccdcjimaaDoor
