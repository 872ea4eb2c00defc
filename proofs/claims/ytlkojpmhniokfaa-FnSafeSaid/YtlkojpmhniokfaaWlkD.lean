/- What is drawn of a walk: its state; literals beneath calls. No condition. -/
import Derived.Test.YtlkojpmhniokfaaRouS
import Derived.Test.YtlkojpmhniokfaaLegR
import Derived.Test.YtlkojpmhniokfaaRegZ
namespace Go.Proofs.Ytlkojpmhniokfaa
open Go.RowKit
set_option linter.unusedVariables false
set_option linter.unusedSimpArgs false

/-- the cursor at g, a land in the variable at X, its bars, a route, the result's variable at R -/
structure WS (g : Nat) (C : Option Addr) (n cap X R l1 h1 l2 h2 : Nat) (wide high steep : Int) (sl : Value) (LA : Option Addr) (xs : List Four) (RA : Option Addr) (ls : List Leg) (K : Nat) (w0 w : World) : Prop where
  cur : CurAt g C n cap K w
  box : VarL w X [.int .i64 wide, .int .i64 high, sl, .int .i64 steep]
  bars : FlO Four.ints 4 l1 h1 w LA xs
  legs : FlO Leg.ints 3 l2 h2 w RA ls
  res : VarL w R [.int .i64 0, .int .i64 0, .slice none 0 0, .int .i64 0]
  tch : Touch g (g + 1) w0 w
section
variable {g : Nat} {C : Option Addr} {n cap X R l1 h1 l2 h2 : Nat} {wide high steep : Int} {sl : Value} {LA : Option Addr} {xs : List Four} {RA : Option Addr} {ls : List Leg} {K : Nat} {w0 w w' : World}
theorem WS.ext (h : WS g C n cap X R l1 h1 l2 h2 wide high steep sl LA xs RA ls K w0 w) (hb : Below w.heap.size w w') : WS g C n cap X R l1 h1 l2 h2 wide high steep sl LA xs RA ls K w0 w' :=
  ⟨h.cur.ext hb, h.box.ext hb, h.bars.ext hb, h.legs.ext hb, h.res.ext hb, h.tch.trans (Touch.of_ext hb)⟩
theorem WS.draw {K' : Nat} (h : WS g C n cap X R l1 h1 l2 h2 wide high steep sl LA xs RA ls K w0 w) (hX : g < X) (hR : g < R) (hl : g < l1) (hm : g < l2) (hc : CurAt g C n cap K' w') (ht : Touch g (g + 1) w w') : WS g C n cap X R l1 h1 l2 h2 wide high steep sl LA xs RA ls K' w0 w' :=
  ⟨hc, h.box.touch ht (.inr hX), h.bars.touch ht (.inr hl), h.legs.touch ht (.inr hm), h.res.touch ht (.inr hR), h.tch.trans ht⟩
theorem WS.among (h : WS g C n cap X R l1 h1 l2 h2 wide high steep sl LA xs RA ls K w0 w) (hX : g < X) (hR : g < R) (hl : g < l1) (hm : g < l2) (hn : n ≤ 1099511627776) (hK : K ≤ 549755813888) (l : List Int) (m : Nat) (hml : m = l.length) (q0 : 0 < l.length) (q1 : l.length ≤ 1048576) (b : Nat) (hF : FlO one 1 b (b + 1) w (some ⟨b, 0, none⟩) l) (hb : g < b) :
    Calls Try.prog 43 #[.pointer (some ⟨g, 0, none⟩), .slice (some ⟨b, 0, none⟩) m m] w fun e w' => ∃ z ∈ l, e = .returned (.int .i64 z) ∧ WS g C n cap X R l1 h1 l2 h2 wide high steep sl LA xs RA ls (K + 2) w0 w' ∧ Touch g (g + 1) w w' :=
  (among_any (some ⟨b, 0, none⟩) m m l hml b (b + 1) g C n cap K w h.cur hK hn hF q0 q1 (.inl hb)).mono fun e w' ⟨_, he, ⟨z, hz, hv⟩, hC, hU⟩ => ⟨z, hz, by rw [he, hv], h.draw hX hR hl hm hC hU, hU⟩
end
theorem set4_var {w : World} {B : Nat} {x0 x1 x2 x3 : Value} (h : VarL w B [x0, x1, x2, x3]) (a b c d : Value) : VarL ((((w.setCell ⟨B, 0, none⟩ a).setCell ⟨B, 1, none⟩ b).setCell ⟨B, 2, none⟩ c).setCell ⟨B, 3, none⟩ d) B [a, b, c, d] :=
  (((h.set 0 a (by simp)).set 1 b (by simp)).set 2 c (by simp)).set 3 d (by simp)
/-- a literal's block, whatever lies on top of it -/
theorem flo_blk {w : World} {b : Nat} {e : TypeId} {cs : Array Value} (h : w.heap[b]? = some (.cells cs e)) (xs : List Int) (hcs : cs = (xs.map (Value.int .i64)).toArray) : FlO one 1 b (b + 1) w (some ⟨b, 0, none⟩) xs := fun _ => by
  subst hcs
  have hlt : b < w.heap.size := by
    rcases Nat.lt_or_ge b w.heap.size with q | q
    · exact q
    · rw [Array.getElem?_eq_none q] at h; cases h
  refine ⟨b, 0, rfl, hlt, Nat.le_refl _, Nat.lt_succ_self _, fun j => by simp [World.frozen?, h], fun i x hx j v hv => ?_⟩
  have hj : j = 0 := by
    have := (List.getElem?_eq_some_iff.1 hv).1
    simp [one] at this
    exact this
  subst hj
  simp [one] at hv
  subst hv
  rw [cell_of_row w b _ _ e (0, 0) h]
  simp [hx]
theorem blk_keep {w w1 w2 : World} {b g : Nat} {o : Obj} (h : w.heap[b]? = some o) (hb : Below w.heap.size w w1) (hU : Touch g (g + 1) w1 w2) (hg : g < b) : w2.heap[b]? = some o := by
  have hlt : b < w.heap.size := by
    rcases Nat.lt_or_ge b w.heap.size with q | q
    · exact q
    · rw [Array.getElem?_eq_none q] at h; cases h
  rw [hU.block b (Nat.lt_of_lt_of_le hlt hb.size) (.inr (by omega)), hb.block b hlt, h]
theorem blk_new (w : World) (o : Obj) : (w.alloc o).heap[w.heap.size]? = some o := by unfold World.alloc; simp
theorem blk_new1 (w : World) (a o : Obj) : ((w.alloc a).alloc o).heap[w.heap.size + 1]? = some o := by
  have h := blk_new (w.alloc a) o
  rwa [show (w.alloc a).heap.size = w.heap.size + 1 by simp] at h
theorem blk_new2 (w : World) (a b o : Obj) : (((w.alloc a).alloc b).alloc o).heap[w.heap.size + 1 + 1]? = some o := by
  have h := blk_new ((w.alloc a).alloc b) o
  rwa [show ((w.alloc a).alloc b).heap.size = w.heap.size + 1 + 1 by simp] at h
theorem lit_flo2 (w : World) (a b : Obj) (xs : List Int) (e : TypeId) (cs : Array Value) (hcs : cs = (xs.map (Value.int .i64)).toArray) : FlO one 1 (w.heap.size + 1 + 1) (w.heap.size + 1 + 1 + 1) (((w.alloc a).alloc b).alloc (.cells cs e)) (some ⟨w.heap.size + 1 + 1, 0, none⟩) xs := flo_blk (blk_new2 w a b _) xs hcs
-- blocks behind a call: n allocs ahead of it, number j of them
theorem bk21 {w w' : World} {a b : Obj} {g : Nat} (hU : Touch g (g + 1) ((w.alloc a).alloc b).drew w') (hg : g < w.heap.size) : w'.heap[w.heap.size]? = some a := blk_keep (blk_new w a) (ext_trans (ext_alloc _ b) (ext_drew _)) hU hg
theorem bk22 {w w' : World} {a b : Obj} {g : Nat} (hU : Touch g (g + 1) ((w.alloc a).alloc b).drew w') (hg : g < w.heap.size) : w'.heap[w.heap.size + 1]? = some b := blk_keep (blk_new1 w a b) (ext_drew _) hU (Nat.lt_succ_of_lt hg)
theorem bk31 {w w' : World} {a b c : Obj} {g : Nat} (hU : Touch g (g + 1) (((w.alloc a).alloc b).alloc c).drew w') (hg : g < w.heap.size) : w'.heap[w.heap.size]? = some a := blk_keep (blk_new w a) (ext_trans (ext_trans (ext_alloc _ b) (ext_alloc _ c)) (ext_drew _)) hU hg
theorem bk32 {w w' : World} {a b c : Obj} {g : Nat} (hU : Touch g (g + 1) (((w.alloc a).alloc b).alloc c).drew w') (hg : g < w.heap.size) : w'.heap[w.heap.size + 1]? = some b := blk_keep (blk_new1 w a b) (ext_trans (ext_alloc _ c) (ext_drew _)) hU (Nat.lt_succ_of_lt hg)
theorem bk33 {w w' : World} {a b c : Obj} {g : Nat} (hU : Touch g (g + 1) (((w.alloc a).alloc b).alloc c).drew w') (hg : g < w.heap.size) : w'.heap[w.heap.size + 1 + 1]? = some c := blk_keep (blk_new2 w a b c) (ext_drew _) hU (Nat.lt_succ_of_lt (Nat.lt_succ_of_lt hg))
-- behind a call ahead of which nothing was made but perhaps one thing (the world's own draw does not count: without drew)
theorem bp11 {w w' : World} {a : Obj} {g : Nat} (hU : Touch g (g + 1) (w.alloc a) w') (hg : g < w.heap.size) : w'.heap[w.heap.size]? = some a := blk_keep (blk_new w a) (Below.refl _ _) hU hg
theorem bp21 {w w' : World} {a b : Obj} {g : Nat} (hU : Touch g (g + 1) ((w.alloc a).alloc b) w') (hg : g < w.heap.size) : w'.heap[w.heap.size]? = some a := blk_keep (blk_new w a) (ext_alloc _ b) hU hg
theorem bp22 {w w' : World} {a b : Obj} {g : Nat} (hU : Touch g (g + 1) ((w.alloc a).alloc b) w') (hg : g < w.heap.size) : w'.heap[w.heap.size + 1]? = some b := blk_keep (blk_new1 w a b) (Below.refl _ _) hU (Nat.lt_succ_of_lt hg)
theorem bq0 {w w' : World} {b g : Nat} {o : Obj} (h : w.heap[b]? = some o) (hU : Touch g (g + 1) w w') (hg : g < b) : w'.heap[b]? = some o := blk_keep h (Below.refl _ _) hU hg
theorem bq1 {w w' : World} {b g : Nat} {o a : Obj} (h : w.heap[b]? = some o) (hU : Touch g (g + 1) (w.alloc a) w') (hg : g < b) : w'.heap[b]? = some o := blk_keep h (ext_alloc _ a) hU hg
theorem bq2 {w w' : World} {b g : Nat} {o a c : Obj} (h : w.heap[b]? = some o) (hU : Touch g (g + 1) ((w.alloc a).alloc c) w') (hg : g < b) : w'.heap[b]? = some o := blk_keep h (ext_trans (ext_alloc _ a) (ext_alloc _ c)) hU hg
end Go.Proofs.Ytlkojpmhniokfaa
