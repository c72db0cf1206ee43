/-
  What the library's variables hold: the tables of strconv and unicode/utf8, bytealg's number.
-/
import Derived.Test.YtgjmgmejojbdeaaGreatDoorShelf
import Derived.Test.YtgjmgmejojbdeaaGreatDoorRd
import Derived.Test.YtgjmgmejojbdeaaGreatDoorOwn
namespace Go.Proofs.YtgjmgmejojbdeaaGreatDoor
open Go.RowKit

/-- the table that Itoa reads -/
abbrev Glob (w : World) : Prop := Lib.TabIs Tryz.prog w "internal/strconv.uint64pow10" .u64 Lib.pow10Tab
theorem gPow : Tryz.prog.globalNamed "internal/strconv.uint64pow10" = some 4 := by kernel_rfl
theorem Glob.lt {w : World} (h : Glob w) : 4 < w.heap.size := cell_lt (h.cell gPow 0 (by decide))
theorem Glob.below {w w' : World} (h : Glob w) (hb : Below w.heap.size w w') : Glob w' := var?_below hb gPow h.lt h
/-- the tables that utf8 reads -/
abbrev Tabs (w : World) : Prop := Lib.Utf8Tabs 1 2 w
theorem cell_below {w w' : World} (hb : Below w.heap.size w w') {a : Addr} {v : Value} (h : w.cell? a = some v) : w'.cell? a = some v := by
  rw [World.cell?_of_block (hb.block _ (cell_lt h))]; exact h
theorem Tabs.below {w w' : World} (h : Tabs w) (hb : Below w.heap.size w w') : Tabs w' :=
  ⟨fun c hc => cell_below hb (h.1 c hc), fun i hi => ⟨cell_below hb (h.2 i hi).1, cell_below hb (h.2 i hi).2⟩⟩
def MaxL (w : World) : Prop := ∃ m, w.cell? ⟨3, 0, none⟩ = some (.int .i64 m)
theorem MaxL.below {w w' : World} (h : MaxL w) (hb : Below w.heap.size w w') : MaxL w' := ⟨h.choose, cell_below hb h.choose_spec⟩
/-- all of it -/
structure GlobA (w : World) : Prop where
  pow : Glob w
  tabs : Tabs w
  maxl : MaxL w
theorem GlobA.below {w w' : World} (h : GlobA w) (hb : Below w.heap.size w w') : GlobA w' := ⟨h.pow.below hb, h.tabs.below hb, h.maxl.below hb⟩
end Go.Proofs.YtgjmgmejojbdeaaGreatDoor
