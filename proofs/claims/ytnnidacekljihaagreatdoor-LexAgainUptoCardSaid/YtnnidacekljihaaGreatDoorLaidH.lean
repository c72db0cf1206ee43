/-
  What the rows' lists give to those who read and tell errors.
-/
import Derived.Test.YtnnidacekljihaaGreatDoorLaidR
namespace Go.Proofs.YtnnidacekljihaaGreatDoor
open Go.RowKit Go.Lib
/-- what a law's walk that reads and tells errors takes of the world -/
structure LaidRH (W : World) : Prop where
  pow : Glob W
  tabs : Tabs W
  maxl : MaxL W
  range : ∃ te pe, W.cell? ⟨6, 0, none⟩ = some (.iface te pe)
  hand : Handle W
theorem LaidRH.glob {W : World} (h : LaidRH W) : GlobA W := ⟨h.pow, h.tabs, h.maxl⟩
theorem LaidRH.lexG {W : World} (h : LaidRH W) : LexG W.cell? := ⟨h.tabs.1, h.tabs.2, h.maxl, h.range⟩
end Go.Proofs.YtnnidacekljihaaGreatDoor
