/-
  What the rows' lists give to those who read: a package's error is one.
  What the rows' lists give to those who read and tell errors.
-/
import Derived.Test.YtnnidacekljihaaGreatDoorLaidF
import Derived.Test.YtnnidacekljihaaGreatDoorRead2
namespace Go.Proofs.YtnnidacekljihaaGreatDoor
open Go.RowKit Go.Lib

theorem iface_of_reads {P : Program} {W : World} {n nm : String} {d0 : DataW Unit} {g : Nat} {ti : TypeId} {ms : Array (String × TypeId)} (h : VarReads P W n (.iface nm d0)) (hg : P.globalNamed n = some g) (hty : (P.globals[g]?).map (·.type) = some ti) (ht : P.underlying ti = some (.interface ms)) :
    ∃ te pe, W.cell? ⟨g, 0, none⟩ = some (.iface te pe) := by
  obtain ⟨g', t', cs, fuel, p, e1, e2, hvar, hd⟩ := h
  obtain rfl := Option.some.inj (hg.symm.trans e1)
  obtain rfl := Option.some.inj (hty.symm.trans e2)
  have hc := World.var?_cell hg hvar 0
  have key : ∃ u v, cs.toList = [.iface u v] := by
    cases fuel with
    | zero => simp [DataW.trod] at hd
    | succ fuel =>
      simp only [DataW.trod, ht] at hd
      split at hd <;> simp_all
  obtain ⟨u, v, hk⟩ := key
  refine ⟨u, v, ?_⟩
  rw [hc, ← Array.getElem?_toList, hk]
  rfl
theorem gRange : Tryz.prog.globalNamed "strconv.ErrRange" = some 6 := by kernel_rfl
theorem gRangeT : (Tryz.prog.globals[6]?).map (·.type) = some 24 := by kernel_rfl
theorem range_of_reads {W : World} (h : VarReads Tryz.prog W "strconv.ErrRange" Rows.laid_strconv_ErrRange) : ∃ te pe, W.cell? ⟨6, 0, none⟩ = some (.iface te pe) := iface_of_reads h gRange gRangeT Tryz.underlying24
/-- what a law's walk that reads takes of the world -/
structure LaidRd (W : World) : Prop where
  pow : Glob W
  tabs : Tabs W
  maxl : MaxL W
  range : ∃ te pe, W.cell? ⟨6, 0, none⟩ = some (.iface te pe)
theorem LaidRd.glob {W : World} (h : LaidRd W) : GlobA W := ⟨h.pow, h.tabs, h.maxl⟩
theorem LaidRd.lexG {W : World} (h : LaidRd W) : LexG W.cell? := ⟨h.tabs.1, h.tabs.2, h.maxl, h.range⟩
end Go.Proofs.YtnnidacekljihaaGreatDoor

namespace Go.Proofs.YtnnidacekljihaaGreatDoor
open Go.RowKit Go.Lib
/-- what a law's walk that reads and tells errors takes of the world -/
structure LaidRH (W : World) : Prop where
  pow : Glob W
  tabs : Tabs W
  maxl : MaxL W
  range : ∃ te pe, W.cell? ⟨6, 0, none⟩ = some (.iface te pe)
  hand : Handle W
theorem LaidRH.glob {W : World} (h : LaidRH W) : GlobA W := ⟨h.pow, h.tabs, h.maxl⟩
theorem LaidRH.lexG {W : World} (h : LaidRH W) : LexG W.cell? := ⟨h.tabs.1, h.tabs.2, h.maxl, h.range⟩
end Go.Proofs.YtnnidacekljihaaGreatDoor
