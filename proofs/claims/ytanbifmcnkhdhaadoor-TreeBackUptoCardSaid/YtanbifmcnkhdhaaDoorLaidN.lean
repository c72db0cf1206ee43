/-
  What the rows' lists give: the library's tables, a number.
-/
import Derived.Test.YtanbifmcnkhdhaaDoorGlob
import Derived.Test.YtanbifmcnkhdhaaDoorRows
import Derived.LaidHandle
import Derived.Lib.LaidTab
import Derived.Lib.LaidU8T
import Derived.PinnedBridge
namespace Go.Proofs.YtanbifmcnkhdhaaDoor
open Go.RowKit Go.Lib

theorem tabType : (Tryd.prog.globals[3]?).map (·.type) = some 136 := by kernel_rfl
theorem cellsTab : Tryd.prog.cellsOf 136 = 20 := by kernel_rfl
theorem cellsU64 : Tryd.prog.cellsOf 127 = 1 := by kernel_rfl
theorem pow_eq : (Rows.laid_internal_strconv_uint64pow10 : DataW Unit) = Lib.tabData .u64 Lib.pow10Tab := by kernel_rfl
theorem accept_eq : (Rows.laid_unicode_utf8_acceptRanges : DataW Unit) = Lib.acceptData := by kernel_rfl
theorem glob_of_reads {W : World} (h : VarReads Tryd.prog W "internal/strconv.uint64pow10" Rows.laid_internal_strconv_uint64pow10) : Glob W := by
  rw [pow_eq] at h
  obtain ⟨g, t, cs, fuel, p, hg, hty, hvar, hd⟩ := h
  obtain rfl := Option.some.inj (gPow.symm.trans hg)
  obtain rfl := Option.some.inj (tabType.symm.trans hty)
  unfold Glob Lib.TabIs
  rw [hvar, ← cells_of_tab Tryd.underlying136 Tryd.underlying127 cellsU64 cellsTab hd]
theorem u8x : U8Extra Tryd.prog Tryd.lays196_ren := ⟨by kernel_rfl, by kernel_rfl, by kernel_rfl, by kernel_rfl, by kernel_rfl, by kernel_rfl, by kernel_rfl⟩
theorem tabs_of_reads {W : World} (h : VarReads Tryd.prog W "unicode/utf8.first" Rows.laid_unicode_utf8_first) (k : VarReads Tryd.prog W "unicode/utf8.acceptRanges" Rows.laid_unicode_utf8_acceptRanges) : Tabs W := by
  rw [accept_eq] at k
  have e : Rows.laid_unicode_utf8_first = Lib.firstData := Pinned.utf8First_eq
  rw [e] at h
  exact utf8Tabs_of_readsT (U8Types.of196 Tryd.lays196) u8x h k
theorem maxl_of_shaped {W : World} (h : W.ShapedOpen Tryd.prog) : MaxL W := Tryd.laysM219.s1_3 W h
theorem bulk_bound {H : Type} {l : List (DataW H)} (hk : Rows.uptoSmall H l = true) : Rows.uptoBulkAll l ≤ 1048576 := of_decide_eq_true hk
/-- .. where nothing is asked of errors -/
structure LaidG (W : World) : Prop where
  pow : Glob W
  tabs : Tabs W
  maxl : MaxL W
theorem LaidG.glob {W : World} (h : LaidG W) : GlobA W := ⟨h.pow, h.tabs, h.maxl⟩
end Go.Proofs.YtanbifmcnkhdhaaDoor
