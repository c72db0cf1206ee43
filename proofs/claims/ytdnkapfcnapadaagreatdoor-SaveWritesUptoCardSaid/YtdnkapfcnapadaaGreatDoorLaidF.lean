/-
  What the rows' lists give: the library's tables, the handle, a number.
-/
import Derived.Test.YtdnkapfcnapadaaGreatDoorGlob
import Derived.Test.YtdnkapfcnapadaaGreatDoorTold
import Derived.Test.YtdnkapfcnapadaaGreatDoorRows
import Derived.LaidHandle
import Derived.Lib.LaidTab
import Derived.Lib.LaidU8T
import Derived.PinnedBridge
namespace Go.Proofs.YtdnkapfcnapadaaGreatDoor
open Go.RowKit Go.Lib

theorem tabType : (Tryz.prog.globals[4]?).map (·.type) = some 281 := by kernel_rfl
theorem cellsTab : Tryz.prog.cellsOf 281 = 20 := by kernel_rfl
theorem cellsU64 : Tryz.prog.cellsOf 85 = 1 := by kernel_rfl
theorem pow_eq : (Rows.laid_internal_strconv_uint64pow10 : DataW Unit) = Lib.tabData .u64 Lib.pow10Tab := by kernel_rfl
theorem accept_eq : (Rows.laid_unicode_utf8_acceptRanges : DataW Unit) = Lib.acceptData := by kernel_rfl
theorem glob_of_reads {W : World} (h : VarReads Tryz.prog W "internal/strconv.uint64pow10" Rows.laid_internal_strconv_uint64pow10) : Glob W := by
  rw [pow_eq] at h
  obtain ⟨g, t, cs, fuel, p, hg, hty, hvar, hd⟩ := h
  obtain rfl := Option.some.inj (gPow.symm.trans hg)
  obtain rfl := Option.some.inj (tabType.symm.trans hty)
  unfold Glob Lib.TabIs
  rw [hvar, ← cells_of_tab Tryz.underlying281 Tryz.underlying85 cellsU64 cellsTab hd]
theorem u8x : U8Extra Tryz.prog Tryz.lays196_ren := ⟨by kernel_rfl, by kernel_rfl, by kernel_rfl, by kernel_rfl, by kernel_rfl, by kernel_rfl, by kernel_rfl⟩
theorem tabs_of_reads {W : World} (h : VarReads Tryz.prog W "unicode/utf8.first" Rows.laid_unicode_utf8_first) (k : VarReads Tryz.prog W "unicode/utf8.acceptRanges" Rows.laid_unicode_utf8_acceptRanges) : Tabs W := by
  rw [accept_eq] at k
  have e : Rows.laid_unicode_utf8_first = Lib.firstData := Pinned.utf8First_eq
  rw [e] at h
  exact utf8Tabs_of_readsT (U8Types.of196 Tryz.lays196) u8x h k
theorem maxl_of_shaped {W : World} (h : W.ShapedOpen Tryz.prog) : MaxL W := Tryz.laysM219.s1_3 W h
theorem rt : (Tryz.prog.cutTypes.find? (·.1 == "internal/reflectlite.rtype")).map (·.2) = some 247 := by kernel_rfl
theorem et : Tryz.prog.globalNamed "errors.errorType" = some 0 := by kernel_rfl
theorem oneRow : ((List.range Tryz.prog.types.size).filter fun t => Tryz.prog.rowNamed t [101, 114, 114, 111, 114]) = [29] := by kernel_rfl
theorem handle_of_met {W : World} (h : handlesMet Tryz.prog [("errors.errorType", Rows.laid_errors_errorType)] W) : Handle W := by
  obtain ⟨name, u, ty, e1, e2, e3, e4, e5⟩ := h _ (List.mem_singleton.2 rfl)
  have en : name = [101, 114, 114, 111, 114] := (Option.some.inj e1).symm
  subst en
  obtain rfl := Option.some.inj (rt.symm.trans e2)
  have hm : ty ∈ (List.range Tryz.prog.types.size).filter fun t => Tryz.prog.rowNamed t [101, 114, 114, 111, 114] := List.mem_filter.2 ⟨List.mem_range.2 e3, e4⟩
  rw [oneRow] at hm
  obtain rfl := List.mem_singleton.1 hm
  have hh : typeHandle Tryz.prog 29 = .pointer (some ⟨7, 29, none⟩) := by kernel_rfl
  rw [hh] at e5
  have := World.var?_cell et e5 0
  unfold Handle
  simpa using this
theorem bulk_bound {H : Type} {l : List (DataW H)} (hk : Rows.uptoSmall H l = true) : Rows.uptoBulkAll l ≤ 1048576 := of_decide_eq_true hk
/-- what a law's walk takes of the world -/
structure LaidOk (W : World) : Prop where
  pow : Glob W
  tabs : Tabs W
  maxl : MaxL W
  hand : Handle W
theorem LaidOk.glob {W : World} (h : LaidOk W) : GlobA W := ⟨h.pow, h.tabs, h.maxl⟩
/-- .. where nothing is asked of errors -/
structure LaidG (W : World) : Prop where
  pow : Glob W
  tabs : Tabs W
  maxl : MaxL W
theorem LaidG.glob {W : World} (h : LaidG W) : GlobA W := ⟨h.pow, h.tabs, h.maxl⟩
end Go.Proofs.YtdnkapfcnapadaaGreatDoor
