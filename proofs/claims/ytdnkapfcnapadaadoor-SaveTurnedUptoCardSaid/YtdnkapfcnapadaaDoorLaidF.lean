/-
  What the rows' lists give: the library's tables, the handle, a number.
-/
import Derived.Test.YtdnkapfcnapadaaDoorGlob
import Derived.Test.YtdnkapfcnapadaaDoorTold
import Derived.Test.YtdnkapfcnapadaaDoorRows
import Derived.LaidHandle
import Derived.Lib.LaidTab
import Derived.Lib.LaidU8T
import Derived.PinnedBridge
namespace Go.Proofs.YtdnkapfcnapadaaDoor
open Go.RowKit Go.Lib

theorem tabType : (Tryd.prog.globals[4]?).map (·.type) = some 231 := by kernel_rfl
theorem cellsTab : Tryd.prog.cellsOf 231 = 20 := by kernel_rfl
theorem cellsU64 : Tryd.prog.cellsOf 69 = 1 := by kernel_rfl
theorem pow_eq : (Rows.laid_internal_strconv_uint64pow10 : DataW Unit) = Lib.tabData .u64 Lib.pow10Tab := by kernel_rfl
theorem accept_eq : (Rows.laid_unicode_utf8_acceptRanges : DataW Unit) = Lib.acceptData := by kernel_rfl
theorem glob_of_reads {W : World} (h : VarReads Tryd.prog W "internal/strconv.uint64pow10" Rows.laid_internal_strconv_uint64pow10) : Glob W := by
  rw [pow_eq] at h
  obtain ⟨g, t, cs, fuel, p, hg, hty, hvar, hd⟩ := h
  obtain rfl := Option.some.inj (gPow.symm.trans hg)
  obtain rfl := Option.some.inj (tabType.symm.trans hty)
  unfold Glob Lib.TabIs
  rw [hvar, ← cells_of_tab Tryd.underlying231 Tryd.underlying69 cellsU64 cellsTab hd]
theorem u8x : U8Extra Tryd.prog Tryd.lays196_ren := ⟨by kernel_rfl, by kernel_rfl, by kernel_rfl, by kernel_rfl, by kernel_rfl, by kernel_rfl, by kernel_rfl⟩
theorem tabs_of_reads {W : World} (h : VarReads Tryd.prog W "unicode/utf8.first" Rows.laid_unicode_utf8_first) (k : VarReads Tryd.prog W "unicode/utf8.acceptRanges" Rows.laid_unicode_utf8_acceptRanges) : Tabs W := by
  rw [accept_eq] at k
  have e : Rows.laid_unicode_utf8_first = Lib.firstData := Pinned.utf8First_eq
  rw [e] at h
  exact utf8Tabs_of_readsT (U8Types.of196 Tryd.lays196) u8x h k
theorem maxl_of_shaped {W : World} (h : W.ShapedOpen Tryd.prog) : MaxL W := Tryd.laysM219.s1_3 W h
theorem rt : (Tryd.prog.cutTypes.find? (·.1 == "internal/reflectlite.rtype")).map (·.2) = some 197 := by kernel_rfl
theorem et : Tryd.prog.globalNamed "errors.errorType" = some 0 := by kernel_rfl
theorem oneRow : ((List.range Tryd.prog.types.size).filter fun t => Tryd.prog.rowNamed t [101, 114, 114, 111, 114]) = [25] := by kernel_rfl
theorem handle_of_met {W : World} (h : handlesMet Tryd.prog [("errors.errorType", Rows.laid_errors_errorType)] W) : Handle W := by
  obtain ⟨name, u, ty, e1, e2, e3, e4, e5⟩ := h _ (List.mem_singleton.2 rfl)
  have en : name = [101, 114, 114, 111, 114] := (Option.some.inj e1).symm
  subst en
  obtain rfl := Option.some.inj (rt.symm.trans e2)
  have hm : ty ∈ (List.range Tryd.prog.types.size).filter fun t => Tryd.prog.rowNamed t [101, 114, 114, 111, 114] := List.mem_filter.2 ⟨List.mem_range.2 e3, e4⟩
  rw [oneRow] at hm
  obtain rfl := List.mem_singleton.1 hm
  have hh : typeHandle Tryd.prog 25 = .pointer (some ⟨7, 25, none⟩) := by kernel_rfl
  rw [hh] at e5
  have := World.var?_cell et e5 0
  unfold Handle
  simpa using this
theorem bulk_bound {H : Type} {l : List (DataW H)} (hk : Rows.uptoSmall H l = true) : Rows.uptoBulkAll l ≤ 1048576 := of_decide_eq_true hk
/-- what a law's walk takes of the world -/
structure LaidOk (W : World) : Prop where
  pow : Glob W
  tabs : Tabs W
  maxl : MaxL W
  hand : Handle W
theorem LaidOk.glob {W : World} (h : LaidOk W) : GlobA W := ⟨h.pow, h.tabs, h.maxl⟩
/-- .. where nothing is asked of errors -/
structure LaidG (W : World) : Prop where
  pow : Glob W
  tabs : Tabs W
  maxl : MaxL W
theorem LaidG.glob {W : World} (h : LaidG W) : GlobA W := ⟨h.pow, h.tabs, h.maxl⟩
end Go.Proofs.YtdnkapfcnapadaaDoor
