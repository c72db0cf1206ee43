/-
  Whatever array ShowTexts is called with, it returns true, and the array reads behind the call as it read before; its row and its card.
-/
import Derived.Test.YtbgjcadjkkddhaaDoorCards
import Derived.Test.YtbgjcadjkkddhaaDoorTie
import Derived.Test.YtbgjcadjkkddhaaDoorShowTexts
import Derived.ProofKit
import Derived.OpenShut
import Derived.Test.YtbgjcadjkkddhaaDoorLeave
import Derived.LaidHandle
import Derived.Lib.LaidTab
import Derived.Lib.SmallJoins
import Derived.LaidMore
import Derived.LaidOnce
import Derived.LaidSub
namespace Go.Proofs.YtbgjcadjkkddhaaDoor.fnShowTexts
open Go.ChangeShapes Go.WideShapes Go.ChangeAt Go.RowKit Go.Joins Go.Proofs.YtbgjcadjkkddhaaDoor

theorem own : ownKnob Tryd.prog.godebug = none := by kernel_rfl
theorem laidOut : laidOutB Tryd.prog = true := by kernel_rfl
theorem tabType : (Tryd.prog.globals[2]?).map (·.type) = some 187 := by kernel_rfl
theorem cellsTab : Tryd.prog.cellsOf 187 = 20 := by kernel_rfl
theorem cellsU64 : Tryd.prog.cellsOf 68 = 1 := by kernel_rfl
theorem cellsInt : Tryd.prog.cellsOf 3 = 1 := by kernel_rfl
theorem cellsArr : Tryd.prog.cellsOf 25 = 3 := by kernel_rfl

def laidData : List (String × DataW Unit) := [("math/bits.deBruijn32tab", Rows.laid_math_bits_deBruijn32tab), ("math/bits.deBruijn64tab", Rows.laid_math_bits_deBruijn64tab), ("internal/strconv.uint64pow10", Rows.laid_internal_strconv_uint64pow10)]
theorem et : Tryd.prog.globalNamed "errors.errorType" = some 0 := by kernel_rfl
theorem rt : (Tryd.prog.cutTypes.find? (·.1 == "internal/reflectlite.rtype")).map (·.2) = some 159 := by kernel_rfl
theorem oneRow : ((List.range Tryd.prog.types.size).filter fun t => Tryd.prog.rowNamed t [101, 114, 114, 111, 114]) = [27] := by kernel_rfl
/-- what the row's list gives: the handle -/
theorem handle {W : World} (h : laidMetH Tryd.prog Rows.showTextsRow.laid W) : Handle W := by
  have h' : laidMet Tryd.prog laidData W ∧ handlesMet Tryd.prog [("errors.errorType", Rows.laid_errors_errorType)] W := h
  obtain ⟨name, u, ty, e1, e2, e3, e4, e5⟩ := h'.2 _ (List.mem_singleton.2 rfl)
  have en : name = [101, 114, 114, 111, 114] := (Option.some.inj e1).symm
  subst en
  obtain rfl := Option.some.inj (rt.symm.trans e2)
  have hm : ty ∈ (List.range Tryd.prog.types.size).filter fun t => Tryd.prog.rowNamed t [101, 114, 114, 111, 114] := List.mem_filter.2 ⟨List.mem_range.2 e3, e4⟩
  rw [oneRow] at hm
  obtain rfl := List.mem_singleton.1 hm
  have hh : typeHandle Tryd.prog 27 = .pointer (some ⟨5, 27, none⟩) := by kernel_rfl
  rw [hh] at e5
  have := World.var?_cell et e5 0
  unfold Handle
  simpa using this
/-- what the row's list gives: the table -/
theorem glob {W : World} (h : laidMetH Tryd.prog Rows.showTextsRow.laid W) : Glob W := by
  have h' : laidMet Tryd.prog laidData W ∧ handlesMet Tryd.prog [("errors.errorType", Rows.laid_errors_errorType)] W := h
  have h1 := h'.1
  have h2 := h1.filter (fun x => x.1 == "internal/strconv.uint64pow10")
  exact Lib.tabIs_of_head (rest := []) gPow tabType Tryd.underlying187 Tryd.underlying68 cellsU64 cellsTab h2

/-- a slice of ints that came in -/
theorem open_ints_at {H : Type} {enc : TypeId × Value → H} {W : World} {fuel : Nat} {v : Value} {x : DataW H × List MemPlace} (h : DataW.trod enc Tryd.prog W 0 (fun _ => true) true fuel 23 [v] = some x) :
    ∃ p cap xs, v = .slice p (xs : List Int).length cap ∧ IntsAt W p cap xs := by
  rcases open_ints Tryd.underlying23 Tryd.underlying3 cellsInt h with ⟨hcs, _⟩ | ⟨a, l, c, zs, hcs, _, hl, hm, hz, _, hcell, hwz⟩
  · simp at hcs
    subst hcs
    exact ⟨none, 0, [], rfl, IntsAt.nil W⟩
  · simp at hcs
    subst hcs
    have hz' : zs.length = c := by simpa using hz
    have ht : (zs.take l).length = l := by simp; omega
    refine ⟨some a, c, zs.take l, by rw [ht], ⟨by rw [ht]; exact hl, hm, fun _ => rfl, fun i x hx => ?_, fun x hx => ?_⟩⟩
    · have hi : i < l := by have := (List.getElem?_eq_some_iff.1 hx).1; omega
      have h1 := hcell i (by omega)
      rw [List.getElem?_take, if_pos hi] at hx
      rw [List.getD_eq_getElem?_getD, hx] at h1
      exact h1
    · have := hwz x (List.mem_of_mem_take hx)
      have := bounds_i64 this
      exact this

set_option maxRecDepth 100000 in
/-- what the walk gives, for every array and every world that holds the table -/
theorem contract (H : Type) (enc : TypeId × Value → H) (W : World) (base : Nat) (args : Array Value) (ds gs : List (DataW H)) (before : List MemPlace)
    (hval : ∀ (j : Nat) t v, Tryd.f6.params[j]? = some t → args[j]? = some v → Value.okWide Tryd.prog W .any base t v)
    (hW : DataW.Whole enc Tryd.prog Tryd.f6.params.toList Rows.showTextsSpec.vars false W args.toList ds gs before) (hL : laidMetH Tryd.prog Rows.showTextsRow.laid W) :
    Calls Tryd.prog 6 args W fun e W' => ∃ v, e = .returned v ∧ Rows.showTextsSpec.post enc Tryd.prog Tryd.f6 false true false false W args v W' := by
  have hW' := hW
  obtain ⟨p, q, hA0, hV, rfl, hfz, hnd⟩ := hW
  have hA : DataW.TrodAll enc Tryd.prog W 0 (fun _ => true) true Tryd.f6.params.toList args.toList ds p := hA0
  rw [Tryd.params6] at hA hval
  obtain ⟨v0, vs0, d0, ds0, p0, q0, hargs, rfl, rfl, h0, r0⟩ := trodAll_cons hA
  obtain ⟨rfl, rfl, rfl⟩ := trodAll_nil r0
  obtain rfl : args = #[v0] := by cases args; simp_all
  obtain ⟨rfl, rfl⟩ := trodVars_none hV
  have k0 := h0
  have lt0 : ∀ x ∈ p0, x.block < W.heap.size := by obtain ⟨m, hm⟩ := k0; exact DataW.trod_lt m _ _ _ hm
  obtain ⟨c0, c1, c2, y0, y1, y2, m, rfl, _, _, hy0, hy1, hy2⟩ := open_agg3 Tryd.underlying25 (by kernel_rfl) cellsArr (hval 0 25 _ rfl rfl) h0
  obtain ⟨ch, e0, _⟩ := DataW.trod_bool Tryd.underlying4 hy0
  simp at e0
  subst e0
  obtain ⟨sp, sc, s, rfl, hs⟩ := open_ints_at hy1
  obtain ⟨dp, dc, d, rfl, hd⟩ := open_ints_at hy2
  clear hA0
  refine (law_ShowTexts ch sp dp sc dc s d W hs hd (glob hL) (handle hL)).mono fun e W' ⟨he, bel⟩ => ?_
  subst he
  exact ⟨_, rfl, _, _, _, [], _, [], hW', trodAll_mk1 (shut_bool Tryd.underlying4 _), (trodAll_cons_mk (Below.trod laidOut (by kernel_rfl) (of_decide_eq_true (by kernel_rfl)) k0 bel lt0) trodAll_mk0), rfl, bel.frame _, fun h => by cases h⟩

/-- a world for the witness: the door's -/
noncomputable def laidWorld (os : Os) : World := World.doorLaid Tryd.prog 31 os
set_option maxRecDepth 100000 in
theorem laid_met (os : Os) : laidMetH Tryd.prog Rows.showTextsRow.laid ((laidWorld os).forCall (fun _ _ => 0) ⟨#[], #[.agg #[.bool false, .slice none 0 0, .slice none 0 0]], []⟩).memory :=
  laidMetH_of_parts (laidMet_of_run' 8 (by kernel_rfl) (by kernel_rfl)) (by kernel_rfl)
set_option maxRecDepth 100000 in
theorem reads (os : Os) {H : Type} (enc : TypeId × Value → H) : ∃ places, DataW.whole enc Tryd.prog ((laidWorld os).forCall (fun _ _ => 0) ⟨#[], #[.agg #[.bool false, .slice none 0 0, .slice none 0 0]], []⟩).memory Tryd.f6.params.toList Rows.showTextsSpec.vars false #[Value.agg #[.bool false, .slice none 0 0, .slice none 0 0]].toList 8 = some ([.agg [.lit (.bool false), .nil, .nil]], [], places) :=
  ⟨[], by kernel_rfl⟩

set_option maxRecDepth 100000 in
theorem lifted (os : Os) (started : os.Started) (H : Type) (enc : TypeId × Value → H) (F : Stop.Interp) :
    ReturnsInLeavingWide {} Tryd.checked os 6 .any ((OpenSpec.ofChange Rows.showTextsSpec).preRow enc Tryd.prog Tryd.f6 Rows.showTextsRow.domain false Rows.showTextsRow.laid) (((OpenSpec.ofChange Rows.showTextsSpec).at F).post enc Tryd.prog Tryd.f6 false true false false) := by
  obtain ⟨places, hx⟩ := reads os enc
  refine leavingWide_of_row (C := Tryd.checked) (s := OpenSpec.ofChange Rows.showTextsSpec) own started (by kernel_rfl) Tryd.func6
    (witness_row_at (enc := enc) (C := Tryd.checked) false (laidWorld os) #[.agg #[.bool false, .slice none 0 0, .slice none 0 0]] rfl (by kernel_rfl) (by kernel_rfl) (by kernel_rfl)
      (OpenSpec.preRow_of_cond 8 hx (by kernel_rfl) (fun k hk => by cases hk) (by kernel_rfl) (laid_met os))) ?_
  intro W base args ds gs before hval hW _ hL
  exact contract H enc W base args ds gs before hval hW hL

theorem said : Rows.ShowTextsSaid :=
  OpenClaim.holds_of_wide_leaving 6 Tryd.f6 rfl rfl rfl rfl rfl rfl rfl ⟨rfl, rfl, rfl, rfl, rfl⟩ rfl rfl rfl rfl rfl (by kernel_rfl) Tryd.func6 (by kernel_rfl)
    (of_decide_eq_true (by kernel_rfl)) (by unfold Func.isWrapper; first | (rw [if_pos (by decide +kernel)]; kernel_rfl) | (rw [if_neg (by decide +kernel)]; exact ⟨rfl, rfl⟩))
    (fun os started H enc _ => by rw [OpenClaim.pre_eq_preRow]; exact lifted os started H enc (fun _ _ _ => 0))

theorem plain (f : FuncId) (fn : Func) (hf : Tryd.pinned.checked.prog.funcNamed "ravelin/ravelinlaw7.ShowTexts" = some f) (hfn : Tryd.pinned.checked.prog.funcs[f]? = some fn) :
    true = Tryd.pinned.checked.prog.looks [] ∧ ∀ (j : Nat) t, fn.params[j]? = some t → Tryd.pinned.checked.prog.wantsStandIn t = false := by
  obtain rfl : f = 6 := Option.some.inj ((show Tryd.prog.funcNamed "ravelin/ravelinlaw7.ShowTexts" = some 6 by kernel_rfl).symm.trans hf) |>.symm
  obtain rfl : fn = Tryd.f6 := (Option.some.inj (Tryd.func6.symm.trans hfn)).symm
  refine ⟨by kernel_rfl, fun j t ht => ?_⟩
  rw [Tryd.params6] at ht
  obtain rfl : t = 25 := by simpa using Array.mem_of_getElem? ht
  exact (show Tryd.prog.wantsStandIn 25 = false by kernel_rfl)

end Go.Proofs.YtbgjcadjkkddhaaDoor.fnShowTexts
namespace Go.Proofs.YtbgjcadjkkddhaaDoor
/-- THE CARD -/
theorem showTexts_card : Rows.ShowTextsCardSaid :=
  holds_tied_goes .later _ _ _ _ fnShowTexts.said (by kernel_rfl) showTexts_row_tie rfl ⟨rfl, rfl⟩ (by kernel_rfl) rfl fnShowTexts.plain (by kernel_rfl)
end Go.Proofs.YtbgjcadjkkddhaaDoor
