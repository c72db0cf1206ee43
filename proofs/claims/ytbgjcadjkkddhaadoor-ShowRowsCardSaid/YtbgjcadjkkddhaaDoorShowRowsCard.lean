/-
  Whatever array ShowRows is called with, it returns true, and the array reads behind the call as it read before; its row and its card.
-/
import Derived.Test.YtbgjcadjkkddhaaDoorCards
import Derived.Test.YtbgjcadjkkddhaaDoorTie
import Derived.Test.YtbgjcadjkkddhaaDoorShowRows
import Derived.ProofKit
import Derived.OpenShut
import Derived.Deep.DeepHandedRow
import Derived.Lib.LaidTab
import Derived.Lib.SmallJoins
import Derived.LaidMore
import Derived.LaidOnce
import Derived.LaidSub
namespace Go.Proofs.YtbgjcadjkkddhaaDoor.fnShowRows
open Go.ChangeShapes Go.WideShapes Go.ChangeAt Go.RowKit Go.Joins Go.Proofs.YtbgjcadjkkddhaaDoor

theorem own : ownKnob Tryd.prog.godebug = none := by kernel_rfl
theorem laidOut : laidOutB Tryd.prog = true := by kernel_rfl
theorem tabType : (Tryd.prog.globals[2]?).map (·.type) = some 187 := by kernel_rfl
theorem cellsTab : Tryd.prog.cellsOf 187 = 20 := by kernel_rfl
theorem cellsU64 : Tryd.prog.cellsOf 68 = 1 := by kernel_rfl
theorem cellsInt : Tryd.prog.cellsOf 3 = 1 := by kernel_rfl
theorem cellsArr : Tryd.prog.cellsOf 25 = 3 := by kernel_rfl

/-- what the row's list gives -/
theorem glob {W : World} (h : laidMetH Tryd.prog Rows.showRowsRow.laid W) : Glob W := by
  have h1 : laidMet Tryd.prog Rows.showRowsRow.laid W := h
  have h2 := h1.filter (fun x => x.1 == "internal/strconv.uint64pow10")
  exact Lib.tabIs_of_head (rest := []) gPow tabType Tryd.underlying187 Tryd.underlying68 cellsU64 cellsTab h2

/-- a slice of ints that came in -/
theorem open_ints_at {H : Type} {enc : TypeId × Value → H} {W : World} {fuel : Nat} {v : Value} {x : DataW H × List MemPlace} (h : DataW.trod enc Tryd.prog W 0 (fun _ => true) true fuel 23 [v] = some x) :
    ∃ p cap xs, v = .slice p (xs : List Int).length cap ∧ IntsAt W p cap xs := by
  rcases open_ints Tryd.underlying23 Tryd.underlying3 cellsInt h with ⟨hcs, _⟩ | ⟨a, l, c, zs, hcs, _, hl, hm, hz, _, hcell, hwz⟩
  · simp at hcs
    subst hcs
    exact ⟨none, 0, [], rfl, IntsAt.nil W⟩
  · simp at hcs
    subst hcs
    have hz' : zs.length = c := by simpa using hz
    have ht : (zs.take l).length = l := by simp; omega
    refine ⟨some a, c, zs.take l, by rw [ht], ⟨by rw [ht]; exact hl, hm, fun _ => rfl, fun i x hx => ?_, fun x hx => ?_⟩⟩
    · have hi : i < l := by have := (List.getElem?_eq_some_iff.1 hx).1; omega
      have h1 := hcell i (by omega)
      rw [List.getElem?_take, if_pos hi] at hx
      rw [List.getD_eq_getElem?_getD, hx] at h1
      exact h1
    · have := hwz x (List.mem_of_mem_take hx)
      have := bounds_i64 this
      exact this

set_option maxRecDepth 100000 in
/-- what the walk gives, for every array and every world that holds the table -/
theorem contract (H : Type) (enc : TypeId × Value → H) (W : World) (base : Nat) (args : Array Value) (ds gs : List (DataW H)) (before : List MemPlace)
    (hval : ∀ (j : Nat) t v, Tryd.f5.params[j]? = some t → args[j]? = some v → Value.okWide Tryd.prog W .any base t v)
    (hW : DataW.Whole enc Tryd.prog Tryd.f5.params.toList Rows.showRowsSpec.vars false W args.toList ds gs before) (hL : laidMetH Tryd.prog Rows.showRowsRow.laid W) :
    Calls Tryd.prog 5 args W fun e W' => ∃ v, e = .returned v ∧ Rows.showRowsSpec.post enc Tryd.prog Tryd.f5 false true false false W args v W' := by
  have hW' := hW
  obtain ⟨p, q, hA0, hV, rfl, hfz, hnd⟩ := hW
  have hA : DataW.TrodAll enc Tryd.prog W 0 (fun _ => true) true Tryd.f5.params.toList args.toList ds p := hA0
  rw [Tryd.params5] at hA hval
  obtain ⟨v0, vs0, d0, ds0, p0, q0, hargs, rfl, rfl, h0, r0⟩ := trodAll_cons hA
  obtain ⟨rfl, rfl, rfl⟩ := trodAll_nil r0
  obtain rfl : args = #[v0] := by cases args; simp_all
  obtain ⟨rfl, rfl⟩ := trodVars_none hV
  have k0 := h0
  have lt0 : ∀ x ∈ p0, x.block < W.heap.size := by obtain ⟨m, hm⟩ := k0; exact DataW.trod_lt m _ _ _ hm
  obtain ⟨c0, c1, c2, y0, y1, y2, m, rfl, _, _, hy0, hy1, hy2⟩ := open_agg3 Tryd.underlying25 (by kernel_rfl) cellsArr (hval 0 25 _ rfl rfl) h0
  obtain ⟨ch, e0, _⟩ := DataW.trod_bool Tryd.underlying4 hy0
  simp at e0
  subst e0
  obtain ⟨sp, sc, s, rfl, hs⟩ := open_ints_at hy1
  obtain ⟨dp, dc, d, rfl, hd⟩ := open_ints_at hy2
  clear hA0
  refine (law_ShowRows ch sp dp sc dc s d W hs hd (glob hL)).mono fun e W' ⟨he, bel⟩ => ?_
  subst he
  exact ⟨_, rfl, _, _, _, [], _, [], hW', trodAll_mk1 (shut_bool Tryd.underlying4 _), (trodAll_cons_mk (Below.trod laidOut (by kernel_rfl) (of_decide_eq_true (by kernel_rfl)) k0 bel lt0) trodAll_mk0), rfl, bel.frame _, fun h => by cases h⟩

/-- a world for the witness: the door's -/
noncomputable def laidWorld (os : Os) : World := World.doorLaid Tryd.prog 31 os
set_option maxRecDepth 100000 in
theorem laid_met (os : Os) : laidMet Tryd.prog Rows.showRowsRow.laid ((laidWorld os).forCall (fun _ _ => 0) ⟨#[], #[.agg #[.bool false, .slice none 0 0, .slice none 0 0]], []⟩).memory :=
  laidMet_of_run' 8 (by kernel_rfl) (by kernel_rfl)
set_option maxRecDepth 100000 in
theorem reads (os : Os) {H : Type} (enc : TypeId × Value → H) : ∃ places, DataW.whole enc Tryd.prog ((laidWorld os).forCall (fun _ _ => 0) ⟨#[], #[.agg #[.bool false, .slice none 0 0, .slice none 0 0]], []⟩).memory Tryd.f5.params.toList Rows.showRowsSpec.vars false #[Value.agg #[.bool false, .slice none 0 0, .slice none 0 0]].toList 8 = some ([.agg [.lit (.bool false), .nil, .nil]], [], places) :=
  ⟨[], by kernel_rfl⟩

set_option maxRecDepth 100000 in
theorem lifted (os : Os) (started : os.Started) (H : Type) (enc : TypeId × Value → H) (F : Stop.Interp) :
    ReturnsInHanded {} Tryd.checked os 5 .any ((OpenSpec.ofChange Rows.showRowsSpec).preRow enc Tryd.prog Tryd.f5 Rows.showRowsRow.domain false Rows.showRowsRow.laid) (((OpenSpec.ofChange Rows.showRowsSpec).at F).post enc Tryd.prog Tryd.f5 false true false false) := by
  obtain ⟨places, hx⟩ := reads os enc
  refine returnsInHanded_of_row (C := Tryd.checked) (s := OpenSpec.ofChange Rows.showRowsSpec) own started (by kernel_rfl) Tryd.func5
    (witness_row_at (enc := enc) (C := Tryd.checked) false (laidWorld os) #[.agg #[.bool false, .slice none 0 0, .slice none 0 0]] rfl (by kernel_rfl) (by kernel_rfl) (by kernel_rfl)
      (OpenSpec.preRow_of_cond 8 hx (by kernel_rfl) (fun k hk => by cases hk) (by kernel_rfl) (laid_met os))) ?_
  intro W base args ds gs before hval hW _ _ _ hL _ _
  exact contract H enc W base args ds gs before hval hW hL

theorem said : Rows.ShowRowsSaid :=
  OpenClaim.holds_of_cond 5 Tryd.f5 rfl rfl rfl rfl rfl rfl rfl ⟨rfl, rfl, rfl, rfl, rfl⟩ rfl rfl rfl rfl rfl (by kernel_rfl) Tryd.func5 (by kernel_rfl)
    (of_decide_eq_true (by kernel_rfl)) (by unfold Func.isWrapper; first | (rw [if_pos (by decide +kernel)]; kernel_rfl) | (rw [if_neg (by decide +kernel)]; exact ⟨rfl, rfl⟩))
    (fun os started H enc _ F => by rw [OpenClaim.pre_eq_preRow]; exact lifted os started H enc F)

theorem plain (f : FuncId) (fn : Func) (hf : Tryd.pinned.checked.prog.funcNamed "ravelin/ravelinlaw7.ShowRows" = some f) (hfn : Tryd.pinned.checked.prog.funcs[f]? = some fn) :
    true = Tryd.pinned.checked.prog.looks [] ∧ ∀ (j : Nat) t, fn.params[j]? = some t → Tryd.pinned.checked.prog.wantsStandIn t = false := by
  obtain rfl : f = 5 := Option.some.inj ((show Tryd.prog.funcNamed "ravelin/ravelinlaw7.ShowRows" = some 5 by kernel_rfl).symm.trans hf) |>.symm
  obtain rfl : fn = Tryd.f5 := (Option.some.inj (Tryd.func5.symm.trans hfn)).symm
  refine ⟨by kernel_rfl, fun j t ht => ?_⟩
  rw [Tryd.params5] at ht
  obtain rfl : t = 25 := by simpa using Array.mem_of_getElem? ht
  exact (show Tryd.prog.wantsStandIn 25 = false by kernel_rfl)

end Go.Proofs.YtbgjcadjkkddhaaDoor.fnShowRows
namespace Go.Proofs.YtbgjcadjkkddhaaDoor
/-- THE CARD -/
theorem showRows_card : Rows.ShowRowsCardSaid :=
  Claim7.holds_tied_plain_at .later [] _ _ _ _ fnShowRows.said (fun _ h => by cases h) (by kernel_rfl) (fun _ h => by cases h) showRows_row_tie rfl ⟨rfl, rfl⟩ (by kernel_rfl) rfl fnShowRows.plain (by kernel_rfl)
end Go.Proofs.YtbgjcadjkkddhaaDoor
