/-
  Plain: the reference's rounds: all places again and again, till nothing is new. Of no program.
-/
import Derived.Test.YthmkoigaaidpjaaDoorSoundStep
namespace Go.Proofs.YthmkoigaaidpjaaDoor

theorem Went.same {c : List Ins} {D D' : List Int} (hW : Wst c D) (h : Went c D [] D' []) : D' = D := by
  apply List.ext_getElem?
  intro i
  have hl : D'.length = D.length := h.ups.1
  cases hd : D'[i]? with
  | none =>
    rw [List.getElem?_eq_none_iff] at hd
    rw [List.getElem?_eq_none (by omega)]
  | some d =>
    rcases h.wst.neg i d hd with h0 | rfl
    · rcases h.mark i d h0 hd with hh | hh
      · exact hh.symm
      · cases hh
    · have hi : i < D.length := by rw [← hl]; exact (List.getElem?_eq_some_iff.1 hd).1
      rw [List.getElem?_eq_getElem hi]
      rcases hW.neg i _ (List.getElem?_eq_getElem hi) with h1 | h1
      · have := h.ups.2 i _ h1 (List.getElem?_eq_getElem hi)
        rw [hd] at this
        injection this with this
        omega
      · rw [h1]
/-- a place's way on, in any order -/
theorem ref_ok {c : List Ins} (hp : preF c.length c = 0) {D : List Int} (h : Wst c D) {i : Nat} {d : Int} {x : Ins} (hx : c[i]? = some x) (hd : 0 ≤ d) (hD : D[i]? = some d) {L L' : List (Int × Int)} (hg : goesF x i d = some L) (hL : ∀ q, q ∈ L' ↔ q ∈ L) {e : Int} {D' T' : List Int} (hf : reachL L' D [] = (e, D', T')) :
    (e = 0 ∧ Went c D [] D' T' ∧ Okat c D' i) ∨ (e = 9 ∧ Bad c) := by
  have hr := h.snd i d hd hD
  have hgo := goes_ok hp hx hd hg
  have hbn := h.bnd i d hD
  rcases reachL_ok L' h (fun j e hm => by
    have hm' := (hL _).1 hm
    obtain ⟨a, b, cc⟩ := hgo j e hm'
    exact ⟨a, b, .step hr hx hg hm', by omega⟩) hf with ⟨rfl, w1, w2⟩ | hB
  · refine .inl ⟨rfl, w1, fun d' x' h0 hi hx' => ?_⟩
    rw [hx] at hx'; injection hx' with hx'; subst hx'
    have := w1.ups.2 i d hd hD
    rw [this] at hi; injection hi with hi; subst hi
    exact ⟨L, hg, fun j e hm => ⟨(hgo j e hm).1, (hgo j e hm).2.1, w2 j e ((hL _).2 hm)⟩⟩
  · exact .inr hB
/-- a pass: from Ds on, up to a place; b: is anything new? -/
structure PassF (c : List Ins) (Ds D : List Int) (i : Nat) (b : Bool) : Prop where
  wst : Wst c D
  zero : D[0]? = some 0
  new : b = true → unm D < unm Ds
  old : b = false → D = Ds ∧ ∀ k, k < i → Okat c D k
theorem PassF.start {c : List Ins} {D : List Int} (h : Wst c D) (h0 : D[0]? = some 0) : PassF c D D 0 false := ⟨h, h0, (fun h => by cases h), fun _ => ⟨rfl, fun k hk => by omega⟩⟩
theorem PassF.next {c : List Ins} {Ds D : List Int} {i : Nat} {b : Bool} (h : PassF c Ds D i b) {D' T' : List Int} (w : Went c D [] D' T') (ok : Okat c D' i) : PassF c Ds D' (i + 1) (b || !T'.isEmpty) := by
  have hm := w.meas
  cases hT : T' with
  | nil =>
    subst hT
    have hs := w.same h.wst
    subst hs
    have e : (b || !([] : List Int).isEmpty) = b := by simp
    rw [e]
    refine ⟨h.wst, h.zero, h.new, fun hb => ⟨(h.old hb).1, fun k hk => ?_⟩⟩
    by_cases hki : k = i
    · subst hki; exact ok
    · exact (h.old hb).2 k (by omega)
  | cons t r =>
    rw [hT] at hm
    simp at hm
    have e : (b || !(t :: r).isEmpty) = true := by simp
    rw [e]
    refine ⟨w.wst, w.ups.2 0 0 (by omega) h.zero, fun _ => ?_, fun hb => by cases hb⟩
    cases b with
    | true => have := h.new rfl; omega
    | false => rw [← (h.old rfl).1]; omega
theorem PassF.skip {c : List Ins} {Ds D : List Int} {i : Nat} {b : Bool} (h : PassF c Ds D i b) (ok : Okat c D i) : PassF c Ds D (i + 1) b := by
  refine ⟨h.wst, h.zero, h.new, fun hb => ⟨(h.old hb).1, fun k hk => ?_⟩⟩
  by_cases hki : k = i
  · subst hki; exact ok
  · exact (h.old hb).2 k (by omega)
theorem okat_neg {c : List Ins} {D : List Int} {i : Nat} (h : D.getD i 0 < 0) : Okat c D i := fun d x h0 hi _ => by
  rw [gD_some hi] at h; omega
theorem okat_ret {c : List Ins} {D : List Int} {i : Nat} {x : Ins} (hx : c[i]? = some x) (hg : goesF x i (D.getD i 0) = some []) : Okat c D i := fun d x' h0 hi hx' => by
  rw [hx] at hx'; injection hx' with hx'; subst hx'
  rw [gD_some hi] at hg
  exact ⟨[], hg, fun j e hm => by cases hm⟩
theorem PassF.end {c : List Ins} {Ds D : List Int} (h : PassF c Ds D c.length false) : ∀ k, k < c.length → Okat c D k := (h.old rfl).2
theorem depths_all {c : List Ins} {D : List Int} (h : Wst c D) (h0 : D[0]? = some 0) (hk : ∀ k, k < c.length → Okat c D k) : DepthsF c D :=
  depths_of h.len h0 h.neg (fun i d hi => by have := h.bnd i d hi; omega) h.snd fun i d x hd hi hx => hk i (List.getElem?_eq_some_iff.1 hx).1 d x hd hi hx
/-- one of the reference's steps is reaching -/
theorem reachL_drop {L : List (Int × Int)} {k : Nat} {j e : Int} (h : L[k]? = some (j, e)) (D T : List Int) : reachL (L.drop k) D T = match reachF D T j e with
    | (x, D', T') => if x ≠ 0 then (x, D', T') else reachL (L.drop (k + 1)) D' T' := by
  obtain ⟨hk, hv⟩ := List.getElem?_eq_some_iff.1 h
  rw [List.drop_eq_getElem_cons hk, hv, reachL]
end Go.Proofs.YthmkoigaaidpjaaDoor
