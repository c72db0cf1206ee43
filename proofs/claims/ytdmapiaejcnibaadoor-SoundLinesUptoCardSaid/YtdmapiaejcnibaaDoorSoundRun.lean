/-
  Plain: how places are come to, one behind the other. Of no program.
  Plain: the depths of code that is known; what holds at each place. Of no program.
-/
import Derived.Test.YtdmapiaejcnibaaDoorSoundPlain
namespace Go.Proofs.YtdmapiaejcnibaaDoor

/-- a place is come to with so many: what is wrong, the depths, what is to do -/
def reachF (D T : List Int) (j d : Int) : Int × List Int × List Int :=
  if (D.length : Int) ≤ j then (9, D, T) else if D.getD j.toNat 0 = d then (0, D, T) else if 0 ≤ D.getD j.toNat 0 then (9, D, T) else (0, D.set j.toNat d, T ++ [j])
def reachL : List (Int × Int) → List Int → List Int → Int × List Int × List Int
  | [], D, T => (0, D, T)
  | (j, d) :: r, D, T => match reachF D T j d with
    | (e, D', T') => if e ≠ 0 then (e, D', T') else reachL r D' T'
def pastF (x : Ins) (D T : List Int) (i d : Int) : Int × List Int × List Int := match goesF x i d with
  | none => (9, D, T)
  | some L => reachL L D T

/-- what reaching leaves -/
structure Went (c : List Ins) (D T D' T' : List Int) : Prop where
  wst : Wst c D'
  ups : Ups D D'
  unms : unm D' ≤ unm D
  meas : 2 * unm D' + T'.length ≤ 2 * unm D + T.length
  keep : ∀ j ∈ T, j ∈ T'
  todo : ∀ j ∈ T', j ∈ T ∨ (0 ≤ j ∧ j < c.length ∧ 0 ≤ D'.getD j.toNat 0)
  mark : ∀ (i : Nat) (d : Int), 0 ≤ d → D'[i]? = some d → D[i]? = some d ∨ (i : Int) ∈ T'
theorem Went.refl {c : List Ins} {D T : List Int} (h : Wst c D) : Went c D T D T := ⟨h, Ups.refl _, Nat.le_refl _, Nat.le_refl _, fun _ h => h, fun _ h => .inl h, fun _ _ _ h => .inl h⟩
theorem gD_some {l : List Int} {i : Nat} {v : Int} (h : l[i]? = some v) : l.getD i 0 = v := by rw [List.getD_eq_getElem?_getD, h]; rfl
theorem some_gD {l : List Int} {i : Nat} (h : i < l.length) : l[i]? = some (l.getD i 0) := by rw [List.getD_eq_getElem?_getD, List.getElem?_eq_getElem h]; rfl
theorem Went.trans {c : List Ins} {D T D' T' D'' T'' : List Int} (h : Went c D T D' T') (k : Went c D' T' D'' T'') : Went c D T D'' T'' := by
  refine ⟨k.wst, h.ups.trans k.ups, Nat.le_trans k.unms h.unms, Nat.le_trans k.meas h.meas, fun j hj => k.keep j (h.keep j hj), fun j hj => ?_, fun i d h0 hd => ?_⟩
  · rcases k.todo j hj with hj | hj
    · rcases h.todo j hj with hj | ⟨h1, h2, h3⟩
      · exact .inl hj
      · refine .inr ⟨h1, h2, ?_⟩
        have hl : j.toNat < D'.length := by rw [h.wst.len]; omega
        have := k.ups.2 j.toNat _ h3 (some_gD hl)
        rw [gD_some this]; exact h3
    · exact .inr hj
  · rcases k.mark i d h0 hd with hh | hh
    · rcases h.mark i d h0 hh with hh | hh
      · exact .inl hh
      · exact .inr (k.keep _ hh)
    · exact .inr hh
theorem reach_ok {c : List Ins} {D T : List Int} (h : Wst c D) {j d : Int} (hj : 0 ≤ j) (hd : 0 ≤ d) (hr : Rch c j d) (hb : d ≤ (D.length : Int) - unm D) {e : Int} {D' T' : List Int} (hf : reachF D T j d = (e, D', T')) :
    (e = 0 ∧ Went c D T D' T' ∧ D'[j.toNat]? = some d) ∨ (e = 9 ∧ Bad c) := by
  have hjn : ((j.toNat : Nat) : Int) = j := by omega
  unfold reachF at hf
  split at hf
  · rename_i h1
    simp only [Prod.mk.injEq] at hf
    exact .inr ⟨hf.1.symm, .out hr (by rw [← h.len]; exact h1)⟩
  rename_i h1
  have hl : j.toNat < D.length := by omega
  have hs := some_gD hl
  split at hf
  · rename_i h2
    simp only [Prod.mk.injEq] at hf
    obtain ⟨rfl, rfl, rfl⟩ := hf
    exact .inl ⟨rfl, Went.refl h, by rw [hs, h2]⟩
  rename_i h2
  split at hf
  · rename_i h3
    simp only [Prod.mk.injEq] at hf
    have := h.snd _ _ h3 hs
    rw [hjn] at this
    exact .inr ⟨hf.1.symm, .two this hr h2⟩
  rename_i h3
  simp only [Prod.mk.injEq] at hf
  obtain ⟨rfl, rfl, rfl⟩ := hf
  have hm : D[j.toNat]? = some (-1) := by
    rcases h.neg _ _ hs with h4 | h4
    · exact absurd h4 h3
    · rw [hs, h4]
  have hu := unm_set hm hd
  have hW := h.mark hm hd hb (by rw [hjn]; exact hr)
  have hset : (D.set j.toNat d)[j.toNat]? = some d := List.getElem?_set_self hl
  refine .inl ⟨rfl, ⟨hW, ups_set hm, by omega, by simp; omega, fun k hk => by simp [hk], fun k hk => ?_, fun i e h0 hi => ?_⟩, hset⟩
  · rcases List.mem_append.1 hk with hk | hk
    · exact .inl hk
    · have : k = j := by simpa using hk
      subst this
      refine .inr ⟨hj, by rw [← h.len]; omega, ?_⟩
      rw [gD_some hset]; exact hd
  · by_cases hij : j.toNat = i
    · subst hij
      exact .inr (by rw [hjn]; simp)
    · rw [List.getElem?_set_ne hij] at hi
      exact .inl hi
theorem reachL_ok {c : List Ins} : ∀ (L : List (Int × Int)) {D T : List Int}, Wst c D → (∀ j e, (j, e) ∈ L → 0 ≤ j ∧ 0 ≤ e ∧ Rch c j e ∧ e ≤ (D.length : Int) - unm D) → ∀ {e : Int} {D' T' : List Int}, reachL L D T = (e, D', T') →
    (e = 0 ∧ Went c D T D' T' ∧ ∀ j f, (j, f) ∈ L → D'[j.toNat]? = some f) ∨ (e = 9 ∧ Bad c)
  | [], D, T, h, _, e, D', T', hf => by
    simp only [reachL, Prod.mk.injEq] at hf
    obtain ⟨rfl, rfl, rfl⟩ := hf
    exact .inl ⟨rfl, Went.refl h, fun _ _ h => by cases h⟩
  | (j, d) :: r, D, T, h, hL, e, D', T', hf => by
    rw [reachL] at hf
    obtain ⟨a1, a2, a3, a4⟩ := hL j d (by simp)
    cases hr : reachF D T j d with
    | mk e1 q =>
    obtain ⟨D1, T1⟩ := q
    rw [hr] at hf
    simp only at hf
    rcases reach_ok h a1 a2 a3 a4 hr with ⟨rfl, w1, w2⟩ | ⟨rfl, hB⟩
    · rw [if_neg (by simp)] at hf
      have hlen : D1.length = D.length := w1.ups.1
      rcases reachL_ok r w1.wst (fun j e hm => by
        obtain ⟨b1, b2, b3, b4⟩ := hL j e (by simp [hm])
        have := w1.unms
        exact ⟨b1, b2, b3, by rw [hlen]; omega⟩) hf with ⟨rfl, w3, w4⟩ | hB
      · refine .inl ⟨rfl, w1.trans w3, fun k f hm => ?_⟩
        rcases List.mem_cons.1 hm with hm | hm
        · simp only [Prod.mk.injEq] at hm
          obtain ⟨rfl, rfl⟩ := hm
          exact w3.ups.2 _ _ a2 w2
        · exact w4 k f hm
      · exact .inr hB
    · rw [if_pos (by simp)] at hf
      simp only [Prod.mk.injEq] at hf
      exact .inr ⟨hf.1.symm, hB⟩
theorem goes_ok {c : List Ins} {x : Ins} (hp : preF c.length c = 0) {i : Nat} (hx : c[i]? = some x) {d : Int} (hd : 0 ≤ d) {L : List (Int × Int)} (hg : goesF x i d = some L) : ∀ j e, (j, e) ∈ L → 0 ≤ j ∧ 0 ≤ e ∧ e ≤ d + 1 := by
  obtain ⟨hf, hto⟩ := preF_zero hp x (List.mem_of_getElem? hx)
  obtain ⟨t1, t2⟩ := takes_nonneg hf
  unfold goesF at hg
  split at hg
  · cases hg
  rename_i h1
  have h1' : takesF x ≤ d := by
    rcases Int.lt_or_le d (takesF x) with h | h
    · exact absurd (.inl h) h1
    · exact h
  split at hg
  · injection hg with hg; subst hg; intro j e hm; cases hm
  split at hg
  · rename_i h10
    injection hg with hg; subst hg
    have := hto (.inr h10)
    intro j e hm
    simp at hm
    omega
  split at hg
  · rename_i h9
    injection hg with hg; subst hg
    have := hto (.inl h9)
    have ht : takesF x = 1 := by unfold takesF; rw [if_neg (by omega), if_neg (by omega), if_neg (by omega), if_neg (by omega)]
    intro j e hm
    simp at hm
    omega
  · injection hg with hg; subst hg
    intro j e hm
    simp at hm
    omega
theorem past_ok {c : List Ins} (hp : preF c.length c = 0) {D T : List Int} (h : Wst c D) {i : Nat} {d : Int} {x : Ins} (hx : c[i]? = some x) (hd : 0 ≤ d) (hD : D[i]? = some d) {e : Int} {D' T' : List Int} (hf : pastF x D T i d = (e, D', T')) :
    (e = 0 ∧ Went c D T D' T' ∧ Okat c D' i) ∨ (e = 9 ∧ Bad c) := by
  have hr := h.snd i d hd hD
  unfold pastF at hf
  cases hg : goesF x i d with
  | none =>
    rw [hg] at hf
    simp only [Prod.mk.injEq] at hf
    exact .inr ⟨hf.1.symm, .stuck hr hx hg⟩
  | some L =>
    rw [hg] at hf
    simp only at hf
    have hgo := goes_ok hp hx hd hg
    have hbn := h.bnd i d hD
    rcases reachL_ok L h (fun j e hm => by
      obtain ⟨a, b, cc⟩ := hgo j e hm
      exact ⟨a, b, .step hr hx hg hm, by omega⟩) hf with ⟨rfl, w1, w2⟩ | hB
    · refine .inl ⟨rfl, w1, fun d' x' h0 hi hx' => ?_⟩
      rw [hx] at hx'; injection hx' with hx'; subst hx'
      have := w1.ups.2 i d hd hD
      rw [this] at hi; injection hi with hi; subst hi
      exact ⟨L, hg, fun j e hm => ⟨(hgo j e hm).1, (hgo j e hm).2.1, w2 j e hm⟩⟩
    · exact .inr hB
/-- the walk's rounds: what is to do lies on a stack -/
structure Round (c : List Ins) (D T : List Int) : Prop where
  wst : Wst c D
  zero : D[0]? = some 0
  todo : ∀ j ∈ T, 0 ≤ j ∧ j < c.length ∧ 0 ≤ D.getD j.toNat 0
  done : ∀ (i : Nat) (d : Int), 0 ≤ d → D[i]? = some d → (i : Int) ∈ T ∨ Okat c D i
theorem Round.end {c : List Ins} {D : List Int} (h : Round c D []) : DepthsF c D :=
  depths_of h.wst.len h.zero h.wst.neg (fun i d hi => by have := h.wst.bnd i d hi; omega) h.wst.snd fun i d x h0 hi hx => by
    rcases h.done i d h0 hi with hh | hh
    · cases hh
    · exact hh d x h0 hi hx
theorem Round.step {c : List Ins} (hp : preF c.length c = 0) {D T : List Int} {j : Int} (h : Round c D (T ++ [j])) {x : Ins} (hx : c[j.toNat]? = some x) {e : Int} {D' T' : List Int} (hf : pastF x D T j (D.getD j.toNat 0) = (e, D', T')) :
    (e = 0 ∧ Round c D' T' ∧ 2 * unm D' + T'.length < 2 * unm D + (T ++ [j]).length) ∨ (e = 9 ∧ Bad c) := by
  obtain ⟨a1, a2, a3⟩ := h.todo j (by simp)
  have hjn : ((j.toNat : Nat) : Int) = j := by omega
  have hl : j.toNat < D.length := by rw [h.wst.len]; omega
  rw [← hjn] at hf
  simp only [Int.toNat_natCast] at hf
  rcases past_ok hp h.wst hx a3 (some_gD hl) hf with ⟨rfl, w, ok⟩ | hB
  · refine .inl ⟨rfl, ⟨w.wst, w.ups.2 0 0 (by omega) h.zero, fun k hk => ?_, fun i d h0 hi => ?_⟩, by have := w.meas; simp; omega⟩
    · rcases w.todo k hk with hk | hk
      · obtain ⟨b1, b2, b3⟩ := h.todo k (by simp [hk])
        have hkl : k.toNat < D.length := by rw [h.wst.len]; omega
        refine ⟨b1, b2, ?_⟩
        rw [gD_some (w.ups.2 _ _ b3 (some_gD hkl))]; exact b3
      · exact hk
    · rcases w.mark i d h0 hi with hi' | hi'
      · rcases h.done i d h0 hi' with hm | hm
        · rcases List.mem_append.1 hm with hm | hm
          · exact .inl (w.keep _ hm)
          · have : (i : Int) = j := by simpa using hm
            have hij : j.toNat = i := by omega
            subst hij
            exact .inr ok
        · refine .inr (hm.ups w.ups fun d' hd' => ?_)
          rw [hi'] at hd'; injection hd' with hd'; subst hd'; exact h0
      · exact .inl hi'
  · exact .inr hB
/-- how it begins -/
theorem round_start {c : List Ins} (h : c ≠ []) : Round c ((List.replicate c.length (-1)).set 0 0) [0] := by
  have hl : 0 < c.length := List.length_pos_iff.2 h
  have h0 : (List.replicate c.length (-1 : Int))[0]? = some (-1) := by rw [List.getElem?_replicate, if_pos hl]
  have hw : Wst c (List.replicate c.length (-1)) := by
    have hu : unm (List.replicate c.length (-1)) = c.length := by unfold unm; simp
    refine ⟨by simp, fun i d hi => ?_, fun i d hi => ?_, fun i d h0 hi => ?_⟩
    all_goals
      rw [List.getElem?_replicate] at hi
      split at hi
      · simp at hi
        first | exact .inr hi.symm | (rw [hu]; simp; omega) | omega
      · cases hi
  have hu : unm (List.replicate c.length (-1)) = c.length := by unfold unm; simp
  have hm := hw.mark (d := 0) h0 (by omega) (by rw [hu]; simp) .start
  have hz : ((List.replicate c.length (-1 : Int)).set 0 0)[0]? = some 0 := List.getElem?_set_self (by simpa using hl)
  refine ⟨hm, hz, fun j hj => ?_, fun i d hd hi => ?_⟩
  · have : j = 0 := by simpa using hj
    subst this
    refine ⟨by omega, by omega, ?_⟩
    rw [show ((0 : Int).toNat) = 0 from rfl, gD_some hz]; omega
  · cases i with
    | zero => exact .inl (by simp)
    | succ i =>
      rw [List.getElem?_set_ne (by omega), List.getElem?_replicate] at hi
      split at hi
      · simp at hi; omega
      · cases hi

theorem reachF_len {D T : List Int} {j d x : Int} {D' T' : List Int} (h : reachF D T j d = (x, D', T')) : D'.length = D.length ∧ T'.length ≤ T.length + 1 := by
  unfold reachF at h
  split at h
  · simp only [Prod.mk.injEq] at h; obtain ⟨_, rfl, rfl⟩ := h; simp
  split at h
  · simp only [Prod.mk.injEq] at h; obtain ⟨_, rfl, rfl⟩ := h; simp
  split at h
  · simp only [Prod.mk.injEq] at h; obtain ⟨_, rfl, rfl⟩ := h; simp
  · simp only [Prod.mk.injEq] at h; obtain ⟨_, rfl, rfl⟩ := h; simp
theorem reachL_one (D T : List Int) (j d : Int) : reachL [(j, d)] D T = reachF D T j d := by
  rw [reachL]
  generalize reachF D T j d = q
  obtain ⟨e, D', T'⟩ := q
  simp only
  by_cases h : e = 0
  · subst h; rfl
  · rw [if_pos h]
theorem reachL_two {D T : List Int} {j d j' d' e : Int} {D1 T1 : List Int} (h : reachF D T j d = (e, D1, T1)) : reachL [(j, d), (j', d')] D T = if e ≠ 0 then (e, D1, T1) else reachF D1 T1 j' d' := by
  rw [reachL, h]
  simp only
  rw [reachL_one]
end Go.Proofs.YtdmapiaejcnibaaDoor

namespace Go.Proofs.YtdmapiaejcnibaaDoor

/-- the walk's rounds, done -/
def runF (c : List Ins) : Nat → List Int → List Int → Option (List Int)
  | 0, _, _ => none
  | n + 1, D, T => match T.reverse with
    | [] => some D
    | j :: r => match c[j.toNat]? with
      | none => none
      | some x => match pastF x D r.reverse j (D.getD j.toNat 0) with
        | (e, D', T') => if e ≠ 0 then none else runF c n D' T'
theorem runF_ok {c : List Ins} (hp : preF c.length c = 0) : ∀ (n : Nat) {D T D' : List Int}, Round c D T → runF c n D T = some D' → DepthsF c D'
  | 0, D, T, D', h, hr => by cases hr
  | n + 1, D, T, D', h, hr => by
    rw [runF] at hr
    cases ht : T.reverse with
    | nil =>
      rw [ht] at hr
      have : T = [] := by simpa using ht
      subst this
      simp only [Option.some.injEq] at hr
      subst hr
      exact h.end
    | cons j r =>
      rw [ht] at hr
      simp only at hr
      have hT : T = r.reverse ++ [j] := by
        have := congrArg List.reverse ht
        simpa using this
      subst hT
      cases hx : c[j.toNat]? with
      | none => rw [hx] at hr; cases hr
      | some x =>
        rw [hx] at hr
        simp only at hr
        obtain ⟨e, D1, T1, hq⟩ : ∃ e D1 T1, pastF x D r.reverse j (D.getD j.toNat 0) = (e, D1, T1) := ⟨_, _, _, rfl⟩
        rw [hq] at hr
        simp only at hr
        rcases h.step hp hx hq with ⟨rfl, h2, _⟩ | ⟨rfl, _⟩
        · rw [if_neg (by simp)] at hr
          exact runF_ok hp n h2 hr
        · rw [if_pos (by simp)] at hr
          cases hr
theorem depths_run {c : List Ins} (n : Nat) {D : List Int} (hl : ¬ 2000 < c.length) (hp : preF c.length c = 0) (hne : c ≠ []) (hr : runF c n ((List.replicate c.length (-1)).set 0 0) [0] = some D) : DepthsA c 0 D := by
  unfold DepthsA
  rw [if_neg hl, if_neg (fun h => h hp)]
  exact .inr ⟨rfl, runF_ok hp n (round_start hne) hr⟩
/-- what holds at a place -/
structure RuleAt (c : List Ins) (D : List Int) (i : Nat) (x : Ins) (d : Int) : Prop where
  takes : takesF x ≤ d
  ret : x.op = 11 → d = 1
  on : x.op ≠ 11 → i + 1 < c.length ∧ D.getD (i + 1) 0 = d - takesF x + laysF x
  call : x.op = 10 → 0 ≤ x.to ∧ x.to < c.length ∧ D.getD x.to.toNat 0 = 0
  test : x.op = 9 → 0 ≤ x.to ∧ x.to < c.length ∧ D.getD x.to.toNat 0 = d - 1
theorem DepthsF.at {c : List Ins} {D : List Int} (h : DepthsF c D) (hp : preF c.length c = 0) {i : Nat} {x : Ins} {d : Int} (hx : c[i]? = some x) (hD : D[i]? = some d) (hd : 0 ≤ d) : RuleAt c D i x d := by
  have hr := (h.iff i d hd).1 hD
  obtain ⟨hfx, hto⟩ := preF_zero hp x (List.mem_of_getElem? hx)
  cases hg : goesF x i d with
  | none => exact absurd (.stuck hr hx hg) h.good
  | some L =>
    have hgo := goes_ok hp hx hd hg
    have key : ∀ j e, (j, e) ∈ L → 0 ≤ j ∧ j < c.length ∧ D.getD j.toNat 0 = e := fun j e hm => by
      obtain ⟨a, b, _⟩ := hgo j e hm
      have hrj : Rch c j e := .step hr hx hg hm
      have hlt : j < c.length := by
        rcases Int.lt_or_le j c.length with h' | h'
        · exact h'
        · exact absurd (.out hrj h') h.good
      refine ⟨a, hlt, ?_⟩
      have hjn : ((j.toNat : Nat) : Int) = j := by omega
      have := (h.iff j.toNat e b).2 (by rw [hjn]; exact hrj)
      exact gD_some this
    unfold goesF at hg
    split at hg
    · cases hg
    rename_i h1
    have h1' : takesF x ≤ d := by
      rcases Int.lt_or_le d (takesF x) with h' | h'
      · exact absurd (.inl h') h1
      · exact h'
    have h2 : x.op = 11 → d = 1 := fun ho => by
      rcases Int.lt_trichotomy d 1 with h' | h' | h'
      · exact absurd (.inr ⟨ho, by omega⟩) h1
      · exact h'
      · exact absurd (.inr ⟨ho, by omega⟩) h1
    have hly : laysF x = if x.op = 9 ∨ x.op = 11 then 0 else 1 := rfl
    split at hg
    · rename_i h11
      exact ⟨h1', h2, fun h => absurd h11 h, fun h => by omega, fun h => by omega⟩
    split at hg
    · rename_i h11 h10
      injection hg with hg; subst hg
      obtain ⟨a1, a2, a3⟩ := key _ _ (by simp : (x.to, (0 : Int)) ∈ _)
      obtain ⟨b1, b2, b3⟩ := key ((i : Int) + 1) (d - takesF x + 1) (by simp)
      rw [if_neg (by omega)] at hly
      exact ⟨h1', h2, fun _ => ⟨by omega, by rw [hly]; exact b3⟩, fun _ => ⟨a1, a2, a3⟩, fun h => by omega⟩
    split at hg
    · rename_i h11 h10 h9
      injection hg with hg; subst hg
      obtain ⟨a1, a2, a3⟩ := key _ _ (by simp : (x.to, d - 1) ∈ _)
      obtain ⟨b1, b2, b3⟩ := key ((i : Int) + 1) (d - 1) (by simp)
      rw [if_pos (.inl h9)] at hly
      have ht : takesF x = 1 := by unfold takesF; rw [if_neg (by omega), if_neg (by omega), if_neg (by omega), if_neg (by omega)]
      have b3' : D.getD (i + 1) 0 = d - takesF x + laysF x := by
        rw [hly, ht, show d - 1 + 0 = d - 1 by omega]; exact b3
      exact ⟨h1', h2, fun _ => ⟨by omega, b3'⟩, fun h => by omega, fun _ => ⟨a1, a2, a3⟩⟩
    · rename_i h11 h10 h9
      injection hg with hg; subst hg
      obtain ⟨b1, b2, b3⟩ := key ((i : Int) + 1) (d - takesF x + 1) (by simp)
      rw [if_neg (by omega)] at hly
      exact ⟨h1', h2, fun _ => ⟨by omega, by rw [hly]; exact b3⟩, fun h => absurd h h10, fun h => absurd h h9⟩
end Go.Proofs.YtdmapiaejcnibaaDoor
