/-
  Plain: the depths of code that is known; what holds at each place. Of no program.
-/
import Derived.Test.YthmkoigaaidpjaaDoorSoundStep
namespace Go.Proofs.YthmkoigaaidpjaaDoor

/-- the walk's rounds, done -/
def runF (c : List Ins) : Nat → List Int → List Int → Option (List Int)
  | 0, _, _ => none
  | n + 1, D, T => match T.reverse with
    | [] => some D
    | j :: r => match c[j.toNat]? with
      | none => none
      | some x => match pastF x D r.reverse j (D.getD j.toNat 0) with
        | (e, D', T') => if e ≠ 0 then none else runF c n D' T'
theorem runF_ok {c : List Ins} (hp : preF c.length c = 0) : ∀ (n : Nat) {D T D' : List Int}, Round c D T → runF c n D T = some D' → DepthsF c D'
  | 0, D, T, D', h, hr => by cases hr
  | n + 1, D, T, D', h, hr => by
    rw [runF] at hr
    cases ht : T.reverse with
    | nil =>
      rw [ht] at hr
      have : T = [] := by simpa using ht
      subst this
      simp only [Option.some.injEq] at hr
      subst hr
      exact h.end
    | cons j r =>
      rw [ht] at hr
      simp only at hr
      have hT : T = r.reverse ++ [j] := by
        have := congrArg List.reverse ht
        simpa using this
      subst hT
      cases hx : c[j.toNat]? with
      | none => rw [hx] at hr; cases hr
      | some x =>
        rw [hx] at hr
        simp only at hr
        obtain ⟨e, D1, T1, hq⟩ : ∃ e D1 T1, pastF x D r.reverse j (D.getD j.toNat 0) = (e, D1, T1) := ⟨_, _, _, rfl⟩
        rw [hq] at hr
        simp only at hr
        rcases h.step hp hx hq with ⟨rfl, h2, _⟩ | ⟨rfl, _⟩
        · rw [if_neg (by simp)] at hr
          exact runF_ok hp n h2 hr
        · rw [if_pos (by simp)] at hr
          cases hr
theorem depths_run {c : List Ins} (n : Nat) {D : List Int} (hl : ¬ 2000 < c.length) (hp : preF c.length c = 0) (hne : c ≠ []) (hr : runF c n ((List.replicate c.length (-1)).set 0 0) [0] = some D) : DepthsA c 0 D := by
  unfold DepthsA
  rw [if_neg hl, if_neg (fun h => h hp)]
  exact .inr ⟨rfl, runF_ok hp n (round_start hne) hr⟩
/-- what holds at a place -/
structure RuleAt (c : List Ins) (D : List Int) (i : Nat) (x : Ins) (d : Int) : Prop where
  takes : takesF x ≤ d
  ret : x.op = 11 → d = 1
  on : x.op ≠ 11 → i + 1 < c.length ∧ D.getD (i + 1) 0 = d - takesF x + laysF x
  call : x.op = 10 → 0 ≤ x.to ∧ x.to < c.length ∧ D.getD x.to.toNat 0 = 0
  test : x.op = 9 → 0 ≤ x.to ∧ x.to < c.length ∧ D.getD x.to.toNat 0 = d - 1
theorem DepthsF.at {c : List Ins} {D : List Int} (h : DepthsF c D) (hp : preF c.length c = 0) {i : Nat} {x : Ins} {d : Int} (hx : c[i]? = some x) (hD : D[i]? = some d) (hd : 0 ≤ d) : RuleAt c D i x d := by
  have hr := (h.iff i d hd).1 hD
  obtain ⟨hfx, hto⟩ := preF_zero hp x (List.mem_of_getElem? hx)
  cases hg : goesF x i d with
  | none => exact absurd (.stuck hr hx hg) h.good
  | some L =>
    have hgo := goes_ok hp hx hd hg
    have key : ∀ j e, (j, e) ∈ L → 0 ≤ j ∧ j < c.length ∧ D.getD j.toNat 0 = e := fun j e hm => by
      obtain ⟨a, b, _⟩ := hgo j e hm
      have hrj : Rch c j e := .step hr hx hg hm
      have hlt : j < c.length := by
        rcases Int.lt_or_le j c.length with h' | h'
        · exact h'
        · exact absurd (.out hrj h') h.good
      refine ⟨a, hlt, ?_⟩
      have hjn : ((j.toNat : Nat) : Int) = j := by omega
      have := (h.iff j.toNat e b).2 (by rw [hjn]; exact hrj)
      exact gD_some this
    unfold goesF at hg
    split at hg
    · cases hg
    rename_i h1
    have h1' : takesF x ≤ d := by
      rcases Int.lt_or_le d (takesF x) with h' | h'
      · exact absurd (.inl h') h1
      · exact h'
    have h2 : x.op = 11 → d = 1 := fun ho => by
      rcases Int.lt_trichotomy d 1 with h' | h' | h'
      · exact absurd (.inr ⟨ho, by omega⟩) h1
      · exact h'
      · exact absurd (.inr ⟨ho, by omega⟩) h1
    have hly : laysF x = if x.op = 9 ∨ x.op = 11 then 0 else 1 := rfl
    split at hg
    · rename_i h11
      exact ⟨h1', h2, fun h => absurd h11 h, fun h => by omega, fun h => by omega⟩
    split at hg
    · rename_i h11 h10
      injection hg with hg; subst hg
      obtain ⟨a1, a2, a3⟩ := key _ _ (by simp : (x.to, (0 : Int)) ∈ _)
      obtain ⟨b1, b2, b3⟩ := key ((i : Int) + 1) (d - takesF x + 1) (by simp)
      rw [if_neg (by omega)] at hly
      exact ⟨h1', h2, fun _ => ⟨by omega, by rw [hly]; exact b3⟩, fun _ => ⟨a1, a2, a3⟩, fun h => by omega⟩
    split at hg
    · rename_i h11 h10 h9
      injection hg with hg; subst hg
      obtain ⟨a1, a2, a3⟩ := key _ _ (by simp : (x.to, d - 1) ∈ _)
      obtain ⟨b1, b2, b3⟩ := key ((i : Int) + 1) (d - 1) (by simp)
      rw [if_pos (.inl h9)] at hly
      have ht : takesF x = 1 := by unfold takesF; rw [if_neg (by omega), if_neg (by omega), if_neg (by omega), if_neg (by omega)]
      have b3' : D.getD (i + 1) 0 = d - takesF x + laysF x := by
        rw [hly, ht, show d - 1 + 0 = d - 1 by omega]; exact b3
      exact ⟨h1', h2, fun _ => ⟨by omega, b3'⟩, fun h => by omega, fun _ => ⟨a1, a2, a3⟩⟩
    · rename_i h11 h10 h9
      injection hg with hg; subst hg
      obtain ⟨b1, b2, b3⟩ := key ((i : Int) + 1) (d - takesF x + 1) (by simp)
      rw [if_neg (by omega)] at hly
      exact ⟨h1', h2, fun _ => ⟨by omega, by rw [hly]; exact b3⟩, fun h => absurd h h10, fun h => absurd h h9⟩
end Go.Proofs.YthmkoigaaidpjaaDoor
