/-
  What is printed parses to the nodes; a line that is known. Of no program but for what Print tells.
-/
import Derived.Test.YtanbifmcnkhdhaaDoorBrackets
import Derived.Test.YtanbifmcnkhdhaaDoorPrintPlain
import Derived.Test.YtanbifmcnkhdhaaDoorPrint5
namespace Go.Proofs.YtanbifmcnkhdhaaDoor

theorem print_ok {L : List Nod} {ts : List Tok} (h : printF L = (0, ts)) : ∃ t, treeG L = some t ∧ ts = toksL t ∧ ts.length ≤ 200 := by
  unfold printF at h
  split at h
  · rename_i hF
    cases hG : treeG L with
    | none =>
      exfalso
      unfold treeF at hF
      rw [hG] at hF
      split at hF
      · omega
      · simp at hF
    | some t =>
      rw [hG] at h
      simp only at h
      split at h
      · injection h with h _; exact absurd h (by decide)
      · injection h with _ h
        exact ⟨t, rfl, h.symm, by rw [← h]; omega⟩
  · rename_i hF
    injection h with h _
    exact absurd h hF
theorem print_back {L : List Nod} {ts : List Tok} (h : printF L = (0, ts)) (hn : ∀ n ∈ L, NumsP n) : parseF ts = (0, 0, L) ∧ ∀ u ∈ ts, I64 u.num ∧ I64 u.fn ∧ u.text.length ≤ 4294967280 := by
  obtain ⟨t, h1, rfl, h3⟩ := print_ok h
  obtain ⟨x, h4, h5, h6⟩ := back_line h1 hn
  exact ⟨by rw [parse_of h3 (fun u hu => (h6 u hu).1) h4, h5], fun u hu => (h6 u hu).2⟩
def subN : Nod := ⟨6, 0, 2, 0, 0, [], []⟩
def varN : Nod := ⟨3, 0, 0, 0, 0, [], [97]⟩
theorem fact_print : printF [subN, varN] = (0, [tokG 2, ⟨3, 0, 0, [97], 0⟩]) := by
  have hs : rightN subN = true := by decide +kernel
  have hv : rightN varN = true := by decide +kernel
  have he : exF 0 [subN, varN] = some (.one subN .nil (.leaf varN), []) := exF_iff.2 ⟨⟨⟨hs, rfl, rfl, fun h => (by cases h)⟩, trivial, hv, .inr (.inr (.inl rfl))⟩, rfl⟩
  have hG : treeG [subN, varN] = some (none, .one subN .nil (.leaf varN)) := by
    rw [treeG_cons, if_neg (by rintro ⟨h, _⟩; cases h), he]
  have hF : treeF [subN, varN] = 0 := by
    unfold treeF
    rw [if_neg (by simp), hG]
    rfl
  unfold printF
  rw [if_pos hF, hG]
  rfl
end Go.Proofs.YtanbifmcnkhdhaaDoor
