/-
  What a law knows of what Parse told.
  An expression in brackets has the tree that it has without them. Of no program.
  Where a word cannot stand no line begins so: with any words behind it, it is told there, too; the words ahead of it can go on. Of no program.
-/
import Derived.Test.YtngeooflfkpikaaGreatDoorZGo
import Derived.Test.YtngeooflfkpikaaGreatDoorZParse8
import Derived.Test.YtngeooflfkpikaaGreatDoorZPar
namespace Go.Proofs.YtngeooflfkpikaaGreatDoor
open Go.RowKit
/-- what a law knows of what Parse told -/
def ParA (L : List Tok) (z : List NodM × Option Addr × Nat) (G : Rd) : Prop := z.1.map NodM.nod = (parseF L).2.2 ∧ Row nodE 7 G z.2.1 z.2.2 z.1 ∧ ∀ x ∈ z.1, NodG G x
def parV (L : List Tok) (z : List NodM × Option Addr × Nat) : Value := .tuple #[.slice z.2.1 z.1.length z.2.2, .int .i64 (parseF L).2.1, errV 24 (parseF L).1]
theorem parse_law (p : Option Addr) (c : Nat) (L : List Tok) (W : World) (hR : Row tokE 5 W.cell? p c L) (hT : ∀ t ∈ L, I64 t.num ∧ I64 t.fn ∧ t.text.length ≤ 4294967280) (hG : GlobA W) :
    Calls Tryz.prog 11 #[.slice p L.length c] W fun e w' => ∃ z : List NodM × Option Addr × Nat, e = .returned (parV L z) ∧ Below W.heap.size W w' ∧ (ParA L z w'.cell? ∧ Rd.le W.cell? w'.cell?) :=
  (tree_Parse p c L W hR hT hG).mono fun _ _ ⟨ns, q, c', h1, h2, h3, h4, hb⟩ => ⟨(ns, q, c'), h4, hb, ⟨h1, h2, h3⟩, Rd.le_below hb⟩
end Go.Proofs.YtngeooflfkpikaaGreatDoor
namespace Go.Proofs.YtngeooflfkpikaaGreatDoor
def leftT : Tok := ⟨5, 0, 0, [], 0⟩
def rightT : Tok := ⟨6, 0, 0, [], 0⟩
theorem left_spells : (spellF [leftT]).2 = 0 := by decide +kernel
theorem right_spells : (spellF [rightT]).2 = 0 := by decide +kernel
theorem parse_ok {L : List Tok} {ns : List Nod} {at_ : Int} (h : parseF L = (0, at_, ns)) : L.length ≤ 200 ∧ (∀ t ∈ L, (spellF [t]).2 = 0) ∧ ∃ x, linP L = .ok (x, []) ∧ lineN x = ns ∧ at_ = 0 := by
  unfold parseF at h
  split at h
  · simp at h
  rename_i hl
  have hall : L[badI L]? = none → ∀ t ∈ L, (spellF [t]).2 = 0 := fun hn t ht => by
    have h1 : L.length ≤ badI L := by simpa using hn
    have h2 : L.takeWhile (fun t => decide ((spellF [t]).2 = 0)) = L := List.IsPrefix.eq_of_length (List.takeWhile_prefix _) (Nat.le_antisymm (List.takeWhile_prefix _).length_le h1)
    rw [← h2] at ht
    simpa using mem_tw ht
  cases hb : L[badI L]? with
  | some t =>
    exfalso
    rw [hb] at h
    simp only [Prod.mk.injEq] at h
    have hlt : badI L < L.length := (List.getElem?_eq_some_iff.1 hb).1
    have h3 := List.head?_dropWhile_not (fun t => decide ((spellF [t]).2 = 0)) L
    have h4 : L.dropWhile (fun t => decide ((spellF [t]).2 = 0)) = L.drop (badI L) := by
      have h5 : L.takeWhile (fun t => decide ((spellF [t]).2 = 0)) ++ L.dropWhile (fun t => decide ((spellF [t]).2 = 0)) = L := List.takeWhile_append_dropWhile
      have := congrArg (List.drop (badI L)) h5
      unfold badI at this ⊢
      rw [List.drop_left] at this
      exact this
    rw [h4, List.head?_drop, hb] at h3
    simp at h3
    exact h3 h.1
  | none =>
    rw [hb] at h
    simp only at h
    refine ⟨by omega, hall hb, ?_⟩
    cases hx : linP L with
    | error y => rw [hx] at h; simp at h
    | ok z =>
      obtain ⟨x, r⟩ := z
      rw [hx] at h
      simp only at h
      by_cases hr : r = []
      · subst hr
        rw [if_pos rfl] at h
        simp only [Prod.mk.injEq] at h
        exact ⟨x, rfl, h.2.2, h.2.1.symm⟩
      · rw [if_neg hr] at h
        simp at h
theorem parse_of {L : List Tok} {x : Option (List UInt8) × Ex} (hl : L.length ≤ 200) (hs : ∀ t ∈ L, (spellF [t]).2 = 0) (hx : linP L = .ok (x, [])) : parseF L = (0, 0, lineN x) := by
  have hb : badI L = L.length := badI_of (fun j _ t ht => hs t (List.mem_of_getElem? ht)) (Nat.le_refl _) (fun t ht => by simp at ht)
  unfold parseF
  rw [if_neg (by omega), hb, show L[L.length]? = none by simp]
  simp only
  rw [hx]
  simp
theorem brackets {L : List Tok} {ns : List Nod} {at_ : Int} (h : parseF L = (0, at_, ns)) (hl : L.length + 2 ≤ 200) (h9 : ∀ n r, ns = n :: r → n.op ≠ 9) : parseF (leftT :: (L ++ [rightT])) = (0, 0, ns) := by
  obtain ⟨_, hs, x, hx, hns, _⟩ := parse_ok h
  obtain ⟨s, e⟩ := x
  cases s with
  | some s => exact absurd rfl (h9 _ _ hns.symm)
  | none =>
    have hset : ¬ ∃ t u r, L = t :: u :: r ∧ t.kind = 3 ∧ u.kind = 10 := by
      rintro ⟨t, u, r, rfl, h3, h10⟩
      unfold linP at hx
      simp only at hx
      rw [if_pos ⟨h3, h10⟩] at hx
      obtain ⟨a, _, hx⟩ := bind_ok hx
      injection hx with hx
      simp at hx
    rw [linP_plain hset] at hx
    obtain ⟨⟨e', r'⟩, he, hx⟩ := bind_ok hx
    injection hx with hx
    simp only [Prod.mk.injEq, true_and] at hx
    obtain ⟨rfl, rfl⟩ := hx
    have hf : exprE (4 * (L.length + 1) + 5) 0 L = .ok (e', []) := (exP_of (by omega)).trans he
    obtain ⟨l0, hl0, hg⟩ := ((goodF (4 * (L.length + 1) + 5)).ex 0).ok _ _ _ hf
    rw [List.append_nil] at hl0
    subst hl0
    have h1 : exP 0 (L ++ [rightT]) = .ok (e', [rightT]) := by
      rw [← exP_of (f := 4 * (L.length + 1) + 5) (by simp)]
      exact hg _ (.inl (by simp [calmK, kindT, rightT]))
    have h2 : atP 0 (leftT :: (L ++ [rightT])) = .ok (e', []) := by
      rw [atP_eq]
      simp only [kindT, leftT]
      rw [if_neg (by decide), if_neg (by decide), if_neg (by decide), if_neg (by decide)]
      show (Except.bind (needT 5 (leftT :: (L ++ [rightT]))) _) = _
      show ((exP 0 (L ++ [rightT])).bind fun e => (needT 6 e.2).bind fun y => .ok (e.1, y.2)) = _
      rw [h1]; rfl
    have h3 : tmP 0 (leftT :: (L ++ [rightT])) = .ok (e', []) := by
      unfold tmP
      rw [h2]
      show pkP 0 e' [] = _
      rw [pkP_eq, if_neg (by simp [kindT])]
    have h4 : exP 0 (leftT :: (L ++ [rightT])) = .ok (e', []) := by
      rw [exP_eq, if_neg (by simp [startsT, kindT, leftT]), h3]
      simp [Except.bind, startsT, kindT]
    have h5 : linP (leftT :: (L ++ [rightT])) = .ok ((none, e'), []) := by
      rw [linP_plain, h4]
      · rfl
      · rintro ⟨t, u, r, he, h3, _⟩
        injection he with he _
        rw [← he] at h3
        simp [leftT] at h3
    have := parse_of (L := leftT :: (L ++ [rightT])) (by simp; omega) (fun t ht => by
      rcases List.mem_cons.1 ht with rfl | ht
      · exact left_spells
      · rcases List.mem_append.1 ht with ht | ht
        · exact hs t ht
        · obtain rfl : t = rightT := by simpa using ht
          exact right_spells) h5
    rw [this, hns]
end Go.Proofs.YtngeooflfkpikaaGreatDoor
namespace Go.Proofs.YtngeooflfkpikaaGreatDoor
end Go.Proofs.YtngeooflfkpikaaGreatDoor
