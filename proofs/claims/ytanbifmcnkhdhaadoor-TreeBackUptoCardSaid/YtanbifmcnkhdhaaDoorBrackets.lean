/-
  An expression in brackets has the tree that it has without them. Of no program.
  Where a word cannot stand no line begins so: with any words behind it, it is told there, too; the words ahead of it can go on. Of no program.
-/
import Derived.Test.YtanbifmcnkhdhaaDoorParse8
namespace Go.Proofs.YtanbifmcnkhdhaaDoor

def leftT : Tok := ⟨5, 0, 0, [], 0⟩
def rightT : Tok := ⟨6, 0, 0, [], 0⟩
theorem left_spells : (spellF [leftT]).2 = 0 := by decide +kernel
theorem right_spells : (spellF [rightT]).2 = 0 := by decide +kernel
theorem parse_ok {L : List Tok} {ns : List Nod} {at_ : Int} (h : parseF L = (0, at_, ns)) : L.length ≤ 200 ∧ (∀ t ∈ L, (spellF [t]).2 = 0) ∧ ∃ x, linP L = .ok (x, []) ∧ lineN x = ns ∧ at_ = 0 := by
  unfold parseF at h
  split at h
  · simp at h
  rename_i hl
  have hall : L[badI L]? = none → ∀ t ∈ L, (spellF [t]).2 = 0 := fun hn t ht => by
    have h1 : L.length ≤ badI L := by simpa using hn
    have h2 : L.takeWhile (fun t => decide ((spellF [t]).2 = 0)) = L := List.IsPrefix.eq_of_length (List.takeWhile_prefix _) (Nat.le_antisymm (List.takeWhile_prefix _).length_le h1)
    rw [← h2] at ht
    simpa using mem_tw ht
  cases hb : L[badI L]? with
  | some t =>
    exfalso
    rw [hb] at h
    simp only [Prod.mk.injEq] at h
    have hlt : badI L < L.length := (List.getElem?_eq_some_iff.1 hb).1
    have h3 := List.head?_dropWhile_not (fun t => decide ((spellF [t]).2 = 0)) L
    have h4 : L.dropWhile (fun t => decide ((spellF [t]).2 = 0)) = L.drop (badI L) := by
      have h5 : L.takeWhile (fun t => decide ((spellF [t]).2 = 0)) ++ L.dropWhile (fun t => decide ((spellF [t]).2 = 0)) = L := List.takeWhile_append_dropWhile
      have := congrArg (List.drop (badI L)) h5
      unfold badI at this ⊢
      rw [List.drop_left] at this
      exact this
    rw [h4, List.head?_drop, hb] at h3
    simp at h3
    exact h3 h.1
  | none =>
    rw [hb] at h
    simp only at h
    refine ⟨by omega, hall hb, ?_⟩
    cases hx : linP L with
    | error y => rw [hx] at h; simp at h
    | ok z =>
      obtain ⟨x, r⟩ := z
      rw [hx] at h
      simp only at h
      by_cases hr : r = []
      · subst hr
        rw [if_pos rfl] at h
        simp only [Prod.mk.injEq] at h
        exact ⟨x, rfl, h.2.2, h.2.1.symm⟩
      · rw [if_neg hr] at h
        simp at h
theorem parse_of {L : List Tok} {x : Option (List UInt8) × Ex} (hl : L.length ≤ 200) (hs : ∀ t ∈ L, (spellF [t]).2 = 0) (hx : linP L = .ok (x, [])) : parseF L = (0, 0, lineN x) := by
  have hb : badI L = L.length := badI_of (fun j _ t ht => hs t (List.mem_of_getElem? ht)) (Nat.le_refl _) (fun t ht => by simp at ht)
  unfold parseF
  rw [if_neg (by omega), hb, show L[L.length]? = none by simp]
  simp only
  rw [hx]
  simp
theorem brackets {L : List Tok} {ns : List Nod} {at_ : Int} (h : parseF L = (0, at_, ns)) (hl : L.length + 2 ≤ 200) (h9 : ∀ n r, ns = n :: r → n.op ≠ 9) : parseF (leftT :: (L ++ [rightT])) = (0, 0, ns) := by
  obtain ⟨_, hs, x, hx, hns, _⟩ := parse_ok h
  obtain ⟨s, e⟩ := x
  cases s with
  | some s => exact absurd rfl (h9 _ _ hns.symm)
  | none =>
    have hset : ¬ ∃ t u r, L = t :: u :: r ∧ t.kind = 3 ∧ u.kind = 10 := by
      rintro ⟨t, u, r, rfl, h3, h10⟩
      unfold linP at hx
      simp only at hx
      rw [if_pos ⟨h3, h10⟩] at hx
      obtain ⟨a, _, hx⟩ := bind_ok hx
      injection hx with hx
      simp at hx
    rw [linP_plain hset] at hx
    obtain ⟨⟨e', r'⟩, he, hx⟩ := bind_ok hx
    injection hx with hx
    simp only [Prod.mk.injEq, true_and] at hx
    obtain ⟨rfl, rfl⟩ := hx
    have hf : exprE (4 * (L.length + 1) + 5) 0 L = .ok (e', []) := (exP_of (by omega)).trans he
    obtain ⟨l0, hl0, hg⟩ := ((goodF (4 * (L.length + 1) + 5)).ex 0).ok _ _ _ hf
    rw [List.append_nil] at hl0
    subst hl0
    have h1 : exP 0 (L ++ [rightT]) = .ok (e', [rightT]) := by
      rw [← exP_of (f := 4 * (L.length + 1) + 5) (by simp)]
      exact hg _ (.inl (by simp [calmK, kindT, rightT]))
    have h2 : atP 0 (leftT :: (L ++ [rightT])) = .ok (e', []) := by
      rw [atP_eq]
      simp only [kindT, leftT]
      rw [if_neg (by decide), if_neg (by decide), if_neg (by decide), if_neg (by decide)]
      show (Except.bind (needT 5 (leftT :: (L ++ [rightT]))) _) = _
      show ((exP 0 (L ++ [rightT])).bind fun e => (needT 6 e.2).bind fun y => .ok (e.1, y.2)) = _
      rw [h1]; rfl
    have h3 : tmP 0 (leftT :: (L ++ [rightT])) = .ok (e', []) := by
      unfold tmP
      rw [h2]
      show pkP 0 e' [] = _
      rw [pkP_eq, if_neg (by simp [kindT])]
    have h4 : exP 0 (leftT :: (L ++ [rightT])) = .ok (e', []) := by
      rw [exP_eq, if_neg (by simp [startsT, kindT, leftT]), h3]
      simp [Except.bind, startsT, kindT]
    have h5 : linP (leftT :: (L ++ [rightT])) = .ok ((none, e'), []) := by
      rw [linP_plain, h4]
      · rfl
      · rintro ⟨t, u, r, he, h3, _⟩
        injection he with he _
        rw [← he] at h3
        simp [leftT] at h3
    have := parse_of (L := leftT :: (L ++ [rightT])) (by simp; omega) (fun t ht => by
      rcases List.mem_cons.1 ht with rfl | ht
      · exact left_spells
      · rcases List.mem_append.1 ht with ht | ht
        · exact hs t ht
        · obtain rfl : t = rightT := by simpa using ht
          exact right_spells) h5
    rw [this, hns]
end Go.Proofs.YtanbifmcnkhdhaaDoor

namespace Go.Proofs.YtanbifmcnkhdhaaDoor

/-- what Parse tells of words that can be spelt: the error's number, where -/
def posF (L : List Tok) : Int × Int := match linP L with
  | .error y => (1, ((L.length - y : Nat) : Int))
  | .ok (_, r) => if r = [] then (0, 0) else (1, ((L.length - r.length : Nat) : Int))
theorem parse_pos {L : List Tok} (hl : L.length ≤ 200) (hs : ∀ t ∈ L, (spellF [t]).2 = 0) : (parseF L).1 = (posF L).1 ∧ (parseF L).2.1 = (posF L).2 := by
  have hb : badI L = L.length := badI_of (fun j _ t ht => hs t (List.mem_of_getElem? ht)) (Nat.le_refl _) (fun t ht => by simp at ht)
  unfold parseF posF
  rw [if_neg (by omega), hb, show L[L.length]? = none by simp]
  simp only
  cases linP L with
  | error y => exact ⟨rfl, rfl⟩
  | ok z =>
    obtain ⟨x, r⟩ := z
    simp only
    split <;> exact ⟨rfl, rfl⟩
theorem soon_core (pre : List Tok) (g : Ex → Option (List UInt8) × Ex) (l M : List Tok) (hp : ∀ k, (∃ s, l = k ++ s) ∨ k = l ++ M → linP (pre ++ k) = (exP 0 k).bind fun x => .ok (g x.1, x.2)) {a : Nat} (h : posF (pre ++ l) = (1, (a : Int))) (ha : a < (pre ++ l).length) :
    posF (pre ++ (l ++ M)) = (1, (a : Int)) ∧ ((posF ((pre ++ l).take a)).1 = 0 ∨ posF ((pre ++ l).take a) = (1, (a : Int))) := by
  have h0 := hp l (.inl ⟨[], by simp⟩)
  have h1 := hp (l ++ M) (.inr rfl)
  have hf0 : exprE (4 * (l ++ M).length + 5) 0 l = exP 0 l := exP_of (by simp; omega)
  have hf1 : exprE (4 * (l ++ M).length + 5) 0 (l ++ M) = exP 0 (l ++ M) := exP_of (by omega)
  have gd := (goodF (4 * (l ++ M).length + 5)).ex 0
  unfold posF at h
  rw [h0] at h
  cases he : exP 0 l with
  | error y =>
    rw [he] at h
    change ((1 : Int), (((pre ++ l).length - y : Nat) : Int)) = _ at h
    have hay : (pre ++ l).length - y = a := by
      simp only [Prod.mk.injEq, true_and] at h
      omega
    obtain ⟨l0, r, hlr, hry, hk⟩ := gd.err _ _ (hf0.trans he)
    have hle : r.length ≤ l.length := by rw [hlr, List.length_append]; omega
    rw [List.length_append] at hay ha
    have hypos : 0 < y := by omega
    obtain ⟨k1, k2⟩ := hk hypos
    have hr0 : r ≠ [] := fun e => by rw [e] at hry; simp at hry; omega
    have hhead : r.head? = (r ++ M).head? := by
      cases r with
      | nil => exact absurd rfl hr0
      | cons t r => rfl
    have k3 := k1 _ hhead
    rw [← List.append_assoc, ← hlr, hf1] at k3
    refine ⟨?_, ?_⟩
    · unfold posF
      rw [h1, k3]
      show ((1 : Int), (((pre ++ (l ++ M)).length - (r ++ M).length : Nat) : Int)) = _
      simp only [List.length_append, Prod.mk.injEq, true_and]
      omega
    · have htk : (pre ++ l).take a = pre ++ l0 := by
        rw [hlr, ← List.append_assoc]
        have : a = (pre ++ l0).length := by
          rw [List.length_append]
          rw [hlr, List.length_append] at hay ha
          omega
        rw [this, List.take_left]
      have hf2 : exprE (4 * (l ++ M).length + 5) 0 l0 = exP 0 l0 := exP_of (by rw [hlr]; simp; omega)
      rw [htk]
      unfold posF
      rw [hp l0 (.inl ⟨r, hlr⟩)]
      rw [hf2] at k2
      rcases k2 with k2 | ⟨x, k2⟩
      · right
        rw [k2]
        show ((1 : Int), (((pre ++ l0).length - 0 : Nat) : Int)) = _
        simp only [List.length_append, Prod.mk.injEq, true_and]
        rw [hlr, List.length_append] at hay ha
        omega
      · left
        rw [k2]; rfl
  | ok z =>
    obtain ⟨x, r⟩ := z
    rw [he] at h
    change (if r = [] then ((0 : Int), (0 : Int)) else (1, (((pre ++ l).length - r.length : Nat) : Int))) = _ at h
    obtain ⟨l0, hlr, hk⟩ := gd.ok _ _ _ (hf0.trans he)
    by_cases hr0 : r = []
    · rw [if_pos hr0] at h
      simp at h
    rw [if_neg hr0] at h
    have hay : (pre ++ l).length - r.length = a := by
      simp only [Prod.mk.injEq, true_and] at h
      omega
    have hhead : r.head? = (r ++ M).head? := by
      cases r with
      | nil => exact absurd rfl hr0
      | cons t r => rfl
    have k3 := hk (r ++ M) (.inr hhead)
    rw [← List.append_assoc, ← hlr, hf1] at k3
    have hrM : r ++ M ≠ [] := fun e => hr0 (List.append_eq_nil_iff.1 e).1
    have hrp : 0 < r.length := List.length_pos_iff.2 hr0
    refine ⟨?_, .inl ?_⟩
    · unfold posF
      rw [h1, k3]
      show (if r ++ M = [] then ((0 : Int), (0 : Int)) else (1, (((pre ++ (l ++ M)).length - (r ++ M).length : Nat) : Int))) = _
      rw [if_neg hrM]
      simp only [List.length_append, Prod.mk.injEq, true_and] at hay ⊢
      omega
    · have htk : (pre ++ l).take a = pre ++ l0 := by
        rw [hlr, ← List.append_assoc]
        have : a = (pre ++ l0).length := by
          rw [hlr] at hay
          simp only [List.length_append] at hay ⊢
          omega
        rw [this, List.take_left]
      have hf2 : exprE (4 * (l ++ M).length + 5) 0 l0 = exP 0 l0 := exP_of (by rw [hlr]; simp; omega)
      have k4 := hk [] (.inl calm_nil)
      rw [List.append_nil, hf2] at k4
      rw [htk]
      unfold posF
      rw [hp l0 (.inl ⟨r, hlr⟩), k4]
      rfl
theorem soon_pos {L : List Tok} (M : List Tok) {a : Nat} (h : posF L = (1, (a : Int))) (ha : a < L.length) : posF (L ++ M) = (1, (a : Int)) ∧ ((posF (L.take a)).1 = 0 ∨ posF (L.take a) = (1, (a : Int))) := by
  by_cases hset : ∃ t u r, L = t :: u :: r ∧ t.kind = 3 ∧ u.kind = 10
  · obtain ⟨t, u, r, rfl, h3, h10⟩ := hset
    exact soon_core [t, u] (fun e => (some t.text, e)) r M (fun k _ => by
      show linP (t :: u :: k) = _
      unfold linP
      simp only
      rw [if_pos ⟨h3, h10⟩]) h ha
  · have key : ∀ k, (∃ s, L = k ++ s) ∨ k = L ++ M → ¬ ∃ t u r, k = t :: u :: r ∧ t.kind = 3 ∧ u.kind = 10 := by
      rintro k hk ⟨t, u, r, rfl, h3, h10⟩
      rcases hk with ⟨s, hs⟩ | hk
      · exact hset ⟨t, u, r ++ s, by rw [hs]; rfl, h3, h10⟩
      · match L, hset, h, ha, hk with
        | [], _, _, ha, _ => simp at ha
        | [t'], _, h, ha, hk =>
          injection hk with hk _
          subst hk
          have h1 : posF [t] = (0, 0) := by
            obtain ⟨kind, fn, num, text, at_⟩ := t
            dsimp only at h3
            subst h3
            unfold posF
            have h5 : linP [(⟨3, fn, num, text, at_⟩ : Tok)] = .ok ((none, .leaf ⟨3, 0, 0, 0, 0, [], text⟩), []) := by
              rw [linP_plain (by rintro ⟨t, u, r, h, _⟩; simp at h), exP_eq, if_neg (by simp [startsT, kindT])]
              have h2 : atP 0 [(⟨3, fn, num, text, at_⟩ : Tok)] = .ok (.leaf ⟨3, 0, 0, 0, 0, [], text⟩, []) := by
                rw [atP_eq, if_neg (by simp [kindT]), if_neg (by simp [kindT]), if_pos (by simp [kindT])]
                rfl
              have h3 : tmP 0 [(⟨3, fn, num, text, at_⟩ : Tok)] = .ok (.leaf ⟨3, 0, 0, 0, 0, [], text⟩, []) := by
                unfold tmP
                rw [h2]
                show pkP 0 _ [] = _
                rw [pkP_eq, if_neg (by simp [kindT])]
              rw [h3]
              simp [Except.bind, startsT, kindT]
            rw [h5]
            rfl
          rw [h1] at h
          simp at h
        | t' :: u' :: r', hset, _, _, hk =>
          injection hk with hk1 hk2
          injection hk2 with hk2 _
          subst hk1 hk2
          exact hset ⟨_, _, _, rfl, h3, h10⟩
    exact soon_core [] (fun e => (none, e)) L M (fun k hk => by rw [List.nil_append]; exact linP_plain (key k hk)) h ha
end Go.Proofs.YtanbifmcnkhdhaaDoor
