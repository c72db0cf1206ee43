/-
  Rows that are read: behind a call; a block of the call's own.
  An own slice that is only read from here on. Of no program.
-/
import Derived.Test.YtllgkdkjcbohcaaGreatDoorZRd
import Derived.Test.YtllgkdkjcbohcaaGreatDoorZRule
import Derived.Deep.Slices
namespace Go.Proofs.YtllgkdkjcbohcaaGreatDoor
open Go.RowKit
theorem Row.below {α : Type} {enc : α → List Value} {sz : Nat} {w w' : World} {p : Option Addr} {c : Nat} {xs : List α} (h : Row enc sz w.cell? p c xs) (hb : Below w.heap.size w w') : Row enc sz w'.cell? p c xs := h.mono fun a v e => by
  rw [World.cell?_of_block (hb.block _ (cell_lt e))]; exact e
/-- a block that holds cells of a row -/
theorem row_blk {α : Type} {enc : α → List Value} {sz : Nat} {w0 w : World} {F : List Nat} {m r : List HP} {b : Nat} {T : TypeId} {xs : List α} (hh : Holds w0 F m w) (hp : Pick m (blk b T (xs.flatMap enc).toArray) r) (hs : ∀ x, (enc x).length = sz) (hm : xs.length ≤ 1099511627776) : Row enc sz w.cell? (some ⟨b, 0, none⟩) xs.length xs := by
  have hb := hh.blk hp
  refine ⟨Nat.le_refl _, by unfold maxLen; omega, fun _ => rfl, fun i x hx j v hv => ?_⟩
  have e : (addrAt (some ⟨b, 0, none⟩) (i * sz)).add j = ⟨b, i * sz + j, none⟩ := by
    unfold addrAt
    show ((⟨b, 0, none⟩ : Addr).add (i * sz)).add j = _
    rw [Go.Deep.add_add]
    unfold Addr.add
    split <;> simp_all
  rw [e]
  simp only [World.cell?, hb]
  have hj : j < sz := by rw [← hs x]; exact (List.getElem?_eq_some_iff.1 hv).1
  have key : ∀ (l : List α) (i : Nat), l[i]? = some x → (l.flatMap enc)[i * sz + j]? = some v := by
    intro l
    induction l with
    | nil => intro i h; simp at h
    | cons y l ih =>
      intro i h
      rw [List.flatMap_cons]
      cases i with
      | zero =>
        simp at h; subst h
        rw [Nat.zero_mul, Nat.zero_add, List.getElem?_append_left (by rw [hs]; exact hj)]; exact hv
      | succ i =>
        rw [List.getElem?_append_right (by rw [hs, Nat.succ_mul]; omega), hs, show (i + 1) * sz + j - sz = i * sz + j by rw [Nat.succ_mul]; omega]
        exact ih i (by simpa using h)
  simpa using key xs i hx
theorem flat_get {α : Type} {enc : α → List Value} {sz j : Nat} {x : α} {v : Value} (hs : ∀ x, (enc x).length = sz) (hv : (enc x)[j]? = some v) : ∀ (l : List α) (i : Nat), l[i]? = some x → (l.flatMap enc)[i * sz + j]? = some v := by
  have hj : j < sz := by rw [← hs x]; exact (List.getElem?_eq_some_iff.1 hv).1
  intro l
  induction l with
  | nil => intro i h; simp at h
  | cons y l ih =>
    intro i h
    rw [List.flatMap_cons]
    cases i with
    | zero =>
      simp at h; subst h
      rw [Nat.zero_mul, Nat.zero_add, List.getElem?_append_left (by rw [hs]; exact hj)]; exact hv
    | succ i =>
      rw [List.getElem?_append_right (by rw [hs, Nat.add_mul]; omega), hs]
      rw [show (i + 1) * sz + j - sz = i * sz + j by rw [Nat.add_mul]; omega]
      exact ih i (by simpa using h)
theorem flat_len {α : Type} {enc : α → List Value} {sz : Nat} (hs : ∀ x, (enc x).length = sz) : ∀ l : List α, (l.flatMap enc).length = l.length * sz
  | [] => by simp
  | x :: l => by rw [List.flatMap_cons, List.length_append, hs, flat_len hs l, List.length_cons, Nat.add_mul]; omega
/-- a slice of the call's own, as a row to be read -/
theorem row_sl {α : Type} {enc : α → List Value} {sz : Nat} (hs : ∀ x, (enc x).length = sz) (h0 : 0 < sz) {w0 w : World} {F : List Nat} {m r : List HP} {e : TypeId} {n c : Nat} {p : Option Addr} {xs : List α} (hh : Holds w0 F m w) (hp : Pick m (sl e sz p n c (xs.flatMap enc)) r) :
    n = xs.length ∧ Row enc sz w.cell? p c xs := by
  have h := hh.slR hp
  have hn : n = xs.length := by
    have := h.1
    rw [flat_len hs] at this
    exact (Nat.eq_of_mul_eq_mul_right h0 this).symm
  refine ⟨hn, ?_⟩
  rcases h.2 with ⟨hv, h00⟩ | ⟨g, cap, cur, hv, _, hg, hnc, hcm, hcs, ht⟩
  · simp only [Value.slice.injEq] at hv
    obtain ⟨rfl, _, rfl⟩ := hv
    have : xs = [] := List.eq_nil_of_length_eq_zero (by omega)
    subst this
    exact Row.nil _ _ _
  · simp only [Value.slice.injEq] at hv
    obtain ⟨rfl, _, rfl⟩ := hv
    refine ⟨by omega, hcm, fun _ => rfl, fun i x hx j v hv => ?_⟩
    have h1 := h.cells (g := g) rfl (i * sz + j) v (flat_get hs hv xs i hx)
    unfold addrAt
    show w.cell? (((⟨g, 0, none⟩ : Addr).add (i * sz)).add j) = some v
    rw [Go.Deep.add_add]
    exact h1
end Go.Proofs.YtllgkdkjcbohcaaGreatDoor
namespace Go.Proofs.YtllgkdkjcbohcaaGreatDoor
open Go.RowKit
theorem addr_block (g i j : Nat) : ((addrAt (some ⟨g, 0, none⟩) i).add j).block = g := by
  unfold addrAt
  show (((⟨g, 0, none⟩ : Addr).add i).add j).block = g
  rw [Go.Deep.add_add]
  unfold Addr.add
  split <;> rfl
/-- an own slice is only read from here on -/
theorem Holds.toRo {α : Type} {enc : α → List Value} {sz : Nat} (hs : ∀ x, (enc x).length = sz) (h0 : 0 < sz) {w0 w : World} {F : List Nat} {G : Rd} {e : TypeId} {n c : Nat} {p : Option Addr} {xs : List α} {r : List HP}
    (hh : Holds w0 F (ro w0 F G :: sl e sz p n c (xs.flatMap enc) :: r) w) (hF : ∀ fp, Own r fp w → ∀ i ∈ F, i ∈ fp) :
    ∃ G', Rd.grow w0 G G' ∧ Row enc sz G' p c xs ∧ Holds w0 F (ro w0 F G' :: r) w := by
  have hrow := (row_sl hs h0 hh (.there .here)).2
  have hF0 : ∀ fp, (sl e sz p n c (xs.flatMap enc)).p w fp → ∀ i ∈ fp, w0.heap.size ≤ i := by
    rintro fp ⟨rfl, _⟩ i hi
    obtain ⟨fp0, ⟨fG, f12, rfl, hG, ⟨f1, f2, rfl, ⟨hf1, _⟩, h2, hd2⟩, hd⟩, hFF⟩ := hh.own
    refine Nat.le_of_not_lt fun hlt => ?_
    have hi1 : i ∈ f1 := by rw [hf1]; exact hi
    exact hd2 i hi1 (hF _ h2 i (hFF i (by simp [hi1]) hlt))
  obtain ⟨fp, ⟨hfp, hown⟩, hb, hn, hsp⟩ := hh.freeze hF0
  refine ⟨fun a => if a.block ∈ fp then w.cell? a else G a, ⟨fun a v ea => ?_, fun a v ea => ?_⟩, ⟨hrow.le, hrow.max, hrow.some', fun i x hx j v hv => ?_⟩, hsp _ fun a v ea => ?_⟩
  · show (if a.block ∈ fp then _ else _) = _
    rw [if_neg (hn a v ea)]; exact ea
  · by_cases h : a.block ∈ fp
    · exact .inr (hb _ h).1
    · simp only [if_neg h] at ea; exact .inl ea
  · have hc := hrow.cell i x hx j v hv
    have hblk : ((addrAt p (i * sz)).add j).block ∈ fp := by
      rcases hown.2 with ⟨hv', h00⟩ | ⟨g, cap, cur, hv', _⟩
      · have hn' : n = xs.length := (row_sl hs h0 hh (.there .here)).1
        have : xs = [] := List.eq_nil_of_length_eq_zero (by omega)
        subst this
        simp at hx
      · simp only [Value.slice.injEq] at hv'
        obtain ⟨rfl, _, rfl⟩ := hv'
        rw [addr_block, hfp]
        simp [blkOf]
    show (if _ ∈ fp then _ else _) = _
    rw [if_pos hblk]; exact hc
  · by_cases h : a.block ∈ fp
    · simp only [if_pos h] at ea; exact .inr ⟨h, ea⟩
    · simp only [if_neg h] at ea; exact .inl ea
theorem Keep.tr {w0 w w' : World} {F fp : List Nat} (h : Keep w0 F w) (k : Keep w fp w') (hF : ∀ i ∈ fp, i < w0.heap.size → i ∈ F) : Keep w0 F w' :=
  ⟨k.os.trans h.os, k.tape.trans h.tape, k.output.trans h.output, Nat.le_trans h.size k.size, fun i hi hn => (k.block i (Nat.lt_of_lt_of_le hi h.size) (fun hm => hn (hF i hm hi))).trans (h.block i hi hn)⟩
theorem Ent.roLe {m r m' : List HP} {w0 : World} {F : List Nat} {G G' : Rd} (hl : Rd.le G G') (hp : Pick m (ro w0 F G') r) (k : Ent r m') : Ent m (ro w0 F G :: m') := fun fp w ho => by
  obtain ⟨f1, f2, he, k1, k2, kd⟩ := hp.own ho
  obtain ⟨f3, h3, hs⟩ := k f2 w k2
  refine ⟨f1 ++ f3, ⟨f1, f3, rfl, ⟨k1.1, fun a v e => k1.2 a v (hl a v e)⟩, h3, fun i hi h => kd i hi (hs i h)⟩, fun i hi => ?_⟩
  rcases List.mem_append.1 hi with hi | hi
  · exact (he i).2 (.inl hi)
  · exact (he i).2 (.inr (hs i hi))
end Go.Proofs.YtllgkdkjcbohcaaGreatDoor
