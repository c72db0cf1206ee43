/-
  Small lemmas of no program: slices of ints that read as lists; frames; errors as values. Proved for any program P.
-/
import Derived.WalkKit
import Derived.WalkSpells
import Derived.WalkLawsBesides
import Derived.Deep.QuietTactic
import Derived.BigQuiet
import Derived.LoopTactic
import Derived.Deep.LoopGhost
import Derived.Deep.DeepCutAuto
import Derived.Deep.RegionHeld3
import Derived.Lib.OthersKept
import Derived.Lib.Hide
import Derived.Deep.Slices
namespace Go.Proofs.YtgjmgmejojbdeaaGreatDoor
open Go.RowKit

/-- an int's range -/
def I64 (n : Int) : Prop := -9223372036854775808 ≤ n ∧ n ≤ 9223372036854775807

/-- the address of element i of a slice of one-cell elements; of nil: any -/
def addrAt (p : Option Addr) (i : Nat) : Addr := (p.getD ⟨0, 0, none⟩).add i

/-- v reads as the list xs of ints in w -/
structure IntsAt (w : World) (p : Option Addr) (cap : Nat) (xs : List Int) : Prop where
  le : xs.length ≤ cap
  max : cap ≤ maxLen
  some' : xs ≠ [] → p.isSome = true
  cell : ∀ (i : Nat) (x : Int), xs[i]? = some x → w.cell? (addrAt p i) = some (.int .i64 x)
  rng : ∀ x ∈ xs, I64 x

theorem IntsAt.nil (w : World) : IntsAt w none 0 [] := ⟨by simp, by unfold maxLen; omega, fun h => absurd rfl h, by simp, by simp⟩

theorem IntsAt.below {w w' : World} {p : Option Addr} {cap : Nat} {xs : List Int} (h : IntsAt w p cap xs) (hb : Below w.heap.size w w') : IntsAt w' p cap xs := by
  refine ⟨h.le, h.max, h.some', fun i x hx => ?_, h.rng⟩
  have hc := h.cell i x hx
  have hlt : (addrAt p i).block < w.heap.size := by
    unfold World.cell? at hc
    rcases Nat.lt_or_ge (addrAt p i).block w.heap.size with h' | h'
    · exact h'
    · rw [Array.getElem?_eq_none h'] at hc; simp at hc
  rw [hb.cell hlt]; exact hc

/-- an index within the list, whatever the slice's address -/
theorem idxAt {P : Program} {t e : TypeId} (ht : P.underlying t = some (.slice e)) (hz : ∀ w, (sizeOf e).run P w = .ok 1 w) {p : Option Addr} {n cap : Nat} (hs : p.isSome = true) (k : IntKind) (i : Nat) (hi : i < n) (w : World) :
    (Instr.indexAt t (.slice p n cap) (.int k (i : Int))).run P w = .ok (.pointer (some (addrAt p i))) w := by
  obtain ⟨a, rfl⟩ := Option.isSome_iff_exists.1 hs
  have h1 : (0 : Int) ≤ (i : Int) ∧ (i : Int) < (n : Int) := ⟨by omega, by omega⟩
  simp [Instr.indexAt, run_underlying ht, asIntOf, h1, hz, addrAt]
  intro h2; omega

theorem IntsAt.idx {P : Program} {t e : TypeId} (ht : P.underlying t = some (.slice e)) (hz : ∀ w, (sizeOf e).run P w = .ok 1 w) {w0 : World} {p : Option Addr} {cap : Nat} {xs : List Int} (h : IntsAt w0 p cap xs) {n : Nat} (hn : xs.length = n) (k : IntKind) (i : Nat) (hi : i < n) (w : World) :
    (Instr.indexAt t (.slice p n cap) (.int k (i : Int))).run P w = .ok (.pointer (some (addrAt p i))) w :=
  idxAt ht hz (h.some' (by intro e; subst e; simp at hn; omega)) k i hi w

theorem getD_some {xs : List Int} {i : Nat} (h : i < xs.length) : xs[i]? = some (xs.getD i 0) := by
  rw [List.getD_eq_getElem?_getD, List.getElem?_eq_getElem h]; rfl
theorem IntsAt.get {w : World} {p : Option Addr} {cap : Nat} {xs : List Int} (h : IntsAt w p cap xs) (i : Nat) (hi : i < xs.length) :
    w.cell? (addrAt p i) = some (.int .i64 (xs.getD i 0)) := h.cell i _ (getD_some hi)
theorem IntsAt.rngD {w : World} {p : Option Addr} {cap : Nat} {xs : List Int} (h : IntsAt w p cap xs) (i : Nat) (hi : i < xs.length) : I64 (xs.getD i 0) :=
  h.rng _ (List.mem_of_getElem? (getD_some hi))
theorem take_eq_succ {xs ys : List Int} {k : Nat} (h : xs.take k = ys.take k) (hx : k < xs.length) (hy : k < ys.length) (e : xs.getD k 0 = ys.getD k 0) : xs.take (k + 1) = ys.take (k + 1) := by
  rw [List.take_add_one, List.take_add_one, h, getD_some hx, getD_some hy, e]
theorem ne_of_getD {xs ys : List Int} {k : Nat} (e : xs.getD k 0 ≠ ys.getD k 0) : xs ≠ ys := fun h => e (by rw [h])
theorem eq_of_take {xs ys : List Int} {k : Nat} (h : xs.take k = ys.take k) (hx : xs.length ≤ k) (hy : ys.length ≤ k) : xs = ys := by
  rwa [List.take_of_length_le hx, List.take_of_length_le hy] at h
theorem ret_bool {a b : Bool} (h : a = b) : Ending.returned (.bool a) = .returned (.bool b) := by rw [h]
theorem ret_int {k : IntKind} {a b : Int} (h : a = b) : Ending.returned (.int k a) = .returned (.int k b) := by rw [h]
theorem len_max {n c : Nat} (h : n ≤ c) (hc : c ≤ maxLen) : n ≤ 9223372036854775807 := by unfold maxLen at hc; omega

theorem drop_getD {s : List Int} {k : Nat} (h : k < s.length) : s.drop k = s.getD k 0 :: s.drop (k + 1) := by
  rw [List.drop_eq_getElem_cons h, List.getD_eq_getElem?_getD, List.getElem?_eq_getElem h]; rfl
theorem drop_end {s : List Int} {k : Nat} (h : s.length ≤ k) : s.drop k = [] := List.drop_eq_nil_of_le h

/-- an error as a value: T is Errno's type -/
def errV (T : TypeId) (e : Int) : Value := if e = 0 then .nilIface else .iface T (.int .i64 e)
theorem errV_zero (T : TypeId) : errV T 0 = .nilIface := by simp [errV]
theorem errV_ne {T : TypeId} {e : Int} (h : e ≠ 0) : errV T e = .iface T (.int .i64 e) := by simp [errV, h]
theorem ret_two {a b a' b' : Value} (h : a = a') (h' : b = b') : Ending.returned (.tuple #[a, b]) = .returned (.tuple #[a', b']) := by rw [h, h']
theorem int_eq {k : IntKind} {a b : Int} (h : a = b) : Value.int k a = .int k b := by rw [h]
theorem ret_val {a b : Value} (h : a = b) : Ending.returned a = .returned b := by rw [h]

/-- a byte of a string -/
theorem strIdx {P : Program} {t : TypeId} (ht : P.underlying t = some .string) (s : ByteArray) (i : Nat) (h : i < s.size) (k : IntKind) {e : Int} (he : e = (i : Int)) (w : World) :
    (Instr.index t (.string s) (.int k e)).run P w = .ok (.int .u8 ((s[i]'h).toNat : Int)) w := by
  subst he
  simp [Instr.index, run_underlying ht, asIntOf, h]
theorem strIdx' {P : Program} {t : TypeId} (ht : P.underlying t = some .string) (s : ByteArray) (i : Nat) (h : i < s.size) (k : IntKind) {e : Int} (he : e = (i : Int)) :
    ∃ x : Int, (∀ w, (Instr.index t (.string s) (.int k e)).run P w = .ok (.int .u8 x) w) ∧ 0 ≤ x ∧ x < 256 ∧ wrap64 x = x ∧ Hid (x = ((s[i]'h).toNat : Int)) := by
  have := (s[i]'h).toNat_lt
  exact ⟨_, fun w => strIdx ht s i h k he w, by omega, by omega, IntWalk.wrap64_in _ ⟨by omega, by omega⟩, rfl⟩

/-- a part of a slice of one-cell elements -/
theorem sliceLH {P : Program} {t e : TypeId} (ht : P.underlying t = some (.slice e)) (hz : ∀ w, (sizeOf e).run P w = .ok 1 w) {p : Option Addr} {n cap l h : Nat} (hs : p.isSome = true) (hl : l < cap) (hlh : l ≤ h) (hh : h ≤ cap)
    (k1 k2 : IntKind) {el eh : Int} (hel : el = (l : Int)) (heh : eh = (h : Int)) (W : World) :
    (Instr.sliceAt t (.slice p n cap) (some (.int k1 el)) (some (.int k2 eh)) none).run P W = .ok (.slice (some (addrAt p l)) (h - l) (cap - l)) W := by
  obtain ⟨a, rfl⟩ := Option.isSome_iff_exists.1 hs
  subst hel; subst heh
  have h0 : (0 : Int) ≤ (l : Int) := by omega
  have h1 : (l : Int) ≤ (h : Int) := by omega
  have h2 : (h : Int) ≤ (cap : Int) := by omega
  have he : P.elem t = e := by simp [Program.elem, ht]
  have ht' : P.underlying t = some (.slice (P.elem t)) := by rw [he]; exact ht
  rw [run_sliceAt_slice (w := W) t _ _ _ _ ht', run_slice_lh (w := W) t (some a) n cap ht' k1 k2 l h h0 h1 h2, he, hz W]
  have hne : ¬ cap = l := by omega
  simp [Result.andThen, sliced, hne, addrAt]

theorem addrAt_add (p : Option Addr) (i j : Nat) : addrAt (some (addrAt p i)) j = addrAt p (i + j) := by
  unfold addrAt
  show ((p.getD ⟨0, 0, none⟩).add i).add j = _
  exact Go.Deep.add_add _ i j

theorem IntsAt.sub {w : World} {p : Option Addr} {cap : Nat} {xs : List Int} (h : IntsAt w p cap xs) {l r : Nat} (hl : l < r) (hr : r ≤ xs.length) : IntsAt w (some (addrAt p l)) (cap - l) ((xs.drop l).take (r - l)) := by
  have hle := h.le
  have hmx := h.max
  refine ⟨by simp; omega, by omega, fun _ => rfl, fun i x hx => ?_, fun x hx => h.rng x (List.mem_of_mem_drop (List.mem_of_mem_take hx))⟩
  rw [List.getElem?_take] at hx
  split at hx
  · rw [List.getElem?_drop] at hx
    rw [addrAt_add]
    exact h.cell _ _ hx
  · cases hx

end Go.Proofs.YtgjmgmejojbdeaaGreatDoor
