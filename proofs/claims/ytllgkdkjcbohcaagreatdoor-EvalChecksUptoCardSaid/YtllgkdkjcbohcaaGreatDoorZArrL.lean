/-
  (At the seat r13.ZD only: contracts of the shelf that were not laid there.)
  Arrays: as they lie in memory; what functions of them tell.
-/
import Derived.Test.YtllgkdkjcbohcaaGreatDoorZShelf
import Derived.Shelf.Slices.Clone
import Derived.Shelf.Slices.Equal
import Derived.Shelf.Slices.Empties2
import Derived.Test.YtllgkdkjcbohcaaGreatDoorZGo
import Derived.Test.YtllgkdkjcbohcaaGreatDoorZOpenArr
import Derived.Test.YtllgkdkjcbohcaaGreatDoorZStpL
import Derived.Test.YtllgkdkjcbohcaaGreatDoorZRetC
import Derived.Test.YtllgkdkjcbohcaaGreatDoorZCellF
open Go Go.Proofs Go.RowKit
theorem Tryz.slices_Clone_int_zero (a : Addr) (c : Nat) (w : World) :
    Calls Tryz.prog 54 #[.slice (some a) 0 c] w fun e w' => ∃ v', e = .returned v' ∧ w'.ownsRow w.heap.size 3 1 v' 0 [] ∧ v' ≠ .slice none 0 0 ∧ Below w.heap.size w w' := Any.slices_Clone_int_zero Tryz.laysNm215 a c w
namespace Go.Proofs.YtllgkdkjcbohcaaGreatDoor
open Go.RowKit
/-- an array, told plainly -/
structure Arr where
  char : Bool
  shape : List Int
  data : List Int
def ArrM.arr (a : ArrM) : Arr := ⟨a.char, a.shape.xs, a.data.xs⟩
def zeroA : Arr := ⟨false, [], []⟩
def zeroM : ArrM := ⟨false, ⟨none, 0, []⟩, ⟨none, 0, []⟩⟩
/-- an array may be read there -/
structure ArrG (G : Rd) (a : ArrM) : Prop where
  shape : Row encI 1 G a.shape.p a.shape.c a.shape.xs
  data : Row encI 1 G a.data.p a.data.c a.data.xs
  shapeI : ∀ x ∈ a.shape.xs, I64 x
  dataI : ∀ x ∈ a.data.xs, I64 x
theorem ArrG.mono {G G' : Rd} {a : ArrM} (h : ArrG G a) (hl : Rd.le G G') : ArrG G' a := ⟨h.shape.mono hl, h.data.mono hl, h.shapeI, h.dataI⟩
theorem ArrG.zero (G : Rd) : ArrG G zeroM := ⟨Row.nil _ _ _, Row.nil _ _ _, by simp [zeroM], by simp [zeroM]⟩
abbrev arrV (a : ArrM) : Value := .agg #[.bool a.char, .slice a.shape.p a.shape.xs.length a.shape.c, .slice a.data.p a.data.xs.length a.data.c]
abbrev resV (e : Int) (a : ArrM) : Value := .tuple #[arrV a, errV 49 e]
/-- what a function tells: an error's number, an array -/
structure ResR (r : Int × Arr) (z : ArrM) (G : Rd) : Prop where
  eq : z.arr = r.2
  good : ArrG G z
abbrev ResT (r : Int × Arr) (G : Rd) (w : World) : Ending → World → Prop := Tells (resV r.1) (ResR r) G w
/-- what is wrong with an array -/
def Arr.bad (a : Arr) : Int := checkF a.char a.shape a.data
theorem ints_at {w : World} {G : Rd} {p : Option Addr} {c : Nat} {xs : List Int} (h : Row encI 1 G p c xs) (hr : ∀ n ∈ xs, I64 n) (hl : Rd.le G w.cell?) : IntsAt w p c xs :=
  ⟨h.le, h.max, h.some', fun i x hx => by
    have := (h.mono hl).cell i x hx 0 _ rfl
    rw [Nat.mul_one, add_zero] at this
    exact this, hr⟩
theorem flatA (xs : List Int) : xs.flatMap encI = xs.map (Value.int .i64) := by
  induction xs with
  | nil => rfl
  | cons x r ih => rw [List.flatMap_cons, ih]; rfl
/-- arr.Check -/
theorem chk (a : ArrM) (G : Rd) (W : World) (h : ArrG G a) (hl : Rd.le G W.cell?) : Calls Tryz.prog 59 #[arrV a] W fun e w' => e = .returned (errV 49 a.arr.bad) ∧ Below W.heap.size W w' :=
  arr_Check a.char a.shape.p a.data.p a.shape.c a.data.c a.shape.xs a.data.xs W (ints_at h.shape h.shapeI hl) (ints_at h.data h.dataI hl)
theorem add_atA (b i j : Nat) : (⟨b, i, none⟩ : Addr).add j = ⟨b, i + j, none⟩ := by
  unfold Addr.add
  split <;> simp [*]
/-- slices.Clone: a copy of one's own -/
theorem ints_Clone (p : Option Addr) (c : Nat) (xs : List Int) (G : Rd) (w : World) (hR : Row encI 1 G p c xs) (hlen : xs.length ≤ 4294967280) (hl : Rd.le G w.cell?) :
    Calls Tryz.prog 54 #[.slice p xs.length c] w fun e w' => ∃ x : Option Addr × Nat, True ∧ e = .returned (.slice x.1 xs.length x.2) ∧ Holds w [] [sl 3 1 x.1 xs.length x.2 (xs.map (Value.int .i64))] w' := by
  have own : ∀ (v' : Value) (w' : World), w'.ownsRow w.heap.size 3 1 v' xs.length (xs.map (Value.int .i64)) → v' ≠ .slice none 0 0 → Below w.heap.size w w' → ∃ x : Option Addr × Nat, True ∧ Ending.returned v' = .returned (.slice x.1 xs.length x.2) ∧ Holds w [] [sl 3 1 x.1 xs.length x.2 (xs.map (Value.int .i64))] w' := fun v' w' hown hv hb => by
    obtain ⟨h1, h2⟩ := hown
    rcases h2 with ⟨h3, h0⟩ | ⟨g, cap, cur, rfl, hge, hg, hn, hc, hs, ht⟩
    · exact absurd h3 hv
    · refine ⟨(some ⟨g, 0, none⟩, cap), trivial, rfl, Keep.ofBelow hb, [g], ⟨[g], [], rfl, ⟨rfl, by rw [List.length_map, Nat.mul_one], .inr ⟨g, cap, cur, rfl, Nat.zero_le _, hg, hn, hc, hs, ht⟩⟩, rfl, by simp⟩, fun i hi hl => ?_⟩
      have : i = g := by simpa using hi
      omega
  by_cases hne : xs = []
  · subst hne
    cases p with
    | none =>
      refine (Tryz.slices_Clone_int_nil 0 c w).mono ?_
      rintro e w' ⟨he, hw⟩
      refine ⟨(none, 0), trivial, he, ?_⟩
      rw [hw]
      exact (Holds.start (w := w) (m := []) rfl).ent (Ent.nilown Ent.nil)
    | some a =>
      refine (Tryz.slices_Clone_int_zero a c w).mono ?_
      rintro e w' ⟨v', he, hown, hv, hb⟩
      rw [he]
      exact own v' w' hown hv hb
  have hpos : 0 < xs.length := List.length_pos_iff.2 hne
  have hcell : ∀ i x, xs[i]? = some x → w.cell? (addrAt p i) = some (.int .i64 x) := fun i x hx => by
    have := hl _ _ (hR.cell i x hx 0 _ rfl)
    rw [Nat.mul_one, add_zero] at this
    exact this
  obtain ⟨a, rfl⟩ := Option.isSome_iff_exists.1 (hR.some' hne)
  obtain ⟨b, off, spot⟩ := a
  have hspot : spot = none := by
    cases spot with
    | none => rfl
    | some s =>
      have h0 := hcell 0 _ (List.getElem?_eq_getElem hpos)
      simp [addrAt, Addr.add, World.cell?] at h0
      split at h0 <;> simp at h0
  subst hspot
  refine (Tryz.slices_Clone_int b off xs.length c xs w (Nat.le_refl _) (by omega) fun j hj => ?_).mono ?_
  · have := hcell j _ (List.getElem?_eq_getElem hj)
    have e1 : addrAt (some ⟨b, off, none⟩) j = ⟨b, off + j, none⟩ := add_atA b off j
    rw [e1] at this
    rw [this, List.getD_eq_getElem?_getD, List.getElem?_eq_getElem hj]
    rfl
  · rintro e w' ⟨v', rfl, hown, hv, hb⟩
    rw [List.take_length] at hown
    exact own v' w' hown hv hb
/-- an array made of two slices of one's own -/
theorem ResT.own {w w' : World} {G : Rd} {ch : Bool} {q p : Option Addr} {c k n1 n2 : Nat} {ss ds : List Int} {e1 e2 : TypeId} {r : List HP} {x : Arr} (hh : Holds w [] (ro w [] G :: sl e1 1 q n1 c (ss.map (Value.int .i64)) :: sl e2 1 p n2 k (ds.map (Value.int .i64)) :: r) w') (h1 : ss.length = n1) (h2 : ds.length = n2) (hx : x = ⟨ch, ss, ds⟩) (hsI : ∀ x ∈ ss, I64 x) (hdI : ∀ x ∈ ds, I64 x) :
    ResT (0, x) G w (.returned (.tuple #[.agg #[.bool ch, .slice q n1 c, .slice p n2 k], .nilIface])) w' := by
  subst h1 h2 hx
  rw [← flatA, ← flatA] at hh
  obtain ⟨G1, g1, r1, k1⟩ := Holds.toRo (enc := encI) (sz := 1) (fun _ => rfl) (by decide) hh (fun _ _ => by simp)
  obtain ⟨G2, g2, r2, k2⟩ := Holds.toRo (enc := encI) (sz := 1) (fun _ => rfl) (by decide) k1 (fun _ _ => by simp)
  exact ⟨⟨ch, ⟨q, c, ss⟩, ⟨p, k, ds⟩⟩, G2, ⟨rfl, r1.mono g2.1, r2, hsI, hdI⟩, by rw [← errV_zero (T := 49)], Rd.grow_tr g1 g2, k2.ent (Ent.cons .here Ent.nil)⟩
/-- an error -/
theorem ResT.err {w w' : World} {G : Rd} {e : Int} {r : List HP} (h0 : e ≠ 0) (hh : Holds w [] (ro w [] G :: r) w') : ResT (e, zeroA) G w (.returned (.tuple #[.agg #[.bool false, .slice none 0 0, .slice none 0 0], .iface 49 (.int .i64 e)])) w' :=
  ⟨zeroM, G, ⟨rfl, ArrG.zero G⟩, by rw [← errV_ne h0]; rfl, Rd.grow_refl _ _, hh.ent (Ent.cons .here Ent.nil)⟩
end Go.Proofs.YtllgkdkjcbohcaaGreatDoor
