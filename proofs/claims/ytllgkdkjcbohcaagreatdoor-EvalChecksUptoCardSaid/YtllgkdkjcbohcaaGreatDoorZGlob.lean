/-
  Maps from strings to values of any type, of the call's own: they lie in memory; what is looked up; what is laid under a name. Of no program.
  Slices of ints that the call itself makes: append of one number, reading back.
  What the library's variables hold: the tables of strconv and unicode/utf8, bytealg's number.
-/
import Derived.Test.YtllgkdkjcbohcaaGreatDoorZBitL
import Derived.Test.YtllgkdkjcbohcaaGreatDoorProg
import Derived.Test.YtllgkdkjcbohcaaGreatDoorZRule
import Derived.Test.YtllgkdkjcbohcaaGreatDoorZShelf
import Derived.Test.YtllgkdkjcbohcaaGreatDoorZRd
namespace Go.Proofs.YtllgkdkjcbohcaaGreatDoor
open Go.RowKit
def mvEnt (q : (List UInt8 × Value) × Nat) : MapEntry := { key := .string ⟨q.1.1.toArray⟩, val := q.1.2, born := q.2 }
def mvE (ks : List (List UInt8 × Value)) : Array MapEntry := (ks.zipIdx.map mvEnt).toArray
/-- the map with these names, in the order in which they came, lies there -/
def MapVAt (w : World) (b : Nat) (ks : List (List UInt8 × Value)) : Prop := w.heap[b]? = some (.map (mvE ks) ks.length)
def mv (b : Nat) (ks : List (List UInt8 × Value)) : HP where
  p w fp := fp = [b] ∧ w.heap[b]? = some (.map (mvE ks) ks.length)
  st w w' fp h := by rintro ⟨rfl, hb⟩; exact ⟨rfl, (h b (by simp)).trans hb⟩
  lt w fp := by
    rintro ⟨rfl, hb⟩ i hi
    have : i = b := by simpa using hi
    subst this
    exact (Array.getElem?_eq_some_iff.1 hb).1
def findV (l : List UInt8) : List (List UInt8 × Value) → Nat → Option (Nat × Value)
  | [], _ => none
  | k :: r, i => if l = k.1 then some (i, k.2) else findV l r (i + 1)
def seekV (ks : List (List UInt8 × Value)) (l : List UInt8) : Option Value := (findV l ks 0).map Prod.snd
theorem findNow_mv (l : List UInt8) : ∀ (ks : List (List UInt8 × Value)) (j i : Nat), Instr.findNow .string (.string ⟨l.toArray⟩) ((ks.zipIdx j).map mvEnt) i = some (findV l ks i)
  | [], _, _ => rfl
  | k :: r, j, i => by
    rw [List.zipIdx_cons, List.map_cons, Instr.findNow, findV]
    have h : Instr.sameNow .string (.string ⟨l.toArray⟩) (mvEnt (k, j)).key = some (decide (l = k.1)) := by
      show some ((⟨l.toArray⟩ : ByteArray) == ⟨k.1.toArray⟩) = _
      congr 1
      show (l.toArray == k.1.toArray) = _
      simp [lbeq]
    rw [h]
    by_cases e : l = k.1
    · rw [decide_eq_true e, if_pos e]; rfl
    · rw [decide_eq_false e, if_neg e]
      exact findNow_mv l r (j + 1) (i + 1)
class MapV (P : Program) (t : TypeId) (zv : outParam Value) : Prop where
  ok : ∃ kt et, P.underlying t = some (.map kt et) ∧ P.underlying kt = some .string ∧ ∀ w, (zeroValue et).run P w = .ok zv w
theorem Holds.mv {w0 w : World} {F : List Nat} {m r : List HP} {b : Nat} {ks : List (List UInt8 × Value)} (hh : Holds w0 F m w) (hp : Pick m (mv b ks) r) : MapVAt w b ks := by
  obtain ⟨fp, h⟩ := hh.pick hp
  exact h.2
theorem MapVAt.keep {w w' : World} {b : Nat} {ks : List (List UInt8 × Value)} {F : List Nat} (h : MapVAt w b ks) (hk : Keep w F w') (hb : b ∉ F) : MapVAt w' b ks := by
  have hlt : b < w.heap.size := (Array.getElem?_eq_some_iff.1 h).1
  unfold MapVAt at *
  rw [← h]
  exact hk.block b hlt hb
section
variable {P : Program} {K : Cx} {ρ : Env} {m r : List HP} {dst : Option Nat} {ty t t' : TypeId} {pos : String} {aft : Array Edge} {g : Option (Nat × Bool)} {v zv : Value} {x y z : Operand} {ops : Array Oper} {Q : Exit → Act → World → Prop} {rest : List Oper} {d : Nat}
theorem WL_makeMapV (hg : guardB ops g ρ = some true) (hn : (guardN K.N ops g && Nat.blt d K.N) = true) (k : ∀ b, WL P K ops Q rest ((d, .map (some b)) :: ρ) (mv b [] :: m)) :
    WL P K ops Q (⟨some d, .makeMap t none, ty, pos, aft, g⟩ :: rest) ρ m := by
  refine WL_step hg hn fun a w hf hm => ?_
  refine ⟨_, _, w.alloc (.map #[] 0), ?_, ?_, k w.heap.size⟩
  · simp [execOp, run_makeMap_plain, Result.andThen]
  · refine Holds.add (m1 := [Go.Proofs.YtllgkdkjcbohcaaGreatDoor.mv w.heap.size []]) hm ⟨Keep.ofBelow ((Below.refl _ _).alloc (Nat.le_refl _) _), [w.heap.size], ⟨[w.heap.size], [], rfl, ⟨rfl, ?_⟩, rfl, by simp⟩, fun i hi h => ?_⟩
    · show (w.heap.push _)[w.heap.size]? = _
      simp [mvE]
    · have : i = w.heap.size := by simpa using hi
      omega
theorem y_lookupV [S : MapV P t zv] {b : Nat} {ks : List (List UInt8 × Value)} {l : List UInt8} (hx : opv ρ x = some (.map (some b))) (hy : opv ρ y = some (.string ⟨l.toArray⟩)) (hp : ∀ w, Holds K.w0 K.F m w → MapVAt w b ks) :
    Yi P K ρ m ⟨dst, .lookup t x y true, ty, pos, aft, g⟩ (.tuple #[(seekV ks l).getD zv, .bool (seekV ks l).isSome]) := ⟨fun a w hf hw => by
  obtain ⟨kt, et, h1, h2, h3⟩ := S.ok
  have hb := hp w hw
  unfold MapVAt at hb
  have hc : (Instr.checkKey (mvE ks).isEmpty 10000 kt (.string ⟨l.toArray⟩)).run P w = .ok () w := MapKept.run_checkKey (k := .string _) h2 (by simp [MapKept.IsKey]) _ 9999
  have hf' := MapKept.run_findKey (w := w) h2 (findNow_mv l ks 0 0)
  have e : (mvE ks).toList = (ks.zipIdx 0).map mvEnt := by unfold mvE; simp
  rw [← e] at hf'
  simp only [execOp, hf.eval hx, hf.eval hy]
  cases hk : findV l ks 0 with
  | none =>
    rw [hk] at hf'
    simp [Instr.lookup, run_underlying h1, MapKept.run_getObj_map hb, hc, hf', h3, Result.andThen, seekV, hk]
  | some q =>
    rw [hk] at hf'
    simp [Instr.lookup, run_underlying h1, MapKept.run_getObj_map hb, hc, hf', Result.andThen, seekV, hk]⟩
end
end Go.Proofs.YtllgkdkjcbohcaaGreatDoor
namespace Go.Proofs.YtllgkdkjcbohcaaGreatDoor
open Go.RowKit
/-- v is nil or a row of ints of the call's own from block B on, holding xs -/
def OwnI (w : World) (B : Nat) (v : Value) (xs : List Int) : Prop := w.ownsRow B 3 1 v xs.length (xs.map (Value.int .i64)) ∧ ∀ x ∈ xs, I64 x
theorem OwnI.nil (w : World) (B : Nat) : OwnI w B (.slice none 0 0) [] := ⟨⟨by simp, .inl ⟨rfl, rfl⟩⟩, by simp⟩
theorem OwnI.ints {w : World} {B : Nat} {v : Value} {xs : List Int} (h : OwnI w B v xs) : ∃ p cap, v = .slice p xs.length cap ∧ IntsAt w p cap xs ∧ (∀ a, p = some a → B ≤ a.block) := by
  obtain ⟨⟨_, h | ⟨g, cap, cur, hv, hB, hg, hn, hm, hc, ht⟩⟩, hr⟩ := h
  · obtain ⟨rfl, h0⟩ := h
    have : xs = [] := by simpa using h0
    subst this
    exact ⟨none, 0, rfl, IntsAt.nil w, by simp⟩
  · refine ⟨_, cap, hv, ⟨hn, hm, fun _ => rfl, fun i x hx => ?_, hr⟩, by rintro a ⟨⟩; exact hB⟩
    have hi : i < xs.length := (List.getElem?_eq_some_iff.1 hx).1
    have h1 : (cur.toList.take (xs.length * 1))[i]? = some (.int .i64 x) := by rw [ht]; simp [hx]
    rw [List.getElem?_take] at h1
    rw [if_pos (by omega)] at h1
    show World.cell? w ((⟨g, 0, none⟩ : Addr).add i) = _
    have ha : (⟨g, 0, none⟩ : Addr).add i = ⟨g, i, none⟩ := by unfold Addr.add; split <;> simp [*]
    rw [ha]
    simp [World.cell?, hg]
    simpa using h1
theorem OwnI.alloc {w : World} {B : Nat} {v : Value} {xs : List Int} (h : OwnI w B v xs) (o : Obj) : OwnI (w.alloc o) B v xs := ⟨h.1.alloc o, h.2⟩
theorem OwnI.drew {w : World} {B : Nat} {v : Value} {xs : List Int} (h : OwnI w B v xs) : OwnI w.drew B v xs := ⟨h.1.drew, h.2⟩
theorem OwnI.base {w : World} {B : Nat} {v : Value} {xs : List Int} (h : OwnI w B v xs) : ∀ r, v.ownBlock = some r → B ≤ r := by
  intro r hr
  rcases h.1.2 with ⟨rfl, _⟩ | ⟨g, cap, cur, rfl, hB, _⟩
  · simp [Value.ownBlock] at hr
  · simp [Value.ownBlock] at hr; omega
end Go.Proofs.YtllgkdkjcbohcaaGreatDoor
namespace Go.Proofs.YtllgkdkjcbohcaaGreatDoor
open Go.RowKit
/-- the table that Itoa reads -/
abbrev Glob (w : World) : Prop := Lib.TabIs Tryz.prog w "internal/strconv.uint64pow10" .u64 Lib.pow10Tab
theorem gPow : Tryz.prog.globalNamed "internal/strconv.uint64pow10" = some 4 := by kernel_rfl
theorem Glob.lt {w : World} (h : Glob w) : 4 < w.heap.size := cell_lt (h.cell gPow 0 (by decide))
theorem Glob.below {w w' : World} (h : Glob w) (hb : Below w.heap.size w w') : Glob w' := var?_below hb gPow h.lt h
/-- the tables that utf8 reads -/
abbrev Tabs (w : World) : Prop := Lib.Utf8Tabs 1 2 w
theorem cell_below {w w' : World} (hb : Below w.heap.size w w') {a : Addr} {v : Value} (h : w.cell? a = some v) : w'.cell? a = some v := by
  rw [World.cell?_of_block (hb.block _ (cell_lt h))]; exact h
theorem Tabs.below {w w' : World} (h : Tabs w) (hb : Below w.heap.size w w') : Tabs w' :=
  ⟨fun c hc => cell_below hb (h.1 c hc), fun i hi => ⟨cell_below hb (h.2 i hi).1, cell_below hb (h.2 i hi).2⟩⟩
def MaxL (w : World) : Prop := ∃ m, w.cell? ⟨3, 0, none⟩ = some (.int .i64 m)
theorem MaxL.below {w w' : World} (h : MaxL w) (hb : Below w.heap.size w w') : MaxL w' := ⟨h.choose, cell_below hb h.choose_spec⟩
/-- all of it -/
structure GlobA (w : World) : Prop where
  pow : Glob w
  tabs : Tabs w
  maxl : MaxL w
theorem GlobA.below {w w' : World} (h : GlobA w) (hb : Below w.heap.size w w') : GlobA w' := ⟨h.pow.below hb, h.tabs.below hb, h.maxl.below hb⟩
end Go.Proofs.YtllgkdkjcbohcaaGreatDoor
