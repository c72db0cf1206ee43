/-
  Slices of ints that the call itself makes: append of one number, reading back.
  What the library's variables hold: the tables of strconv and unicode/utf8, bytealg's number.
-/
import Derived.Test.YtngeooflfkpikaaGreatDoorProg
import Derived.Test.YtngeooflfkpikaaGreatDoorYRule
import Derived.Test.YtngeooflfkpikaaGreatDoorYShelf
import Derived.Test.YtngeooflfkpikaaGreatDoorYRd
namespace Go.Proofs.YtngeooflfkpikaaGreatDoor
open Go.RowKit
theorem infoInt : (Tryz.prog.info? 3).map (fun i => (i.zero, i.size, i.bytes)) = some (some (.int .i64 0), 1, 8) := by kernel_rfl
/-- v is nil or a row of ints of the call's own from block B on, holding xs -/
def OwnI (w : World) (B : Nat) (v : Value) (xs : List Int) : Prop := w.ownsRow B 3 1 v xs.length (xs.map (Value.int .i64)) ∧ ∀ x ∈ xs, I64 x
theorem OwnI.nil (w : World) (B : Nat) : OwnI w B (.slice none 0 0) [] := ⟨⟨by simp, .inl ⟨rfl, rfl⟩⟩, by simp⟩
theorem OwnI.ints {w : World} {B : Nat} {v : Value} {xs : List Int} (h : OwnI w B v xs) : ∃ p cap, v = .slice p xs.length cap ∧ IntsAt w p cap xs ∧ (∀ a, p = some a → B ≤ a.block) := by
  obtain ⟨⟨_, h | ⟨g, cap, cur, hv, hB, hg, hn, hm, hc, ht⟩⟩, hr⟩ := h
  · obtain ⟨rfl, h0⟩ := h
    have : xs = [] := by simpa using h0
    subst this
    exact ⟨none, 0, rfl, IntsAt.nil w, by simp⟩
  · refine ⟨_, cap, hv, ⟨hn, hm, fun _ => rfl, fun i x hx => ?_, hr⟩, by rintro a ⟨⟩; exact hB⟩
    have hi : i < xs.length := (List.getElem?_eq_some_iff.1 hx).1
    have h1 : (cur.toList.take (xs.length * 1))[i]? = some (.int .i64 x) := by rw [ht]; simp [hx]
    rw [List.getElem?_take] at h1
    rw [if_pos (by omega)] at h1
    show World.cell? w ((⟨g, 0, none⟩ : Addr).add i) = _
    have ha : (⟨g, 0, none⟩ : Addr).add i = ⟨g, i, none⟩ := by unfold Addr.add; split <;> simp [*]
    rw [ha]
    simp [World.cell?, hg]
    simpa using h1
theorem OwnI.alloc {w : World} {B : Nat} {v : Value} {xs : List Int} (h : OwnI w B v xs) (o : Obj) : OwnI (w.alloc o) B v xs := ⟨h.1.alloc o, h.2⟩
theorem OwnI.drew {w : World} {B : Nat} {v : Value} {xs : List Int} (h : OwnI w B v xs) : OwnI w.drew B v xs := ⟨h.1.drew, h.2⟩
theorem OwnI.base {w : World} {B : Nat} {v : Value} {xs : List Int} (h : OwnI w B v xs) : ∀ r, v.ownBlock = some r → B ≤ r := by
  intro r hr
  rcases h.1.2 with ⟨rfl, _⟩ | ⟨g, cap, cur, rfl, hB, _⟩
  · simp [Value.ownBlock] at hr
  · simp [Value.ownBlock] at hr; omega
theorem grownBy_trans {a b c : World} {row : Option Nat} (h : a.grownBy b none) (k : b.grownBy c row) : a.grownBy c row :=
  ⟨k.os.trans h.os, k.tape.trans h.tape, k.output.trans h.output, Nat.le_trans h.size k.size, fun i hi hr => (k.block i (Nat.lt_of_lt_of_le hi h.size) hr).trans (h.block i hi (by simp))⟩
/-- append(out, y): the one-cell block of y has just been made -/
theorem append_i {ops : Array Oper} {rest : List Oper} {o : Oper} {a : Act} {Q : Exit → Act → World → Prop} (hgd : o.guard = none) (s x : Operand)
    (ho : o.op = .call { callee := .builtin .append, args := #[s, x], argTypes := #[42, 42] }) (w : World) (T : TypeId) (y : Int) (hy : I64 y)
    (B : Nat) (v : Value) (xs : List Int) (hs : a.eval s = v) (hown : OwnI w B v xs) (hx : a.eval x = .slice (some ⟨w.heap.size, 0, none⟩) 1 1)
    (hlen : xs.length + 1 ≤ 17592186044416) (hB : B ≤ w.heap.size)
    (h : ∀ v' w', OwnI w' B v' (xs ++ [y]) → w.grownBy w' v.ownBlock → wpList Tryz.prog ops Q rest (a.put o.dst v') w') :
    wpList Tryz.prog ops Q (o :: rest) a (w.alloc (.cells #[.int .i64 y] T)) := by
  obtain ⟨i0, hi, hz0, hz1, hz2⟩ := info_parts infoInt
  refine wpList_append_own _ hgd s x 42 ho B 3 i0 (.int .i64 0) 1 8 Tryz.underlying42 hi hz0 hz1 hz2 rfl (by decide) v xs.length _ hs (hown.1.alloc _) ⟨w.heap.size, 0, none⟩ 1 1 [.int .i64 y] hx rfl ?_ ?_ ?_ ?_ ?_ ?_
  · intro j u hj
    match j, hj with
    | 0, hj => simp at hj; subst hj; simp [Addr.add]
  · intro u hu; simp at hu; subst hu; rfl
  · unfold maxLen; omega
  · omega
  · simp; omega
  · intro v' w' hown' hg _
    refine h v' w' ⟨by simpa using hown', ?_⟩ (grownBy_trans (World.grownBy_alloc w _ none) hg)
    intro z hz
    rcases List.mem_append.1 hz with hz | hz
    · exact hown.2 z hz
    · simp at hz; subst hz; exact hy
end Go.Proofs.YtngeooflfkpikaaGreatDoor
namespace Go.Proofs.YtngeooflfkpikaaGreatDoor
open Go.RowKit
/-- the table that Itoa reads -/
abbrev Glob (w : World) : Prop := Lib.TabIs Tryz.prog w "internal/strconv.uint64pow10" .u64 Lib.pow10Tab
theorem gPow : Tryz.prog.globalNamed "internal/strconv.uint64pow10" = some 4 := by kernel_rfl
theorem Glob.lt {w : World} (h : Glob w) : 4 < w.heap.size := cell_lt (h.cell gPow 0 (by decide))
theorem Glob.below {w w' : World} (h : Glob w) (hb : Below w.heap.size w w') : Glob w' := var?_below hb gPow h.lt h
/-- the tables that utf8 reads -/
abbrev Tabs (w : World) : Prop := Lib.Utf8Tabs 1 2 w
theorem cell_below {w w' : World} (hb : Below w.heap.size w w') {a : Addr} {v : Value} (h : w.cell? a = some v) : w'.cell? a = some v := by
  rw [World.cell?_of_block (hb.block _ (cell_lt h))]; exact h
theorem Tabs.below {w w' : World} (h : Tabs w) (hb : Below w.heap.size w w') : Tabs w' :=
  ⟨fun c hc => cell_below hb (h.1 c hc), fun i hi => ⟨cell_below hb (h.2 i hi).1, cell_below hb (h.2 i hi).2⟩⟩
def MaxL (w : World) : Prop := ∃ m, w.cell? ⟨3, 0, none⟩ = some (.int .i64 m)
theorem MaxL.below {w w' : World} (h : MaxL w) (hb : Below w.heap.size w w') : MaxL w' := ⟨h.choose, cell_below hb h.choose_spec⟩
/-- all of it -/
structure GlobA (w : World) : Prop where
  pow : Glob w
  tabs : Tabs w
  maxl : MaxL w
theorem GlobA.below {w w' : World} (h : GlobA w) (hb : Below w.heap.size w w') : GlobA w' := ⟨h.pow.below hb, h.tabs.below hb, h.maxl.below hb⟩
end Go.Proofs.YtngeooflfkpikaaGreatDoor
