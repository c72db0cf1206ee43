/-
  The logic of walks: memory that only is read: a reader (which cells are known for good), what a call adds to it; calls that may panic. Of no program.
  The logic of walks: more operations: parts of strings, characters as strings, structs compared, fields of struct values, type assertions. Of no program.
-/
import Derived.Test.YtllgkdkjcbohcaaGreatDoorZMem
import Derived.Laws.StructEq
import Derived.Laws.Runes
import Derived.Laws.Strings3
import Derived.Laws.DeepStrings4
import Derived.ChangeKeysEq
namespace Go.Proofs.YtllgkdkjcbohcaaGreatDoor
open Go.RowKit
abbrev Rd := Addr → Option Value
def Rd.le (G G' : Rd) : Prop := ∀ a v, G a = some v → G' a = some v
/-- what G' has more lies in blocks that were not there at w -/
def Rd.grow (w : World) (G G' : Rd) : Prop := Rd.le G G' ∧ ∀ a v, G' a = some v → G a = some v ∨ w.heap.size ≤ a.block
/-- what G says holds at w, and lies in no block of fp -/
def Rd.sub (G : Rd) (fp : List Nat) (w : World) : Prop := ∀ a v, G a = some v → w.cell? a = some v ∧ a.block ∉ fp
theorem Rd.le_refl (G : Rd) : G.le G := fun _ _ h => h
theorem Rd.le_trans {G G' G'' : Rd} (h : G.le G') (k : G'.le G'') : G.le G'' := fun a v e => k a v (h a v e)
theorem Rd.grow_refl (w : World) (G : Rd) : Rd.grow w G G := ⟨fun _ _ h => h, fun _ _ h => .inl h⟩
theorem Rd.grow_trans {w w' : World} {G G' G'' : Rd} (hs : w.heap.size ≤ w'.heap.size) (h : Rd.grow w G G') (k : Rd.grow w' G' G'') : Rd.grow w G G'' :=
  ⟨fun a v e => k.1 a v (h.1 a v e), fun a v e => (k.2 a v e).elim (h.2 a v) (fun hl => .inr (Nat.le_trans hs hl))⟩
theorem Rd.grow_tr {w : World} {G G' G'' : Rd} (h : Rd.grow w G G') (k : Rd.grow w G' G'') : Rd.grow w G G'' := Rd.grow_trans (Nat.le_refl _) h k
theorem Rd.grow_up {w w' : World} {G G' : Rd} (hs : w.heap.size ≤ w'.heap.size) (k : Rd.grow w' G G') : Rd.grow w G G' := Rd.grow_trans hs (Rd.grow_refl w G) k
theorem cell_lt {w : World} {a : Addr} {v : Value} (h : w.cell? a = some v) : a.block < w.heap.size := by
  unfold World.cell? at h
  rcases Nat.lt_or_ge a.block w.heap.size with h' | h'
  · exact h'
  · rw [Array.getElem?_eq_none h'] at h; simp at h
theorem Rd.sub_cell (w : World) : Rd.sub w.cell? [] w := fun _ _ h => ⟨h, by simp⟩
/-- memory that only is read: old blocks that stay, and new ones -/
def ro (w0 : World) (F : List Nat) (G : Rd) : HP where
  p w fp := (∀ i ∈ fp, i < w.heap.size) ∧ ∀ a v, G a = some v → (a.block ∈ fp ∧ w.cell? a = some v) ∨ (a.block < w0.heap.size ∧ a.block ∉ F ∧ w0.cell? a = some v)
  st w w' fp h := by
    rintro ⟨h1, h2⟩
    refine ⟨fun i hi => ?_, fun a v e => (h2 a v e).imp (fun ⟨hb, hc⟩ => ⟨hb, ?_⟩) id⟩
    · have := h i hi
      rw [Array.getElem?_eq_getElem (h1 i hi)] at this
      exact (Array.getElem?_eq_some_iff.1 this).1
    · rw [World.cell?_of_block (h _ hb)]; exact hc
  lt w fp h := h.1
theorem Holds.rd {w0 w : World} {F : List Nat} {m r : List HP} {G : Rd} (hh : Holds w0 F m w) (hp : Pick m (ro w0 F G) r) {a : Addr} {v : Value} (h : G a = some v) : w.cell? a = some v := by
  obtain ⟨fp, h1, h2⟩ := hh.pick hp
  rcases h2 a v h with ⟨_, hc⟩ | ⟨hb, hF, hc⟩
  · exact hc
  · rw [World.cell?_of_block (hh.keep.block _ hb hF)]; exact hc
theorem Holds.le {w0 w : World} {F : List Nat} {m r : List HP} {G : Rd} (hh : Holds w0 F m w) (hp : Pick m (ro w0 F G) r) : Rd.le G w.cell? := fun _ _ h => hh.rd hp h
theorem Own.split : ∀ {m1 r : List HP} {f : List Nat} {w : World}, Own (m1 ++ r) f w → ∃ f1 f2, f = f1 ++ f2 ∧ Own m1 f1 w ∧ Own r f2 w ∧ ∀ i ∈ f1, i ∉ f2
  | [], r, f, w, h => ⟨[], f, rfl, rfl, h, by simp⟩
  | x :: m1, r, f, w, h => by
    obtain ⟨a, b, rfl, ha, hb, hd⟩ := h
    obtain ⟨b1, b2, rfl, h1, h2, hd2⟩ := Own.split hb
    refine ⟨a ++ b1, b2, by simp, ⟨a, b1, rfl, ha, h1, fun i hi h => hd i hi (List.mem_append.2 (.inl h))⟩, h2, fun i hi h => ?_⟩
    rcases List.mem_append.1 hi with hi | hi
    · exact hd i hi (List.mem_append.2 (.inr h))
    · exact hd2 i hi h
/-- what a call with some of the things may do, seen from around it -/
theorem Holds.callR {w0 w : World} {F : List Nat} {G : Rd} {m1 r : List HP} (hh : Holds w0 F (ro w0 F G :: (m1 ++ r)) w) :
    ∃ f1, Own m1 f1 w ∧ Rd.sub G f1 w ∧ (∀ i ∈ f1, i < w0.heap.size → i ∈ F) ∧ ∀ G' M w', Rd.grow w G G' → Holds w f1 (ro w f1 G' :: M) w' → Holds w0 F (ro w0 F G' :: (M ++ r)) w' := by
  obtain ⟨fp, ⟨fG, f12, rfl, hG, ho, hd⟩, hF⟩ := hh.own
  obtain ⟨f1, f2, rfl, h1, h2, hd2⟩ := Own.split ho
  have hlt1 := h1.lt
  have hlt2 := h2.lt
  refine ⟨f1, h1, fun a v e => ?_, fun i hi h0 => hF i (by simp [hi]) h0, fun G' M w' hg hw' => ?_⟩
  · refine ⟨hh.rd .here e, fun hm => ?_⟩
    rcases hG.2 a v e with ⟨hb, _⟩ | ⟨hb, hnF, _⟩
    · exact hd _ hb (List.mem_append.2 (.inl hm))
    · exact hnF (hF _ (by simp [hm]) hb)
  · obtain ⟨fp', ⟨gG, gM, rfl, hgG, hgM, hdd⟩, hF'⟩ := hw'.own
    have kk := hw'.keep
    have hsz : w0.heap.size ≤ w.heap.size := hh.keep.size
    have kG : ∀ i ∈ fG, w'.heap[i]? = w.heap[i]? := fun i hi => kk.block i (hG.1 i hi) (fun h => hd i hi (List.mem_append.2 (.inl h)))
    have k2 : ∀ i ∈ f2, w'.heap[i]? = w.heap[i]? := fun i hi => kk.block i (hlt2 i hi) (fun h => hd2 i h hi)
    have hlg : ∀ i ∈ gG ++ gM, i < w.heap.size → i ∈ f1 := hF'
    refine ⟨⟨kk.os.trans hh.keep.os, kk.tape.trans hh.keep.tape, kk.output.trans hh.keep.output, Nat.le_trans hsz kk.size, fun i hi hnF => ?_⟩, (fG ++ gG) ++ (gM ++ f2), ⟨fG ++ gG, gM ++ f2, rfl, ⟨?_, ?_⟩, Own.app hgM (h2.keep k2) ?_, ?_⟩, ?_⟩
    · rw [kk.block i (Nat.lt_of_lt_of_le hi hsz) (fun h => hnF (hF i (by simp [h]) hi))]
      exact hh.keep.block i hi hnF
    · intro i hi
      rcases List.mem_append.1 hi with hi | hi
      · exact Nat.lt_of_lt_of_le (hG.1 i hi) kk.size
      · exact hgG.1 i hi
    · intro a v e
      rcases hgG.2 a v e with ⟨hb, hc⟩ | ⟨hb, hn1, hc⟩
      · exact .inl ⟨List.mem_append.2 (.inr hb), hc⟩
      · rcases hg.2 a v e with e0 | hl
        · rcases hG.2 a v e0 with ⟨hb0, hc0⟩ | h0
          · exact .inl ⟨List.mem_append.2 (.inl hb0), by rw [World.cell?_of_block (kG _ hb0)]; exact hc0⟩
          · exact .inr h0
        · omega
    · intro i hi h
      exact hd2 i (hlg i (List.mem_append.2 (.inr hi)) (hlt2 i h)) h
    · intro i hi h
      rcases List.mem_append.1 hi with hi | hi
      · rcases List.mem_append.1 h with h | h
        · exact hd i hi (List.mem_append.2 (.inl (hlg i (List.mem_append.2 (.inr h)) (hG.1 i hi))))
        · exact hd i hi (List.mem_append.2 (.inr h))
      · rcases List.mem_append.1 h with h | h
        · exact hdd i hi h
        · exact hd2 i (hlg i (List.mem_append.2 (.inl hi)) (hlt2 i h)) h
    · intro i hi h0
      have hw0 : i < w.heap.size := Nat.lt_of_lt_of_le h0 hsz
      rcases List.mem_append.1 hi with hi | hi
      · rcases List.mem_append.1 hi with hi | hi
        · exact hF i (by simp [hi]) h0
        · exact hF i (by simp [hlg i (List.mem_append.2 (.inl hi)) hw0]) h0
      · rcases List.mem_append.1 hi with hi | hi
        · exact hF i (by simp [hlg i (List.mem_append.2 (.inr hi)) hw0]) h0
        · exact hF i (by simp [hi]) h0
/-- whatever is owned may be read only from here on: a thing h of which w's cells in its blocks are known -/
theorem Holds.freeze {w0 w : World} {F : List Nat} {G : Rd} {h : HP} {r : List HP} (hh : Holds w0 F (ro w0 F G :: h :: r) w) (hF0 : ∀ fp, h.p w fp → ∀ i ∈ fp, w0.heap.size ≤ i) :
    ∃ fp, h.p w fp ∧ (∀ i ∈ fp, w0.heap.size ≤ i ∧ i < w.heap.size) ∧ (∀ a v, G a = some v → a.block ∉ fp) ∧ ∀ G', (∀ a v, G' a = some v → G a = some v ∨ (a.block ∈ fp ∧ w.cell? a = some v)) → Holds w0 F (ro w0 F G' :: r) w := by
  obtain ⟨fp, ⟨fG, f12, rfl, hG, ⟨f1, f2, rfl, h1, h2, hd2⟩, hd⟩, hF⟩ := hh.own
  refine ⟨f1, h1, fun i hi => ⟨hF0 f1 h1 i hi, h.lt w f1 h1 i hi⟩, fun a v e hm => ?_, fun G' hG' => ⟨hh.keep, (fG ++ f1) ++ f2, ⟨fG ++ f1, f2, rfl, ⟨fun i hi => ?_, fun a v e => ?_⟩, h2, fun i hi h => ?_⟩, fun i hi h0 => ?_⟩⟩
  · rcases hG.2 a v e with ⟨hb, _⟩ | ⟨hb, _, _⟩
    · exact hd _ hb (List.mem_append.2 (.inl hm))
    · have := hF0 f1 h1 _ hm; omega
  · rcases List.mem_append.1 hi with hi | hi
    · exact hG.1 i hi
    · exact h.lt w f1 h1 i hi
  · rcases hG' a v e with e0 | ⟨hb, hc⟩
    · exact (hG.2 a v e0).imp (fun ⟨x, y⟩ => ⟨List.mem_append.2 (.inl x), y⟩) id
    · exact .inl ⟨List.mem_append.2 (.inr hb), hc⟩
  · rcases List.mem_append.1 hi with hi | hi
    · exact hd i hi (List.mem_append.2 (.inr h))
    · exact hd2 i hi h
  · refine hF i ?_ h0
    rcases List.mem_append.1 hi with hi | hi
    · rcases List.mem_append.1 hi with hi | hi <;> simp [hi]
    · simp [hi]
/-- a reader that knows all old blocks that stay -/
def Rd.base (w : World) (F : List Nat) : Rd := fun a => if a.block ∈ F then none else w.cell? a
/-! ## a slice that is read -/
/-- xs, each in sz cells by enc, from p on (of c) -/
structure Row {α : Type} (enc : α → List Value) (sz : Nat) (G : Rd) (p : Option Addr) (c : Nat) (xs : List α) : Prop where
  le : xs.length ≤ c
  max : c ≤ maxLen
  some' : xs ≠ [] → p.isSome = true
  cell : ∀ (i : Nat) (x : α), xs[i]? = some x → ∀ (j : Nat) (v : Value), (enc x)[j]? = some v → G ((addrAt p (i * sz)).add j) = some v
theorem Row.mono {α : Type} {enc : α → List Value} {sz : Nat} {G G' : Rd} {p : Option Addr} {c : Nat} {xs : List α} (h : Row enc sz G p c xs) (hl : Rd.le G G') : Row enc sz G' p c xs :=
  ⟨h.le, h.max, h.some', fun i x hx j v hv => hl _ _ (h.cell i x hx j v hv)⟩
theorem Row.nil {α : Type} (enc : α → List Value) (sz : Nat) (G : Rd) : Row enc sz G none 0 ([] : List α) := ⟨Nat.le_refl _, by unfold maxLen; omega, fun h => absurd rfl h, fun i x hx => by simp at hx⟩
theorem Row.some_lt {α : Type} {enc : α → List Value} {sz : Nat} {G : Rd} {p : Option Addr} {c i : Nat} {xs : List α} (h : Row enc sz G p c xs) (hi : i < xs.length) : p.isSome = true := h.some' (by intro e; subst e; simp at hi)
theorem Row.len {α : Type} {enc : α → List Value} {sz : Nat} {G : Rd} {p : Option Addr} {c : Nat} {xs : List α} (h : Row enc sz G p c xs) : xs.length ≤ 9223372036854775807 := by
  have := h.le; have h2 := h.max; unfold maxLen at h2; omega
/-- ints in a reader -/
structure IntsR (G : Rd) (p : Option Addr) (c : Nat) (xs : List Int) : Prop where
  le : xs.length ≤ c
  max : c ≤ maxLen
  some' : xs ≠ [] → p.isSome = true
  cell : ∀ (i : Nat) (x : Int), xs[i]? = some x → G (addrAt p i) = some (.int .i64 x)
  rng : ∀ x ∈ xs, I64 x
theorem IntsR.mono {G G' : Rd} {p : Option Addr} {c : Nat} {xs : List Int} (h : IntsR G p c xs) (hl : Rd.le G G') : IntsR G' p c xs := ⟨h.le, h.max, h.some', fun i x hx => hl _ _ (h.cell i x hx), h.rng⟩
theorem IntsR.at {w : World} {p : Option Addr} {c : Nat} {xs : List Int} (h : IntsR w.cell? p c xs) : IntsAt w p c xs := ⟨h.le, h.max, h.some', h.cell, h.rng⟩
theorem IntsR.of {w : World} {p : Option Addr} {c : Nat} {xs : List Int} (h : IntsAt w p c xs) : IntsR w.cell? p c xs := ⟨h.le, h.max, h.some', h.cell, h.rng⟩
theorem IntsR.nil (G : Rd) : IntsR G none 0 [] := ⟨Nat.le_refl _, by unfold maxLen; omega, fun h => absurd rfl h, fun i x hx => by simp at hx, fun x hx => by cases hx⟩
section ops
variable {P : Program} {K : Cx} {ρ : Env} {m r : List HP} {dst : Option Nat} {ty t t' : TypeId} {pos : String} {aft : Array Edge} {g : Option (Nat × Bool)} {v : Value} {x y z : Operand} {ops : Array Oper} {Q : Exit → Act → World → Prop} {rest : List Oper} {d : Nat} {G : Rd}
theorem rd_G {a : Addr} {cs : List Value} (hp : Pick m (ro K.w0 K.F G) r) (h : ∀ j v, cs[j]? = some v → G (a.add j) = some v) : RdC K m a cs := fun _ hw j v hv => hw.rd hp (h j v hv)
theorem rd_row {α : Type} {enc : α → List Value} {sz c i : Nat} {p : Option Addr} {xs : List α} {u : α} (hR : Row enc sz G p c xs) (hp : Pick m (ro K.w0 K.F G) r) (hu : xs[i]? = some u) : RdC K m (addrAt p (i * sz)) (enc u) := rd_G hp fun j v hv => hR.cell i u hu j v hv
/-- an element's field -/
theorem rd_rowF {α : Type} {enc : α → List Value} {sz c i j : Nat} {p : Option Addr} {xs : List α} {u : α} (hR : Row enc sz G p c xs) (hp : Pick m (ro K.w0 K.F G) r) (hu : xs[i]? = some u) (hv : (enc u)[j]? = some v) : RdC K m ((addrAt p (i * sz)).add j) [v] := rd_G hp fun k y hy => by
  have hk : k = 0 := by have := (List.getElem?_eq_some_iff.1 hy).1; simp at this; omega
  subst hk
  rw [add_zero]
  simp at hy; subst hy
  exact hR.cell i u hu j _ hv
theorem rd_intsR {c i : Nat} {p : Option Addr} {xs : List Int} (h : IntsR G p c xs) (hp : Pick m (ro K.w0 K.F G) r) (hi : i < xs.length) : RdC K m (addrAt p i) [.int .i64 (xs.getD i 0)] := rd_G hp fun k y hy => by
  have hk : k = 0 := by have := (List.getElem?_eq_some_iff.1 hy).1; simp at this; omega
  subst hk
  rw [add_zero]
  simp at hy; subst hy
  exact h.cell i _ (by rw [List.getElem?_eq_getElem hi]; simp)
/-! ## calls in a reader; calls that may panic -/
theorem WL_callG {f : FuncId} [S : FnT P f] {xs : List Operand} {ats : Array TypeId} {vs : List Value} {m1 : List HP} (e : Ent m (ro K.w0 K.F G :: (m1 ++ r))) (hx : opvs ρ xs = some vs) (hg : guardB ops g ρ = some true)
    (hn : (guardN K.N ops g && Nat.blt d K.N) = true) {X : Type} {V : X → Value} {Gx : X → Rd} {M : X → List HP} {I : X → Prop}
    (hc : ∀ w fp, Holds K.w0 K.F (ro K.w0 K.F G :: (m1 ++ r)) w → Own m1 fp w → Rd.sub G fp w → (∀ i ∈ fp, i < K.w0.heap.size → i ∈ K.F) → Calls P f vs.toArray w fun e w' => ∃ x, I x ∧ e = .returned (V x) ∧ Rd.grow w G (Gx x) ∧ Holds w fp (ro w fp (Gx x) :: M x) w')
    (k : ∀ x, I x → Rd.grow K.w0 G (Gx x) → WL P K ops Q rest ((d, V x) :: ρ) (ro K.w0 K.F (Gx x) :: (M x ++ r))) : WL P K ops Q (⟨some d, .call ⟨.value (.func f), xs.toArray, ats⟩, ty, pos, aft, g⟩ :: rest) ρ m := by
  refine ⟨fun a w hf hm => ?_⟩
  simp only [Bool.and_eq_true] at hn
  unfold wpList
  rw [if_pos (guard_wanted hf hg (guardN_spec hn.1))]
  refine .inl ?_
  unfold Oper.wp
  rw [run_enter hf hx, Oper.upon_enter]
  have hm' := hm.ent e
  obtain ⟨fp, h1, h2, h3, hsp⟩ := hm'.callR
  refine (hc w fp hm' h1 h2 h3).mono fun e w' hr => ?_
  obtain ⟨z, hz, rfl, hgr, hh⟩ := hr
  exact (k z hz (Rd.grow_up hm'.size hgr)).run _ _ (hf.put (blt_lt hn.2) _) (hsp _ _ _ hgr hh)
theorem WL_callGP {f : FuncId} [S : FnT P f] {xs : List Operand} {ats : Array TypeId} {vs : List Value} {m1 : List HP} (e : Ent m (ro K.w0 K.F G :: (m1 ++ r))) (hx : opvs ρ xs = some vs) (hg : guardB ops g ρ = some true)
    (hn : (guardN K.N ops g && Nat.blt d K.N) = true) {X Y : Type} {V : X → Value} {Gx : X → Rd} {M : X → List HP} {I : X → Prop} {C : Y → List PanicEntry} {Gy : Y → Rd} {MP : Y → List HP} {J : Y → Prop}
    (hc : ∀ w fp, Holds K.w0 K.F (ro K.w0 K.F G :: (m1 ++ r)) w → Own m1 fp w → Rd.sub G fp w → (∀ i ∈ fp, i < K.w0.heap.size → i ∈ K.F) → Calls P f vs.toArray w fun e w' => (∃ x, I x ∧ e = .returned (V x) ∧ Rd.grow w G (Gx x) ∧ Holds w fp (ro w fp (Gx x) :: M x) w') ∨ (∃ y, J y ∧ e = .panicked (C y) ∧ Rd.grow w G (Gy y) ∧ Holds w fp (ro w fp (Gy y) :: MP y) w'))
    (k : ∀ x, I x → Rd.grow K.w0 G (Gx x) → WL P K ops Q rest ((d, V x) :: ρ) (ro K.w0 K.F (Gx x) :: (M x ++ r)))
    (kp : ∀ y, J y → Rd.grow K.w0 G (Gy y) → EX K Q (.panic (C y)) ρ (ro K.w0 K.F (Gy y) :: (MP y ++ r))) : WL P K ops Q (⟨some d, .call ⟨.value (.func f), xs.toArray, ats⟩, ty, pos, aft, g⟩ :: rest) ρ m := by
  refine ⟨fun a w hf hm => ?_⟩
  simp only [Bool.and_eq_true] at hn
  unfold wpList
  rw [if_pos (guard_wanted hf hg (guardN_spec hn.1))]
  refine .inl ?_
  unfold Oper.wp
  rw [run_enter hf hx, Oper.upon_enter]
  have hm' := hm.ent e
  obtain ⟨fp, h1, h2, h3, hsp⟩ := hm'.callR
  refine (hc w fp hm' h1 h2 h3).mono fun e w' hr => ?_
  rcases hr with ⟨z, hz, rfl, hgr, hh⟩ | ⟨z, hz, rfl, hgr, hh⟩
  · exact (k z hz (Rd.grow_up hm'.size hgr)).run _ _ (hf.put (blt_lt hn.2) _) (hsp _ _ _ hgr hh)
  · exact (kp z hz (Rd.grow_up hm'.size hgr)).run _ _ hf (hsp _ _ _ hgr hh)
/-- into a function that reads -/
theorem enterR {f : FuncId} {fn : Func} {c : Code} {args : List Value} {w : World} {F : List Nat} {R : Ending → World → Prop} {N : Nat} {m : List HP} (hs : Rd.sub G F w) (hm : Own m F w) (hf : P.funcs[f]? = some fn) (hb : fn.body = some c) (hN : fn.ntmps = N) (hl : args.length ≤ N)
    (h : CW P ⟨N, [], w, F⟩ (QBody P fn R) c (argEnv 0 args) (ro w F G :: m)) : Calls P f args.toArray w R :=
  enter (m := ro w F G :: m) (F := F) hf hb hN hl ⟨[], F, rfl, ⟨by simp, fun a v e => .inr ⟨cell_lt (hs a v e).1, (hs a v e).2, (hs a v e).1⟩⟩, hm, by simp⟩ h
/-! ## panics go out -/
theorem EX_seq_panic {y : Code} {ch : List PanicEntry} (h : EX K Q (.panic ch) ρ m) : EX K (QSeq P y Q) (.panic ch) ρ m := ⟨h.run⟩
theorem EX_blk_panic {id : Nat} {ch : List PanicEntry} (h : EX K Q (.panic ch) ρ m) : EX K (QBlk id Q) (.panic ch) ρ m := ⟨h.run⟩
theorem EX_mid_panic {X : Type} {R : X → Env} {M : X → List HP} {I : X → Prop} {ch : List PanicEntry} (h : EX K Q (.panic ch) ρ m) : EX K (QMid K R M I Q) (.panic ch) ρ m := ⟨h.run⟩
theorem EX_loop_panic {X : Type} {R : X → Env} {M : X → List HP} {I : X → Prop} {μ : X → Nat} {x : X} {ch : List PanicEntry} (h : EX K Q (.panic ch) ρ m) : EX K (QLoop K R M I μ x Q) (.panic ch) ρ m := ⟨h.run⟩
theorem EX_body_panic {fn : Func} {R : Ending → World → Prop} {ch : List PanicEntry} (hD : K.D = []) (h : ∀ w, Holds K.w0 K.F m w → R (.panicked ch) w) : EX K (QBody P fn R) (.panic ch) ρ m := ⟨fun _ w hf hm => ⟨hf.defs.trans hD, h w hm⟩⟩
theorem WL_panic {T : TypeId} {u : Value} (hx : opv ρ x = some (.iface T u)) (hg : guardB ops g ρ = some true) (hn : guardN K.N ops g = true) (h : EX K Q (.panic [{ v := .iface T u, recovered := false }]) ρ m) : WL P K ops Q (⟨dst, .panic x, ty, pos, aft, g⟩ :: rest) ρ m := by
  refine ⟨fun a w hf hm => ?_⟩
  unfold wpList
  rw [if_pos (guard_wanted hf hg (guardN_spec hn))]
  refine .inl ?_
  have h1 : (execOp a.eval ⟨dst, .panic x, ty, pos, aft, g⟩).run P w = .halt (.panic (.iface T u)) w := by
    simp only [execOp, hf.eval hx]
    simp [Instr.panic, go_sem]
  unfold Oper.wp
  rw [h1, Oper.upon_panic]
  exact h.run _ _ hf hm
end ops
end Go.Proofs.YtllgkdkjcbohcaaGreatDoor
namespace Go.Proofs.YtllgkdkjcbohcaaGreatDoor
open Go.RowKit
theorem drop_cons {α : Type} {l : List α} {k : Nat} {x : α} (h : l[k]? = some x) : l.drop k = x :: l.drop (k + 1) := by
  obtain ⟨hk, rfl⟩ := List.getElem?_eq_some_iff.1 h
  exact (List.drop_eq_getElem_cons hk)
theorem get_some {α : Type} {l : List α} {k : Nat} (h : k < l.length) (d : α) : l[k]? = some (l.getD k d) := by rw [List.getElem?_eq_getElem h]; simp [h]
theorem bytes_extract (l : List UInt8) (a b : Nat) : (⟨l.toArray⟩ : ByteArray).extract a b = ⟨((l.take b).drop a).toArray⟩ := by
  apply ByteArray.ext
  rw [ByteArray.data_extract]
  apply Array.toList_inj.1
  simp [List.drop_take]
/-- a type's zero -/
class ZV (P : Program) (t : TypeId) (zv : outParam Value) : Prop where
  zero : ∀ w, (zeroValue t).run P w = .ok zv w
/-- how a field of a struct is compared -/
inductive FK
  | i | s | b
def fkOf (P : Program) (t : TypeId) : Option FK := match P.underlying t with
  | some (.int _) => some .i
  | some .string => some .s
  | some .bool => some .b
  | _ => none
def flatK (P : Program) : List Field → Nat → Option (List FK)
  | [], _ => some []
  | f :: r, n => if f.offset = n ∧ f.name ≠ "_" then match fkOf P f.type, flatK P r (n + 1) with
      | some k, some ks => some (k :: ks)
      | _, _ => none
    else none
def cellE : FK → Value → Value → Option Bool
  | .i, .int k a, .int k' b => if k = k' then some (decide (a = b)) else none
  | .s, .string a, .string b => some (decide (a.data.toList = b.data.toList))
  | .b, .bool a, .bool b => some (decide (a = b))
  | _, _, _ => none
def cellsE : List FK → List Value → List Value → Option Bool
  | [], _, _ => some true
  | k :: ks, x :: xs, y :: ys => match cellE k x y, cellsE ks xs ys with
    | some b, some c => some (b && c)
    | _, _ => none
  | _, _, _ => none
/-- a struct whose fields are numbers, strings and truths -/
class EqT (P : Program) (t : TypeId) (ks : outParam (List FK)) : Prop where
  und : P.underlying t = some (.struct (P.fieldsOf t))
  held : P.stoodInHeld t = false
  guard : P.eqGuardType P.depth t = false
  flat : flatK P (P.fieldsOf t).toList 0 = some ks
theorem run_cellE {P : Program} (w : World) (d : Nat) {t : TypeId} {k : FK} (h : fkOf P t = some k) {x y : Value} {b : Bool} (hb : cellE k x y = some b) : (Op.equalIn (d + 1) t x y).run P w = .ok b w := by
  unfold fkOf at h
  cases hu : P.underlying t with
  | none => rw [hu] at h; cases h
  | some D =>
    rw [hu] at h
    cases k with
    | i =>
      cases D <;> simp at h
      cases x <;> simp [cellE] at hb
      cases y <;> simp at hb
      obtain ⟨rfl, rfl⟩ := hb
      rw [run_equalIn_int w d t _ _ _ _ hu, ibeq]
    | s =>
      cases D <;> simp at h
      cases x <;> simp [cellE] at hb
      cases y <;> simp at hb
      subst hb
      rw [run_equalIn_string w d t _ _ hu, ByteArray.toList_eq, ByteArray.toList_eq, lbeq]
      congr 1
      rw [decide_eq_decide]
      exact Array.toList_inj
    | b =>
      cases D <;> simp at h
      cases x <;> simp [cellE] at hb
      cases y <;> simp at hb
      subst hb
      rw [run_equalIn_bool' w d t _ _ hu, bbeq]
theorem part_fk {P : Program} {t : TypeId} {k : FK} (h : fkOf P t = some k) {xs : Array Value} {n : Nat} {v : Value} (hv : xs[n]? = some v) (w : World) : (part t xs n).run P w = .ok v w := by
  refine run_part_plain (P := P) w ?_ hv
  unfold fkOf at h
  unfold Program.plainKey
  split at h <;> simp_all
theorem run_flat {P : Program} (w : World) (d : Nat) (xs ys : Array Value) : ∀ (fs : List Field) (n : Nat) (ks : List FK) (b : Bool), flatK P fs n = some ks → cellsE ks (xs.toList.drop n) (ys.toList.drop n) = some b →
    (Op.eqFields (d + 1) xs ys fs).run P w = .ok b w
  | [], n, ks, b, h, hb => by
    simp only [flatK, Option.some.injEq] at h
    subst h
    simp only [cellsE, Option.some.injEq] at hb
    subst hb
    simp [Op.eqFields]
  | f :: fs, n, ks, b, h, hb => by
    unfold flatK at h
    split at h
    · rename_i hc
      cases hk : fkOf P f.type with
      | none => rw [hk] at h; cases h
      | some k =>
        cases hr : flatK P fs (n + 1) with
        | none => rw [hk, hr] at h; cases h
        | some ks' =>
          rw [hk, hr] at h
          simp only [Option.some.injEq] at h
          subst h
          cases hx : xs.toList.drop n with
          | nil => rw [hx] at hb; cases hys : ys.toList.drop n <;> rw [hys] at hb <;> simp [cellsE] at hb
          | cons x xs' =>
            cases hy : ys.toList.drop n with
            | nil => rw [hx, hy] at hb; simp [cellsE] at hb
            | cons y ys' =>
              rw [hx, hy] at hb
              unfold cellsE at hb
              cases he : cellE k x y with
              | none => rw [he] at hb; cases hb
              | some b1 =>
                cases hes : cellsE ks' xs' ys' with
                | none => rw [he, hes] at hb; cases hb
                | some b2 =>
                  rw [he, hes] at hb
                  simp only [Option.some.injEq] at hb
                  have hx0 : xs[n]? = some x := by
                    have := congrArg (·[0]?) hx
                    simpa using this
                  have hy0 : ys[n]? = some y := by
                    have := congrArg (·[0]?) hy
                    simpa using this
                  have hxs : xs.toList.drop (n + 1) = xs' := by rw [← List.drop_drop, hx]; rfl
                  have hys : ys.toList.drop (n + 1) = ys' := by rw [← List.drop_drop, hy]; rfl
                  have ih := run_flat w d xs ys fs (n + 1) ks' b2 hr (by rw [hxs, hys]; exact hes)
                  rw [Op.eqFields, if_pos hc.2, hc.1]
                  simp only [Sem.run_bind, part_fk hk hx0, part_fk hk hy0, Result.andThen_ok, run_cellE w d hk he]
                  cases b1
                  · simp at hb; subst hb; simp
                  · simp at hb; subst hb; simpa using ih
    · cases h
section ops
variable {P : Program} {K : Cx} {ρ : Env} {m r : List HP} {dst : Option Nat} {ty t t' : TypeId} {pos : String} {aft : Array Edge} {g : Option (Nat × Bool)} {v : Value} {x y z : Operand} {ops : Array Oper} {Q : Exit → Act → World → Prop} {rest : List Oper} {d : Nat} {G : Rd}
theorem y_eqS {ks : List FK} [S : EqT P t ks] {xs ys : List Value} {b : Bool} (hx : opv ρ x = some (.agg xs.toArray)) (hy : opv ρ y = some (.agg ys.toArray)) (hb : cellsE ks xs ys = some b) : Yi P K ρ m ⟨dst, .binOp .eql t x y t', ty, pos, aft, g⟩ (.bool b) := ⟨fun a w hf _ => by
  have h1 := run_flat w 9998 xs.toArray ys.toArray (P.fieldsOf t).toList 0 ks b S.flat (by simpa using hb)
  have h2 := run_equalIn_agg (P := P) w 9999 t xs.toArray ys.toArray S.und S.held
  rw [h1] at h2
  simp only [execOp, hf.eval hx, hf.eval hy]
  simp only [Sem.run_bind, run_eqGuard_agg (P := P) w _ t x y xs.toArray ys.toArray S.guard, Result.andThen_ok, run_eql_struct, h2]
  simp⟩
theorem y_neS {ks : List FK} [S : EqT P t ks] {xs ys : List Value} {b : Bool} (hx : opv ρ x = some (.agg xs.toArray)) (hy : opv ρ y = some (.agg ys.toArray)) (hb : cellsE ks xs ys = some b) : Yi P K ρ m ⟨dst, .binOp .neq t x y t', ty, pos, aft, g⟩ (.bool (!b)) := ⟨fun a w hf _ => by
  have h1 := run_flat w 9998 xs.toArray ys.toArray (P.fieldsOf t).toList 0 ks b S.flat (by simpa using hb)
  have h2 := run_equalIn_agg (P := P) w 9999 t xs.toArray ys.toArray S.und S.held
  rw [h1] at h2
  simp only [execOp, hf.eval hx, hf.eval hy]
  simp only [Sem.run_bind, run_eqGuard_agg (P := P) w _ t x y xs.toArray ys.toArray S.guard, Result.andThen_ok, run_neq_struct, h2]
  simp⟩
/-! ## parts of strings -/
theorem y_strFI [S : StrT P t] {l : List UInt8} {k : IntKind} {i : Int} (hx : opv ρ x = some (.string ⟨l.toArray⟩)) (hy : opv ρ y = some (.int k i)) (hi : 0 ≤ i ∧ i ≤ l.length) : Yi P K ρ m ⟨dst, .slice t x (some y) none none, ty, pos, aft, g⟩ (.string ⟨(l.drop i.toNat).toArray⟩) := ⟨fun a w hf _ => by
  have h3 := run_slice_string_from_if (P := P) w t ⟨l.toArray⟩ k i S.und
  rw [if_pos ⟨hi.1, by simpa [ByteArray.size] using hi.2⟩, bytes_extract] at h3
  have h4 : l.take (ByteArray.size ⟨l.toArray⟩) = l := List.take_of_length_le (by simp [ByteArray.size])
  rw [h4] at h3
  simp only [execOp, Option.map_some, Option.map_none, hf.eval hx, hf.eval hy]
  simp [Instr.sliceAt, run_underlying S.und, h3]⟩
theorem y_strF {l : List UInt8} [S : StrT P t] {k : IntKind} {i : Nat} (hx : opv ρ x = some (.string ⟨l.toArray⟩)) (hy : opv ρ y = some (.int k (i : Int))) (hi : i ≤ l.length) : Yi P K ρ m ⟨dst, .slice t x (some y) none none, ty, pos, aft, g⟩ (.string ⟨(l.drop i).toArray⟩) := by
  have := y_strFI (P := P) (K := K) (m := m) (t := t) (dst := dst) (ty := ty) (pos := pos) (aft := aft) (g := g) hx hy ⟨by omega, by omega⟩
  rwa [Int.toNat_natCast] at this
theorem y_strLI [S : StrT P t] {l : List UInt8} {k k' : IntKind} {i j : Int} (hx : opv ρ x = some (.string ⟨l.toArray⟩)) (hy : opv ρ y = some (.int k i)) (hz : opv ρ z = some (.int k' j)) (hi : 0 ≤ i ∧ i ≤ j ∧ j ≤ l.length) : Yi P K ρ m ⟨dst, .slice t x (some y) (some z) none, ty, pos, aft, g⟩ (.string ⟨((l.take j.toNat).drop i.toNat).toArray⟩) := ⟨fun a w hf _ => by
  have h1 : (0 ≤ j ∧ j ≤ (ByteArray.size ⟨l.toArray⟩ : Nat)) := ⟨by omega, by simpa [ByteArray.size] using hi.2.2⟩
  have h2 : 0 ≤ i ∧ i ≤ j := ⟨hi.1, hi.2.1⟩
  have h3 := run_slice_string_if (P := P) w t ⟨l.toArray⟩ k k' i j S.und
  rw [if_pos h1, if_pos h2, bytes_extract] at h3
  simp only [execOp, Option.map_some, Option.map_none, hf.eval hx, hf.eval hy, hf.eval hz]
  simp [Instr.sliceAt, run_underlying S.und, h3]⟩
theorem y_strL [S : StrT P t] {l : List UInt8} {k k' : IntKind} {i j : Nat} (hx : opv ρ x = some (.string ⟨l.toArray⟩)) (hy : opv ρ y = some (.int k (i : Int))) (hz : opv ρ z = some (.int k' (j : Int))) (hi : i ≤ j ∧ j ≤ l.length) : Yi P K ρ m ⟨dst, .slice t x (some y) (some z) none, ty, pos, aft, g⟩ (.string ⟨((l.take j).drop i).toArray⟩) := by
  have := y_strLI (P := P) (K := K) (m := m) (t := t) (dst := dst) (ty := ty) (pos := pos) (aft := aft) (g := g) hx hy hz ⟨by omega, by omega, by omega⟩
  rwa [Int.toNat_natCast, Int.toNat_natCast] at this
theorem y_strTI [S : StrT P t] {l : List UInt8} {k' : IntKind} {j : Int} (hx : opv ρ x = some (.string ⟨l.toArray⟩)) (hz : opv ρ z = some (.int k' j)) (hi : 0 ≤ j ∧ j ≤ l.length) : Yi P K ρ m ⟨dst, .slice t x none (some z) none, ty, pos, aft, g⟩ (.string ⟨(l.take j.toNat).toArray⟩) := ⟨fun a w hf _ => by
  have h3 := run_slice_string_to_if (P := P) w t ⟨l.toArray⟩ k' j S.und
  rw [if_pos ⟨hi.1, by simpa [ByteArray.size] using hi.2⟩, bytes_extract, List.drop_zero] at h3
  simp only [execOp, Option.map_some, Option.map_none, hf.eval hx, hf.eval hz]
  simp [Instr.sliceAt, run_underlying S.und, h3]⟩
theorem y_strT [S : StrT P t] {l : List UInt8} {k' : IntKind} {j : Nat} (hx : opv ρ x = some (.string ⟨l.toArray⟩)) (hz : opv ρ z = some (.int k' (j : Int))) (hi : j ≤ l.length) : Yi P K ρ m ⟨dst, .slice t x none (some z) none, ty, pos, aft, g⟩ (.string ⟨(l.take j).toArray⟩) := by
  have := y_strTI (P := P) (K := K) (m := m) (t := t) (dst := dst) (ty := ty) (pos := pos) (aft := aft) (g := g) hx hz ⟨by omega, by omega⟩
  rwa [Int.toNat_natCast] at this
/-- a character as a string -/
theorem y_i2s {k : IntKind} {n : Int} [S : IntT P t k] [S' : StrT P t'] (hx : opv ρ x = some (.int k n)) : Yi P K ρ m ⟨dst, .convert t t' x, ty, pos, aft, g⟩ (.string (Utf8.encode n)) := ⟨fun a w hf _ => by
  have h1 := run_convert_int_string (P := P) w t t' k n (by rw [S.und]; rfl) S'.und
  simp only [execOp, hf.eval hx]
  simp [h1]⟩
theorem y_byteI [S : StrT P t] {l : List UInt8} {k : IntKind} {i : Int} (hx : opv ρ x = some (.string ⟨l.toArray⟩)) (hy : opv ρ y = some (.int k i)) (hi : 0 ≤ i ∧ i < l.length) : Yi P K ρ m ⟨dst, .index t x y, ty, pos, aft, g⟩ (.int .u8 ((l.getD i.toNat 0).toNat : Int)) :=
  y_byte (i := i.toNat) hx (by rw [Int.toNat_of_nonneg hi.1]; exact hy) (by omega)
/-! ## fields of struct values -/
class FldT (P : Program) (t : TypeId) (one : outParam (List (Option Nat))) : Prop where
  fld : ∀ (i off : Nat) (xs : Array Value) (v : Value) (w : World), one[i]? = some (some off) → xs[off]? = some v → (Instr.field t (.agg xs) i).run P w = .ok v w
theorem y_field {one : List (Option Nat)} [S : FldT P t one] {xs : List Value} {i off : Nat} (hx : opv ρ x = some (.agg xs.toArray)) (ho : one[i]? = some (some off)) (hv : xs[off]? = some v) : Yi P K ρ m ⟨dst, .field t x i, ty, pos, aft, g⟩ v := ⟨fun a w hf _ => by
  have h1 := S.fld i off xs.toArray v w ho (by simpa using hv)
  simp only [execOp, hf.eval hx]
  simp [h1]⟩
theorem isRet (h : EX K Q .ret ρ m) : EX K Q .ret ρ m := h
theorem isPan {ch : List PanicEntry} (h : EX K Q (.panic ch) ρ m) : EX K Q (.panic ch) ρ m := h
theorem CW_condB1 {c : Operand} {x y : Code} {b : Bool} (ht : CW P K Q x ρ m) (hc : opv ρ c = some (.bool b)) (hb : b = true) : CW P K Q (.cond c x y) ρ m := CW_condT (by rw [hc, hb]) ht
theorem CW_condB0 {c : Operand} {x y : Code} {b : Bool} (hf : CW P K Q y ρ m) (hc : opv ρ c = some (.bool b)) (hb : b = false) : CW P K Q (.cond c x y) ρ m := CW_condF (by rw [hc, hb]) hf
theorem WL_gB1 {o : Option Nat} {n : Nat} {b : Bool} {op : Op} (k : WL P K ops Q (⟨o, op, ty, pos, aft, g⟩ :: rest) ((n, .bool true) :: ρ) m) (_ : gslot ops g = some n) (h : ρ.find n = some (.bool b)) (hb : b = true) : WL P K ops Q (⟨o, op, ty, pos, aft, g⟩ :: rest) ρ m := WL_set h hb k
theorem WL_gB0 {o : Option Nat} {n : Nat} {b : Bool} {op : Op} (k : WL P K ops Q (⟨o, op, ty, pos, aft, g⟩ :: rest) ((n, .bool false) :: ρ) m) (_ : gslot ops g = some n) (h : ρ.find n = some (.bool b)) (hb : b = false) : WL P K ops Q (⟨o, op, ty, pos, aft, g⟩ :: rest) ρ m := WL_set h hb k
/-! ## type assertions -/
theorem y_taT {T : TypeId} {u : Value} [S : NotIf P T] (hx : opv ρ x = some (.iface T u)) : Yi P K ρ m ⟨dst, .typeAssert x t T true, ty, pos, aft, g⟩ (.tuple #[u, .bool true]) := ⟨fun a w hf _ => by
  obtain ⟨D, hu, hd⟩ := S.ok
  simp only [execOp, hf.eval hx]
  cases D <;> simp_all [Instr.typeAssert, run_underlying hu]⟩
theorem y_taF {T T' : TypeId} {u zv : Value} [Z : ZV P T' zv] [S : NotIf P T'] (hx : opv ρ x = some (.iface T u)) (hne : Nat.beq T T' = false) : Yi P K ρ m ⟨dst, .typeAssert x t T' true, ty, pos, aft, g⟩ (.tuple #[zv, .bool false]) := ⟨fun a w hf _ => by
  obtain ⟨D, hu, hd⟩ := S.ok
  have hz := Z.zero w
  have hne' : ¬ T = T' := Nat.ne_of_beq_eq_false hne
  simp only [execOp, hf.eval hx]
  cases D <;> simp_all [Instr.typeAssert, run_underlying hu]⟩
theorem y_taN {T' : TypeId} {zv : Value} [Z : ZV P T' zv] [S : NotIf P T'] (hx : opv ρ x = some .nilIface) : Yi P K ρ m ⟨dst, .typeAssert x t T' true, ty, pos, aft, g⟩ (.tuple #[zv, .bool false]) := ⟨fun a w hf _ => by
  obtain ⟨D, hu, hd⟩ := S.ok
  have hz := Z.zero w
  simp only [execOp, hf.eval hx]
  cases D <;> simp_all [Instr.typeAssert, run_underlying hu]⟩
theorem y_ta1 {T : TypeId} {u : Value} [S : NotIf P T] (hx : opv ρ x = some (.iface T u)) : Yi P K ρ m ⟨dst, .typeAssert x t T false, ty, pos, aft, g⟩ u := ⟨fun a w hf _ => by
  obtain ⟨D, hu, hd⟩ := S.ok
  simp only [execOp, hf.eval hx]
  cases D <;> simp_all [Instr.typeAssert, run_underlying hu]⟩
end ops
end Go.Proofs.YtllgkdkjcbohcaaGreatDoor
