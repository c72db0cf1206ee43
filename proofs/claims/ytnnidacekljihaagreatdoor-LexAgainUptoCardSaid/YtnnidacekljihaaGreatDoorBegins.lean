/-
  ravelinref3.Begins; what lex.Read tells, in a reader.
-/
import Derived.Test.YtnnidacekljihaaGreatDoorGo
import Derived.Test.YtnnidacekljihaaGreatDoorRefBegins
import Derived.Test.YtnnidacekljihaaGreatDoorTokSame
import Derived.Test.YtnnidacekljihaaGreatDoorRead9
namespace Go.Proofs.YtnnidacekljihaaGreatDoor
open Go.RowKit

theorem row_fresh {α : Type} {enc : α → List Value} {sz : Nat} (hs : ∀ x, (enc x).length = sz) (h0 : 0 < sz) {w w' : World} {e : TypeId} {n c : Nat} {p : Option Addr} {xs : List α} (hh : Holds w [] [sl e sz p n c (xs.flatMap enc)] w') {G' : Rd} (hG : ∀ a v, w'.cell? a = some v → w.heap.size ≤ a.block → G' a = some v) :
    Row enc sz G' p c xs := by
  have hR := (row_sl hs h0 hh .here).2
  refine ⟨hR.le, hR.max, hR.some', fun i x hx j v hv => ?_⟩
  have h1 := hR.cell i x hx j v hv
  refine hG _ _ h1 ?_
  obtain ⟨fp, ⟨f1, f2, rfl, ⟨hf, hown⟩, _, _⟩, hF⟩ := hh.own
  rcases hown.2 with ⟨hv, h00⟩ | ⟨g, cap, cur, hv, _⟩
  · have hn : n = xs.length := (row_sl hs h0 hh .here).1
    have : xs = [] := List.eq_nil_of_length_eq_zero (by omega)
    subst this
    simp at hx
  · simp only [Value.slice.injEq] at hv
    obtain ⟨rfl, _, rfl⟩ := hv
    have hb : ((addrAt (some ⟨g, 0, none⟩) (i * sz)).add j).block = g := by
      unfold addrAt
      show (((⟨g, 0, none⟩ : Addr).add (i * sz)).add j).block = g
      rw [Go.Deep.add_add]
      unfold Addr.add
      split <;> rfl
    rw [hb]
    by_cases hlt : g < w.heap.size
    · have := hF g (List.mem_append.2 (.inl (by rw [hf]; simp [blkOf]))) hlt
      cases this
    · omega
theorem read_R {src : List UInt8} {a : Int} {us : List Tok} (n : Nat) (hn : us.length = n) (h : readL src = (0, a, us)) (hl : src.length ≤ 1099511627776) (G : Rd) (hG : LexG G) (w : World) (fp : List Nat) (hm : Own [] fp w) (hs : Rd.sub G fp w) :
    Calls Tryz.prog 5 #[.string ⟨src.toArray⟩] w fun e w' => ∃ z : Rd × Option Addr × Nat, Row tokE 5 z.1 z.2.1 z.2.2 us ∧ e = .returned (.tuple #[.slice z.2.1 n z.2.2, .int .i64 a, .nilIface]) ∧ Rd.grow w G z.1 ∧ Holds w fp (ro w fp z.1 :: []) w' :=
  (lex_Read src G hG w (fun a v e => ⟨(hs a v e).1, by simp⟩) hl).mono fun e w' ⟨p, n', c, h1, h2, h3⟩ => by
    rw [h] at h1 h2 h3
    dsimp only at h1 h2 h3
    have hh : Holds w fp [ro w fp G] w := Holds.start ⟨[], fp, rfl, ⟨by simp, fun a v e => .inr ⟨cell_lt (hs a v e).1, (hs a v e).2, (hs a v e).1⟩⟩, hm, by simp⟩
    obtain ⟨G', g1, g2, g3⟩ := hh.fresh h3.below
    refine ⟨(G', p, c), row_fresh (enc := tokE) (sz := 5) (fun _ => rfl) (by omega) h3 g2, ?_, g1, g3⟩
    rw [h1, errV_zero, h2, hn]
theorem read_any (src : List UInt8) (hl : src.length ≤ 1099511627776) (G : Rd) (hG : LexG G) (w : World) (hs : Rd.sub G [] w) :
    Calls Tryz.prog 5 #[.string ⟨src.toArray⟩] w fun e w' => ∃ z : Option Addr × Nat × Nat, True ∧ e = .returned (.tuple #[.slice z.1 z.2.1 z.2.2, .int .i64 (readL src).2.1, errV 33 (readL src).1]) ∧ Holds w [] [] w' :=
  (lex_Read src G hG w hs hl).mono fun _ _ ⟨p, n', c, h1, _, h3⟩ => ⟨(p, n', c), trivial, h1, h3.ent Ent.nil⟩
theorem read_bad {src : List UInt8} {x a : Int} {us : List Tok} (hx : x ≠ 0) (h : readL src = (x, a, us)) (hl : src.length ≤ 1099511627776) (G : Rd) (hG : LexG G) (w : World) (hs : Rd.sub G [] w) :
    Calls Tryz.prog 5 #[.string ⟨src.toArray⟩] w fun e w' => ∃ z : Option Addr × Nat × Nat, True ∧ e = .returned (.tuple #[.slice z.1 z.2.1 z.2.2, .int .i64 a, .iface 33 (.int .i64 x)]) ∧ Holds w [] [] w' := by
  have := read_any src hl G hG w hs
  rw [h, errV_ne hx] at this
  exact this
theorem LexG.mono {G G' : Rd} (h : LexG G) (hl : Rd.le G G') : LexG G' :=
  ⟨fun c hc => hl _ _ (h.first c hc), fun i hi => ⟨hl _ _ (h.acc i hi).1, hl _ _ (h.acc i hi).2⟩, let ⟨m, hm⟩ := h.maxl; ⟨m, hl _ _ hm⟩, let ⟨a, b, hm⟩ := h.range; ⟨a, b, hl _ _ hm⟩⟩
end Go.Proofs.YtnnidacekljihaaGreatDoor
