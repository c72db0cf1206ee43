/-
  lex.Read, Tokens as the laws of the lex family use them.
-/
import Derived.Test.YtnnidacekljihaaGreatDoorGo
import Derived.Test.YtnnidacekljihaaGreatDoorTokSame
import Derived.Test.YtnnidacekljihaaGreatDoorRead9
namespace Go.Proofs.YtnnidacekljihaaGreatDoor
open Go.RowKit

theorem LexG.below {w w' : World} (h : LexG w.cell?) (hb : Below w.heap.size w w') : LexG w'.cell? := by
  have k : ∀ a v, w.cell? a = some v → w'.cell? a = some v := fun a v e => by rw [World.cell?_of_block (hb.block _ (cell_lt e))]; exact e
  exact ⟨fun c hc => k _ _ (h.first c hc), fun i hi => ⟨k _ _ (h.acc i hi).1, k _ _ (h.acc i hi).2⟩, let ⟨m, hm⟩ := h.maxl; ⟨m, k _ _ hm⟩, let ⟨a, b, hm⟩ := h.range; ⟨a, b, k _ _ hm⟩⟩
theorem read_ok {src : List UInt8} {a : Int} {us : List Tok} (h : readL src = (0, a, us)) (w : World) (hG : LexG w.cell?) (hl : src.length ≤ 1099511627776) :
    Calls Tryz.prog 5 #[.string ⟨src.toArray⟩] w fun e w' => ∃ x : Option Addr × Nat, True ∧ e = .returned (.tuple #[.slice x.1 us.length x.2, .int .i64 a, .nilIface]) ∧ Holds w [] [sl 29 5 x.1 us.length x.2 (us.flatMap tokE)] w' :=
  (lex_Read src _ hG w (Rd.sub_cell w) hl).mono fun e w' ⟨p, n, c, h1, h2, h3⟩ => by
    rw [h] at h1 h2 h3
    dsimp only at h1 h2 h3
    subst h2
    exact ⟨(p, c), trivial, by rw [h1, errV_zero], h3⟩
theorem read_okN {src : List UInt8} {a : Int} {us : List Tok} (n : Nat) (hn : us.length = n) (h : readL src = (0, a, us)) (w : World) (hG : LexG w.cell?) (hl : src.length ≤ 1099511627776) :
    Calls Tryz.prog 5 #[.string ⟨src.toArray⟩] w fun e w' => ∃ x : Option Addr × Nat, True ∧ e = .returned (.tuple #[.slice x.1 n x.2, .int .i64 a, .nilIface]) ∧ Holds w [] [sl 29 5 x.1 n x.2 (us.flatMap tokE)] w' := hn ▸ read_ok h w hG hl
theorem sameN (p q : Option Addr) (c d n : Nat) (xs : List Tok) (hn : xs.length = n) (w : World) (hx : Row tokE 5 w.cell? p c xs) (hy : Row tokE 5 w.cell? q d xs) :
    Calls Tryz.prog 8 #[.slice p n c, .slice q n d] w fun e w' => e = .returned (.bool true) ∧ Below w.heap.size w w' := by
  subst hn
  exact same_Tokens p q c d xs w hx hy
theorem tokE_len (t : Tok) : (tokE t).length = 5 := rfl
theorem row_toks {w0 w : World} {F : List Nat} {m r : List HP} {n c : Nat} {p : Option Addr} {xs : List Tok} (hh : Holds w0 F m w) (hp : Pick m (sl 29 5 p n c (xs.flatMap tokE)) r) : Row tokE 5 w.cell? p c xs := (row_sl tokE_len (by omega) hh hp).2

end Go.Proofs.YtnnidacekljihaaGreatDoor
