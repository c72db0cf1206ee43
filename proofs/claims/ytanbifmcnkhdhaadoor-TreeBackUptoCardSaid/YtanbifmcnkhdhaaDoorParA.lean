/-
  What a law knows of what Parse told.
-/
import Derived.Test.YtanbifmcnkhdhaaDoorGo
import Derived.Test.YtanbifmcnkhdhaaDoorParse8
import Derived.Test.YtanbifmcnkhdhaaDoorPar
namespace Go.Proofs.YtanbifmcnkhdhaaDoor
open Go.RowKit

/-- what a law knows of what Parse told -/
def ParA (L : List Tok) (z : List NodM × Option Addr × Nat) (G : Rd) : Prop := z.1.map NodM.nod = (parseF L).2.2 ∧ Row nodE 7 G z.2.1 z.2.2 z.1 ∧ ∀ x ∈ z.1, NodG G x
def parV (L : List Tok) (z : List NodM × Option Addr × Nat) : Value := .tuple #[.slice z.2.1 z.1.length z.2.2, .int .i64 (parseF L).2.1, errV 48 (parseF L).1]
theorem parse_law (p : Option Addr) (c : Nat) (L : List Tok) (W : World) (hR : Row tokE 5 W.cell? p c L) (hT : ∀ t ∈ L, I64 t.num ∧ I64 t.fn ∧ t.text.length ≤ 4294967280) (hG : GlobA W) :
    Calls Tryd.prog 5 #[.slice p L.length c] W fun e w' => ∃ z : List NodM × Option Addr × Nat, e = .returned (parV L z) ∧ Below W.heap.size W w' ∧ (ParA L z w'.cell? ∧ Rd.le W.cell? w'.cell?) :=
  (tree_Parse p c L W hR hT hG).mono fun _ _ ⟨ns, q, c', h1, h2, h3, h4, hb⟩ => ⟨(ns, q, c'), h4, hb, ⟨h1, h2, h3⟩, Rd.le_below hb⟩
end Go.Proofs.YtanbifmcnkhdhaaDoor
