/-
  The law LexSpells, for words as they come in.
-/
import Derived.Test.YtjefjfdoicddlaaDoorRefSpelling
import Derived.Test.YtjefjfdoicddlaaDoorOpenTok
import Derived.Test.YtjefjfdoicddlaaDoorLaidF
namespace Go.Proofs.YtjefjfdoicddlaaDoor
open Go.RowKit
theorem toks_ok {w : World} {x : SlV Tok} (s : SlS tokE 5 (fun _ B t => I64 t.num ∧ I64 t.fn ∧ I64 t.kind ∧ I64 t.at_ ∧ t.text.length ≤ B) w 1048576 x) : ToksOk2 x.xs :=
  ⟨⟨fun t ht => (s.each t ht).1, fun t ht => Nat.le_trans (s.each t ht).2.2.2.2 (by omega)⟩, fun t ht => (s.each t ht).2.1⟩
theorem open_LexSpells (x : SlV Tok) (w : World) (s : SlS tokE 5 (fun _ B t => I64 t.num ∧ I64 t.fn ∧ I64 t.kind ∧ I64 t.at_ ∧ t.text.length ≤ B) w 1048576 x) (L : LaidOk w) :
    Calls Tryd.prog 3 #[x.val] w fun e w' => e = .returned (.bool true) ∧ Below w.heap.size w w' :=
  law_LexSpells x.p x.c x.xs w s.row (toks_ok s) L.glob L.hand
end Go.Proofs.YtjefjfdoicddlaaDoor
