/-
  Arguments as they come in: words.
  Plain: instructions, which are formed, which places are come to with how many on the stack.
-/
import Derived.Test.YtngeooflfkpikaaGreatDoorZOpen
import Derived.Test.YtngeooflfkpikaaGreatDoorZLex3
import Derived.Test.YtngeooflfkpikaaGreatDoorZLexPlain
namespace Go.Proofs.YtngeooflfkpikaaGreatDoor
open Go.RowKit
theorem oInt : Opn Tryz.prog 3 Int encI (fun _ _ i => I64 i) := opn_int Tryz.underlying3
theorem oFn : Opn Tryz.prog 37 Int encI (fun _ _ i => I64 i) := opn_int Tryz.underlying37
theorem oStr : Opn Tryz.prog 9 (List UInt8) encS (fun _ B l => l.length ≤ B) := opn_string Tryz.underlying9
set_option maxRecDepth 100000 in
theorem oTok : Opn Tryz.prog 39 Tok tokE (fun _ B t => I64 t.num ∧ I64 t.fn ∧ I64 t.kind ∧ I64 t.at_ ∧ t.text.length ≤ B) := ⟨fun {H en w base spare held fuel cs x B} h hB => by
  obtain ⟨hl, n, hf⟩ := trod_fields Tryz.underlying39 h hB
  obtain ⟨a0, e0, s0⟩ := fld_open oInt hf 0 0 1 rfl (by kernel_rfl)
  obtain ⟨a1, e1, s1⟩ := fld_open oFn hf 1 1 1 rfl (by kernel_rfl)
  obtain ⟨a2, e2, s2⟩ := fld_open oInt hf 2 2 1 rfl (by kernel_rfl)
  obtain ⟨a3, e3, s3⟩ := fld_open oStr hf 3 3 1 rfl (by kernel_rfl)
  obtain ⟨a4, e4, s4⟩ := fld_open oInt hf 4 4 1 rfl (by kernel_rfl)
  have hc : Tryz.prog.cellsOf 39 = 5 := by kernel_rfl
  rw [hc] at hl
  refine ⟨⟨a0, a1, a2, a3, a4⟩, ?_, s2, s1, s0, s4, s3⟩
  match cs, hl with
  | [c0, c1, c2, c3, c4], _ =>
    simp [encI] at e0 e1 e2 e4
    simp [encS] at e3
    simp [tokE, e0, e1, e2, e3, e4]⟩
instance : Inhabited Tok := ⟨⟨0, 0, 0, [], 0⟩⟩
theorem oToks : Opn Tryz.prog 34 (SlV Tok) SlV.enc (SlS tokE 5 (fun _ B t => I64 t.num ∧ I64 t.fn ∧ I64 t.kind ∧ I64 t.at_ ∧ t.text.length ≤ B)) := opn_slice oTok Tryz.underlying34 (by kernel_rfl)
end Go.Proofs.YtngeooflfkpikaaGreatDoor
namespace Go.Proofs.YtngeooflfkpikaaGreatDoor
/-- an instruction -/
structure Ins where
  op : Int
  aop : Int
  af : Int
  ag : Int
  n : Int
  «to» : Int
  nums : List Int
  text : List UInt8
/-- may a text be that of a word of this kind? -/
def spellOk (k : Int) (s : List UInt8) : Bool := decide ((spellF [⟨k, 0, 0, s, 0⟩]).2 = 0)
/-! ## the walk's state: the depths so far, what is to do -/
/-- D' has what D has, and more -/
def Ups (D D' : List Int) : Prop := D'.length = D.length ∧ ∀ (i : Nat) (d : Int), 0 ≤ d → D[i]? = some d → D'[i]? = some d
theorem Ups.refl (D : List Int) : Ups D D := ⟨rfl, fun _ _ _ h => h⟩
theorem Ups.trans {D D' D'' : List Int} (h : Ups D D') (k : Ups D' D'') : Ups D D'' := ⟨k.1.trans h.1, fun i d h0 hd => k.2 i d h0 (h.2 i d h0 hd)⟩
end Go.Proofs.YtngeooflfkpikaaGreatDoor
