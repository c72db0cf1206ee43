/-
  Arguments as they come in: workspaces.
-/
import Derived.Test.YtdnkapfcnapadaaGreatDoorOpenTok
import Derived.Test.YtdnkapfcnapadaaGreatDoorSaveBody
namespace Go.Proofs.YtdnkapfcnapadaaGreatDoor
open Go.RowKit

/-- an array as it lies in memory -/
structure ArrM where
  char : Bool
  shape : SlV Int
  data : SlV Int
def arrE (a : ArrM) : List Value := [.bool a.char, .slice a.shape.p a.shape.xs.length a.shape.c, .slice a.data.p a.data.xs.length a.data.c]
/-- a name and its value as they lie in memory -/
structure BindM where
  name : List UInt8
  char : Bool
  shape : SlV Int
  data : SlV Int
instance : Inhabited BindM := ⟨⟨[], false, ⟨none, 0, []⟩, ⟨none, 0, []⟩⟩⟩
def BindM.bnd (b : BindM) : Bnd := ⟨b.name, b.char, b.shape.xs, b.data.xs⟩
def bindE (b : BindM) : List Value := [.string ⟨b.name.toArray⟩, .bool b.char, .slice b.shape.p b.shape.xs.length b.shape.c, .slice b.data.p b.data.xs.length b.data.c]
theorem oBool : Opn Tryz.prog 4 Bool encBo (fun _ _ _ => True) := opn_bool Tryz.underlying4
theorem oInts : Opn Tryz.prog 56 (SlV Int) SlV.enc (SlS encI 1 (fun _ _ i => I64 i)) := opn_slice oInt Tryz.underlying56 (by kernel_rfl)
def ArrS (w : World) (B : Nat) (a : ArrM) : Prop := SlS encI 1 (fun _ _ i => I64 i) w B a.shape ∧ SlS encI 1 (fun _ _ i => I64 i) w B a.data
set_option maxRecDepth 100000 in
theorem oArr : Opn Tryz.prog 87 ArrM arrE ArrS := ⟨fun {H en w base spare held fuel cs x B} h hB => by
  obtain ⟨hl, n, hf⟩ := trod_fields Tryz.underlying87 h hB
  obtain ⟨a0, e0, s0⟩ := fld_open oBool hf 0 0 1 rfl (by kernel_rfl)
  obtain ⟨a1, e1, s1⟩ := fld_open oInts hf 1 1 1 rfl (by kernel_rfl)
  obtain ⟨a2, e2, s2⟩ := fld_open oInts hf 2 2 1 rfl (by kernel_rfl)
  have hc : Tryz.prog.cellsOf 87 = 3 := by kernel_rfl
  rw [hc] at hl
  refine ⟨⟨a0, a1, a2⟩, ?_, s1, s2⟩
  match cs, hl with
  | [c0, c1, c2], _ =>
    simp [encBo] at e0
    simp [SlV.enc, SlV.val] at e1 e2
    simp [arrE, e0, e1, e2]⟩
/-- what the memory behind a name and its value holds -/
def BindS (w : World) (B : Nat) (b : BindM) : Prop := b.name.length ≤ B ∧ SlS encI 1 (fun _ _ i => I64 i) w B b.shape ∧ SlS encI 1 (fun _ _ i => I64 i) w B b.data
set_option maxRecDepth 100000 in
theorem oBind : Opn Tryz.prog 89 BindM bindE BindS := ⟨fun {H en w base spare held fuel cs x B} h hB => by
  obtain ⟨hl, n, hf⟩ := trod_fields Tryz.underlying89 h hB
  obtain ⟨a0, e0, s0⟩ := fld_open oStr hf 0 0 1 rfl (by kernel_rfl)
  obtain ⟨a1, e1, s1⟩ := fld_open oArr hf 1 1 3 rfl (by kernel_rfl)
  have hc : Tryz.prog.cellsOf 89 = 4 := by kernel_rfl
  rw [hc] at hl
  refine ⟨⟨a0, a1.char, a1.shape, a1.data⟩, ?_, s0, s1.1, s1.2⟩
  match cs, hl with
  | [c0, c1, c2, c3], _ =>
    simp [encS] at e0
    simp [arrE] at e1
    simp [bindE, e0, e1]⟩
theorem oBinds : Opn Tryz.prog 22 (SlV BindM) SlV.enc (SlS bindE 4 BindS) := opn_slice oBind Tryz.underlying22 (by kernel_rfl)
end Go.Proofs.YtdnkapfcnapadaaGreatDoor
