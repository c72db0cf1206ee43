/-
  Arguments as they come in: instructions.
-/
import Derived.Test.YthmkoigaaidpjaaDoorOpenTok
import Derived.Test.YthmkoigaaidpjaaDoorSoundPlain
namespace Go.Proofs.YthmkoigaaidpjaaDoor
open Go.RowKit

/-- an instruction as it lies in memory -/
structure InsM where
  op : Int
  aop : Int
  af : Int
  ag : Int
  n : Int
  dst : Int
  nums : SlV Int
  text : List UInt8
instance : Inhabited InsM := ⟨⟨0, 0, 0, 0, 0, 0, ⟨none, 0, []⟩, []⟩⟩
def InsM.ins (i : InsM) : Ins := ⟨i.op, i.aop, i.af, i.ag, i.n, i.dst, i.nums.xs, i.text⟩
def insE (i : InsM) : List Value := [.int .i64 i.op, .int .i64 i.aop, .int .i64 i.af, .int .i64 i.ag, .int .i64 i.n, .int .i64 i.dst, .slice i.nums.p i.nums.xs.length i.nums.c, .string ⟨i.text.toArray⟩]
structure ActM where
  op : Int
  f : Int
  g : Int
def actE (a : ActM) : List Value := [.int .i64 a.op, .int .i64 a.f, .int .i64 a.g]
set_option maxRecDepth 100000 in
theorem oAct : Opn Tryd.prog 35 ActM actE (fun _ _ a => I64 a.op ∧ I64 a.f ∧ I64 a.g) := ⟨fun {H en w base spare held fuel cs x B} h hB => by
  obtain ⟨hl, n, hf⟩ := trod_fields Tryd.underlying35 h hB
  obtain ⟨a0, e0, s0⟩ := fld_open oInt hf 0 0 1 rfl (by kernel_rfl)
  obtain ⟨a1, e1, s1⟩ := fld_open oFn hf 1 1 1 rfl (by kernel_rfl)
  obtain ⟨a2, e2, s2⟩ := fld_open oFn hf 2 2 1 rfl (by kernel_rfl)
  have hc : Tryd.prog.cellsOf 35 = 3 := by kernel_rfl
  rw [hc] at hl
  refine ⟨⟨a0, a1, a2⟩, ?_, s0, s1, s2⟩
  match cs, hl with
  | [c0, c1, c2], _ =>
    simp [encI] at e0 e1 e2
    simp [actE, e0, e1, e2]⟩
theorem oInts : Opn Tryd.prog 23 (SlV Int) SlV.enc (SlS encI 1 (fun _ _ i => I64 i)) := opn_slice oInt Tryd.underlying23 (by kernel_rfl)
/-- what the memory behind an instruction holds -/
def InsS (w : World) (B : Nat) (i : InsM) : Prop := (I64 i.op ∧ I64 i.aop ∧ I64 i.af ∧ I64 i.ag ∧ I64 i.n ∧ I64 i.dst) ∧ SlS encI 1 (fun _ _ i => I64 i) w B i.nums ∧ i.text.length ≤ B
set_option maxRecDepth 100000 in
theorem oIns : Opn Tryd.prog 37 InsM insE InsS := ⟨fun {H en w base spare held fuel cs x B} h hB => by
  obtain ⟨hl, n, hf⟩ := trod_fields Tryd.underlying37 h hB
  obtain ⟨a0, e0, s0⟩ := fld_open oInt hf 0 0 1 rfl (by kernel_rfl)
  obtain ⟨a1, e1, s1⟩ := fld_open oAct hf 1 1 3 rfl (by kernel_rfl)
  obtain ⟨a2, e2, s2⟩ := fld_open oInt hf 2 4 1 rfl (by kernel_rfl)
  obtain ⟨a3, e3, s3⟩ := fld_open oInt hf 3 5 1 rfl (by kernel_rfl)
  obtain ⟨a4, e4, s4⟩ := fld_open oInts hf 4 6 1 rfl (by kernel_rfl)
  obtain ⟨a5, e5, s5⟩ := fld_open oStr hf 5 7 1 rfl (by kernel_rfl)
  have hc : Tryd.prog.cellsOf 37 = 8 := by kernel_rfl
  rw [hc] at hl
  refine ⟨⟨a0, a1.op, a1.f, a1.g, a2, a3, a4, a5⟩, ?_, ⟨s0, s1.1, s1.2.1, s1.2.2, s2, s3⟩, s4, s5⟩
  match cs, hl with
  | [c0, c1, c2, c3, c4, c5, c6, c7], _ =>
    simp [encI] at e0 e2 e3
    simp [actE] at e1
    simp [SlV.enc, SlV.val] at e4
    simp [encS] at e5
    simp [insE, e0, e1, e2, e3, e4, e5]⟩
theorem oInstrs : Opn Tryd.prog 22 (SlV InsM) SlV.enc (SlS insE 8 InsS) := opn_slice oIns Tryd.underlying22 (by kernel_rfl)
end Go.Proofs.YthmkoigaaidpjaaDoor
