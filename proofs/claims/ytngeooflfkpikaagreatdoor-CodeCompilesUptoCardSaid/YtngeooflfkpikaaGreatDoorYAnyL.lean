/-
  The logic of walks: drawn regions in which a call turns a thing, or panics. Of no program.
  The logic of walks: a deferred call that recovers first. Of no program. (The text stands in XRead8, too.)
-/
import Derived.Test.YtngeooflfkpikaaGreatDoorYPerm
import Derived.Test.YtngeooflfkpikaaGreatDoorYMeth
namespace Go.Proofs.YtngeooflfkpikaaGreatDoor
open Go.RowKit
section
variable {P : Program} {K : Cx} {ρ : Env} {m m0 m' r : List HP} {ty t : TypeId} {pos : String} {aft : Array Edge} {g : Option (Nat × Bool)} {v : Value} {x y : Operand} {ops : Array Oper} {Q : Exit → Act → World → Prop} {rest tl : List Oper} {d : Nat} {op : Op} {L : Act → Cl → Prop} {k : Nat} {listed : Array Bool} {G : Rd} {h : HP} {zs : List Value}
theorem WB_alloc [S : ZT P t zs] (hg : guardB ops g ρ = some true) (hn : (guardN K.N ops g && Nat.blt d K.N) = true) (k : ∀ b, WL P K ops Q tl ((d, .pointer (some ⟨b, 0, none⟩)) :: ρ) (blk b t zs.toArray :: m)) :
    WB P K ops (LT P ops Q tl) [⟨some d, .alloc t, ty, pos, aft, g⟩] ρ m := by
  refine ⟨fun a hf => ?_⟩
  simp only [Bool.and_eq_true] at hn
  unfold wpHead
  rw [if_pos (guard_wanted hf hg (guardN_spec hn.1))]
  obtain ⟨z, hz, hc⟩ := S.ok
  refine .inr ⟨rfl, Nat, fun b => .pointer (some ⟨b, 0, none⟩), fun b => Holds K.w0 K.F (blk b t zs.toArray :: m), fun x => Holds.closed _ _ _, fun x W hW => Holds.drop (m1 := [blk x t zs.toArray]) hW, fun W hW => ?_, fun x w hw => (k x).run _ _ (hf.put (blt_lt hn.2) _) hw⟩
  have h : (execOp a.eval ⟨some d, .alloc t, ty, pos, aft, g⟩).run P W = .ok (.value (.pointer (some ⟨W.heap.size, 0, none⟩))) (W.alloc (.cells zs.toArray t)) := by
    have hz' := hz W
    simp only [execOp, Instr.alloc]
    simp only [go_sem, Sem.run_bind, hz', Result.andThen_ok]
    unfold Value.cells at hc
    simp [hc]
  rw [h]
  exact ⟨W.heap.size, rfl, hW.new t zs.toArray⟩
/-! ## any order, written out -/
end
end Go.Proofs.YtngeooflfkpikaaGreatDoor
namespace Go.Proofs.YtngeooflfkpikaaGreatDoor
open Go.RowKit
/-! ## a deferred call that recovers first (of no program) -/
section
variable {P : Program}
theorem bodyS_of {fn : Func} {R : Ending → World → Prop} {c₀ : Frame} {cs : List Frame} {u2 : FrameMode} {R' : Ending → FrameMode → World → Prop} (h : ∀ e w, R e w → R' e u2 w) :
    ∀ e a w, bodyPost P fn R e a w → bodyPostS P fn c₀ cs R' e a ({ c₀ with mode := u2 } :: cs) w := by
  intro e a w hb
  cases e with
  | normal => obtain ⟨h1, v, h2, h3⟩ := hb; exact ⟨h1, u2, rfl, v, h2, h _ _ h3⟩
  | ret => obtain ⟨h1, v, h2, h3⟩ := hb; exact ⟨h1, u2, rfl, v, h2, h _ _ h3⟩
  | panic ch => exact ⟨hb.1, u2, rfl, h _ _ hb.2⟩
  | outgrown => exact ⟨u2, h _ _ hb⟩
  | exit _ => exact hb
  | goto _ => exact hb
/-- what recover tells, and the mode of the frame that it was called for -/
def RecB (u : FrameMode) (v : Value) (u2 : FrameMode) : Prop := (u = .returning ∧ v = .nilIface ∧ u2 = .returning) ∨ (∃ older, u = .panicking ({ v := v, recovered := false } :: older) ∧ u2 = .panicking ({ v := v, recovered := true } :: older))
theorem callsD_rec {f : FuncId} {fn : Func} {id d : Nat} {ty : TypeId} {pos : String} {body : Code} {args : List Value} {w : World} {F : List Nat} {m : List HP} {N : Nat} {u u2 : FrameMode} {v : Value} {R : Ending → World → Prop}
    (hf : P.funcs[f]? = some fn) (hb : fn.body = some (.seq (.region id #[⟨some d, .call ⟨.builtin .recover, #[], #[]⟩, ty, pos, #[], none⟩] false) body)) (hN : fn.ntmps = N) (hl : args.length ≤ N) (hd : d < N)
    (hr : RecB u v u2) (hm : Own m F w) (h : CW P ⟨N, [], w, F⟩ (QBody P fn R) body ((d, v) :: argEnv 0 args) m) : CallsD P f args.toArray u w fun e u' w' => u' = u2 ∧ R e w' := by
  refine callsD_of_wpS hf hb fun c₀ cs hu => ?_
  have hfit : Fits N [] { tmps := args.toArray ++ Array.replicate (fn.ntmps - args.toArray.size) undef, defers := [] } (argEnv 0 args) := by
    refine ⟨by simp; omega, rfl, fun n v hv => ?_⟩
    obtain ⟨_, h2⟩ := find_argEnv _ _ _ _ hv
    have hlt : n < args.length := by simpa using (List.getElem?_eq_some_iff.1 h2).1
    rw [Array.getD_eq_getD_getElem?, Array.getElem?_append_left (by simpa using hlt)]
    simp at h2
    simp [h2]
  have key := wpS_of_wp (cs := { c₀ with mode := u2 } :: cs) (wp_mono (h.run _ _ (hfit.put hd v) (Holds.start hm)) (bodyS_of (c₀ := c₀) (cs := cs) (R' := fun e u' w' => u' = u2 ∧ R e w') fun e w hR => ⟨rfl, hR⟩))
  generalize ({ tmps := args.toArray ++ Array.replicate (fn.ntmps - args.toArray.size) undef, defers := [] } : Act) = a at *
  apply wpS_seq
  apply wpS_region
  rcases hr with ⟨rfl, rfl, rfl⟩ | ⟨older, rfl, rfl⟩
  · have e : ({ c₀ with mode := FrameMode.returning } : Frame) = c₀ := by cases c₀; simp at hu; simp [hu]
    rw [e] at key
    simpa [wpOpsS, go_sem, recoverD, hu, Exit.thenS] using key
  · simpa [wpOpsS, go_sem, recoverD, hu, Exit.thenS] using key
end
end Go.Proofs.YtngeooflfkpikaaGreatDoor
