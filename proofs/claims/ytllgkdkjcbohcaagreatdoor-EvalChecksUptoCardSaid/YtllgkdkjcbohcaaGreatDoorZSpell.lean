/-
  The logic of walks: drawn regions in which a call turns a thing, or panics. Of no program.
  The logic of walks: a deferred call that recovers first. Of no program. (The text stands in XRead8, too.)
  eval: a copy of an array; the place where an error that was told by a panic is caught.
  lex.Spell: a line of words.
-/
import Derived.Test.YtllgkdkjcbohcaaGreatDoorZPerm
import Derived.Test.YtllgkdkjcbohcaaGreatDoorZDefer
import Derived.Test.YtllgkdkjcbohcaaGreatDoorZGo
import Derived.Test.YtllgkdkjcbohcaaGreatDoorZEvV
import Derived.Test.YtllgkdkjcbohcaaGreatDoorZPar
import Derived.Test.YtllgkdkjcbohcaaGreatDoorZLex3
namespace Go.Proofs.YtllgkdkjcbohcaaGreatDoor
open Go.RowKit
section
variable {P : Program} {K : Cx} {ρ : Env} {m m0 m' r : List HP} {ty t : TypeId} {pos : String} {aft : Array Edge} {g : Option (Nat × Bool)} {v : Value} {x y : Operand} {ops : Array Oper} {Q : Exit → Act → World → Prop} {rest tl : List Oper} {d : Nat} {op : Op} {L : Act → Cl → Prop} {k : Nat} {listed : Array Bool} {G : Rd} {h : HP} {zs : List Value}
theorem WB_alloc [S : ZT P t zs] (hg : guardB ops g ρ = some true) (hn : (guardN K.N ops g && Nat.blt d K.N) = true) (k : ∀ b, WL P K ops Q tl ((d, .pointer (some ⟨b, 0, none⟩)) :: ρ) (blk b t zs.toArray :: m)) :
    WB P K ops (LT P ops Q tl) [⟨some d, .alloc t, ty, pos, aft, g⟩] ρ m := by
  refine ⟨fun a hf => ?_⟩
  simp only [Bool.and_eq_true] at hn
  unfold wpHead
  rw [if_pos (guard_wanted hf hg (guardN_spec hn.1))]
  obtain ⟨z, hz, hc⟩ := S.ok
  refine .inr ⟨rfl, Nat, fun b => .pointer (some ⟨b, 0, none⟩), fun b => Holds K.w0 K.F (blk b t zs.toArray :: m), fun x => Holds.closed _ _ _, fun x W hW => Holds.drop (m1 := [blk x t zs.toArray]) hW, fun W hW => ?_, fun x w hw => (k x).run _ _ (hf.put (blt_lt hn.2) _) hw⟩
  have h : (execOp a.eval ⟨some d, .alloc t, ty, pos, aft, g⟩).run P W = .ok (.value (.pointer (some ⟨W.heap.size, 0, none⟩))) (W.alloc (.cells zs.toArray t)) := by
    have hz' := hz W
    simp only [execOp, Instr.alloc]
    simp only [go_sem, Sem.run_bind, hz', Result.andThen_ok]
    unfold Value.cells at hc
    simp [hc]
  rw [h]
  exact ⟨W.heap.size, rfl, hW.new t zs.toArray⟩
/-! ## any order, written out -/
end
end Go.Proofs.YtllgkdkjcbohcaaGreatDoor
namespace Go.Proofs.YtllgkdkjcbohcaaGreatDoor
open Go.RowKit
/-! ## a deferred call that recovers first (of no program) -/
section
variable {P : Program}
theorem bodyS_of {fn : Func} {R : Ending → World → Prop} {c₀ : Frame} {cs : List Frame} {u2 : FrameMode} {R' : Ending → FrameMode → World → Prop} (h : ∀ e w, R e w → R' e u2 w) :
    ∀ e a w, bodyPost P fn R e a w → bodyPostS P fn c₀ cs R' e a ({ c₀ with mode := u2 } :: cs) w := by
  intro e a w hb
  cases e with
  | normal => obtain ⟨h1, v, h2, h3⟩ := hb; exact ⟨h1, u2, rfl, v, h2, h _ _ h3⟩
  | ret => obtain ⟨h1, v, h2, h3⟩ := hb; exact ⟨h1, u2, rfl, v, h2, h _ _ h3⟩
  | panic ch => exact ⟨hb.1, u2, rfl, h _ _ hb.2⟩
  | outgrown => exact ⟨u2, h _ _ hb⟩
  | exit _ => exact hb
  | goto _ => exact hb
/-- what recover tells, and the mode of the frame that it was called for -/
def RecB (u : FrameMode) (v : Value) (u2 : FrameMode) : Prop := (u = .returning ∧ v = .nilIface ∧ u2 = .returning) ∨ (∃ older, u = .panicking ({ v := v, recovered := false } :: older) ∧ u2 = .panicking ({ v := v, recovered := true } :: older))
theorem callsD_rec {f : FuncId} {fn : Func} {id d : Nat} {ty : TypeId} {pos : String} {body : Code} {args : List Value} {w : World} {F : List Nat} {m : List HP} {N : Nat} {u u2 : FrameMode} {v : Value} {R : Ending → World → Prop}
    (hf : P.funcs[f]? = some fn) (hb : fn.body = some (.seq (.region id #[⟨some d, .call ⟨.builtin .recover, #[], #[]⟩, ty, pos, #[], none⟩] false) body)) (hN : fn.ntmps = N) (hl : args.length ≤ N) (hd : d < N)
    (hr : RecB u v u2) (hm : Own m F w) (h : CW P ⟨N, [], w, F⟩ (QBody P fn R) body ((d, v) :: argEnv 0 args) m) : CallsD P f args.toArray u w fun e u' w' => u' = u2 ∧ R e w' := by
  refine callsD_of_wpS hf hb fun c₀ cs hu => ?_
  have hfit : Fits N [] { tmps := args.toArray ++ Array.replicate (fn.ntmps - args.toArray.size) undef, defers := [] } (argEnv 0 args) := by
    refine ⟨by simp; omega, rfl, fun n v hv => ?_⟩
    obtain ⟨_, h2⟩ := find_argEnv _ _ _ _ hv
    have hlt : n < args.length := by simpa using (List.getElem?_eq_some_iff.1 h2).1
    rw [Array.getD_eq_getD_getElem?, Array.getElem?_append_left (by simpa using hlt)]
    simp at h2
    simp [h2]
  have key := wpS_of_wp (cs := { c₀ with mode := u2 } :: cs) (wp_mono (h.run _ _ (hfit.put hd v) (Holds.start hm)) (bodyS_of (c₀ := c₀) (cs := cs) (R' := fun e u' w' => u' = u2 ∧ R e w') fun e w hR => ⟨rfl, hR⟩))
  generalize ({ tmps := args.toArray ++ Array.replicate (fn.ntmps - args.toArray.size) undef, defers := [] } : Act) = a at *
  apply wpS_seq
  apply wpS_region
  rcases hr with ⟨rfl, rfl, rfl⟩ | ⟨older, rfl, rfl⟩
  · have e : ({ c₀ with mode := FrameMode.returning } : Frame) = c₀ := by cases c₀; simp at hu; simp [hu]
    rw [e] at key
    simpa [wpOpsS, go_sem, recoverD, hu, Exit.thenS] using key
  · simpa [wpOpsS, go_sem, recoverD, hu, Exit.thenS] using key
end
end Go.Proofs.YtllgkdkjcbohcaaGreatDoor
namespace Go.Proofs.YtllgkdkjcbohcaaGreatDoor
open Go.RowKit
set_option maxHeartbeats 16000000 in
set_option maxRecDepth 100000 in
theorem eval_fresh (a : ArrM) (G : Rd) (w : World) (hS : Rd.le G w.cell?) (ha : ArrG G a) (h6 : a.shape.xs.length ≤ 4294967280) (h7 : a.data.xs.length ≤ 4294967280) :
    Calls Tryz.prog 65 #[arrV a] w (Tells arrV (fun z G' => z.arr = a.arr ∧ ArrG G' z) G w) := by
  refine enterR (args := [_]) (m := []) (F := []) hS.sub rfl Tryz.func65 rfl Tryz.ntmps65 (by simp) ?_
  clear hS
  (repeat' ((fail_if_success refine zc8 ?_); (first|refine zza ?_|refine zzb fun w hw => ?_|refine zzh fun _ => ?_|refine zzi fun _ _ => ?_|refine zzj (fun _ => ?_) fun _ => ?_)))
  rename_i b1 b2
  refine CW_perm 9 [0, 1, 2, 3, 5, 6, 4, 7, 8] [boxB b1 a, ro w [] G] [(2, ptrV b2)] zcov (pm := [zB b2]) zent (by kernel_rfl) (by decide +kernel) (by kernel_rfl) ?_
  (refine WP_op rfl rfl rfl zyi ?_)
  (refine WP_op rfl rfl rfl zyi ?_)
  (refine WP_op rfl rfl rfl zyi ?_)
  (refine WP_op rfl rfl rfl zyi ?_)
  (refine WP_op rfl rfl rfl zyi ?_)
  (refine WP_op rfl rfl rfl zyi ?_)
  refine WP_callT (r := [zB b2, boxB b1 a]) rfl zent (by kernel_rfl) rfl rfl rfl (fun W hS => clone_T ha.shape h6 hS) (fun G' hg => ⟨[zB b2], Ent.cons zpk (Ent.cons zpk (Ent.roLe hg.1 .here Ent.nil))⟩) ?_
  rintro ⟨q1, k1⟩ G1 r1 g1
  refine WP_callT (r := [zB b2, boxB b1 a]) rfl zent (by kernel_rfl) rfl rfl rfl (fun W hS => clone_T (ha.data.mono g1.1) h7 hS) (fun G' hg => ⟨[zB b2], Ent.cons zpk (Ent.cons zpk (Ent.roLe (Rd.le_trans g1.1 hg.1) .here Ent.nil))⟩) ?_
  rintro ⟨q2, k2⟩ G2 r2 g2
  (refine WP_op rfl rfl rfl zyi ?_)
  refine WP_end ?_
  ((repeat' (first|refine zza ?_|refine zc9 ?_|refine zzb fun w hw => ?_|refine zzh fun _ => ?_|refine zzi fun _ _ => ?_|refine zu1 ?_|refine zu2 ?_|refine zu3 ?_|refine zu4 fun _ => ?_|refine zzj (fun _ => ?_) fun _ => ?_)); (repeat' (refine CW_seq ?_; (repeat' (first|refine zza ?_|refine zc9 ?_|refine zzb fun w hw => ?_|refine zzh fun _ => ?_|refine zzi fun _ _ => ?_|refine zu1 ?_|refine zu2 ?_|refine zu3 ?_|refine zu4 fun _ => ?_|refine zzj (fun _ => ?_) fun _ => ?_)))))
  exact ⟨⟨a.char, ⟨q1, k1, a.shape.xs⟩, ⟨q2, k2, a.data.xs⟩⟩, G2, ⟨rfl, r1.mono g2.1, r2, ha.shapeI, ha.dataI⟩, by kernel_rfl, Rd.grow_tr g1 g2, hw.ent (Ent.cons zpk Ent.nil)⟩
abbrev resB (b6 b7 b8 : Nat) (v6 : ArrM) (v7 : Int) (v8 : Value) : List HP := [boxB b6 v6, blk b7 3 #[.int .i64 v7], blk b8 24 #[v8]]
set_option maxRecDepth 100000 in
theorem vcatch_idle (b6 b7 b8 : Nat) (w : World) :
    CallsD Tryz.prog 91 #[ptrV b6, ptrV b7, ptrV b8] .returning w fun e u w' => u = .returning ∧ (e = .returned (.tuple #[]) ∧ Below w.heap.size w w') := by
  refine callsD_rec (args := [_, _, _]) (m := []) (F := []) Tryz.func91 rfl Tryz.ntmps91 (by simp) (by decide) (.inl ⟨rfl, rfl, rfl⟩) rfl ?_
  (repeat' (first|refine zza ?_|refine zc9 ?_|refine zzb fun w hw => ?_|refine zzh fun _ => ?_|refine zzi fun _ _ => ?_|refine zzj (fun _ => ?_) fun _ => ?_))
  exact ⟨rfl, hw.below⟩
set_option maxRecDepth 100000 in
theorem vcatch (b6 b7 b8 : Nat) (v6 : ArrM) (v7 : Int) (v8 : Value) (c : Int) (w : World) (F : List Nat) (hm : Own (resB b6 b7 b8 v6 v7 v8) F w) :
    CallsD Tryz.prog 91 #[ptrV b6, ptrV b7, ptrV b8] (.panicking (errE c)) w fun e u w' => u = .panicking [{ v := .iface 49 (.int .i64 c), recovered := true }] ∧ (e = .returned (.tuple #[]) ∧ Holds w F (resB b6 b7 b8 zeroM 0 (.iface 49 (.int .i64 c))) w') := by
  refine callsD_rec (args := [_, _, _]) Tryz.func91 rfl Tryz.ntmps91 (by simp) (by decide) (.inr ⟨[], rfl, rfl⟩) hm ?_
  ((repeat' (first|refine zza ?_|refine zc9 ?_|refine zzb fun w hw => ?_|refine zzh fun _ => ?_|refine zzi fun _ _ => ?_|refine zu1 ?_|refine zu2 ?_|refine zu3 ?_|refine zu4 fun _ => ?_|refine zzj (fun _ => ?_) fun _ => ?_)); (repeat' (refine CW_seq ?_; (repeat' (first|refine zza ?_|refine zc9 ?_|refine zzb fun w hw => ?_|refine zzh fun _ => ?_|refine zzi fun _ _ => ?_|refine zu1 ?_|refine zu2 ?_|refine zu3 ?_|refine zu4 fun _ => ?_|refine zzj (fun _ => ?_) fun _ => ?_)))))
  exact ⟨rfl, hw.ent zent⟩
end Go.Proofs.YtllgkdkjcbohcaaGreatDoor
namespace Go.Proofs.YtllgkdkjcbohcaaGreatDoor
open Go.RowKit
/-- a slice of strings of the call's own -/
theorem Holds.strs {w0 w : World} {F : List Nat} {m r : List HP} {e : TypeId} {n c : Nat} {p : Option Addr} {xs : List (List UInt8)} (hh : Holds w0 F m w) (hp : Pick m (sl e 1 p n c (xs.map fun l => Value.string ⟨l.toArray⟩)) r) :
    n = xs.length ∧ ((xs = [] ∧ n = 0) ∨ ∃ b, p = some ⟨b, 0, none⟩ ∧ b < w.heap.size ∧ n ≤ c ∧ ∀ (j : Nat) x, (xs.map fun l => (⟨l.toArray⟩ : ByteArray))[j]? = some x → w.cell? ⟨b, 0 + j, none⟩ = some (.string x)) := by
  have h := hh.slR hp
  have hn : n = xs.length := by have := h.1; simp at this; omega
  refine ⟨hn, ?_⟩
  rcases h.2 with ⟨hv, h0⟩ | ⟨g, cap, cur, hv, _, hg, hnc, hcm, hcs, ht⟩
  · exact .inl ⟨List.eq_nil_of_length_eq_zero (by omega), h0⟩
  · simp only [Value.slice.injEq] at hv
    obtain ⟨rfl, _, rfl⟩ := hv
    refine .inr ⟨g, rfl, (Array.getElem?_eq_some_iff.1 hg).1, hnc, fun j x hx => ?_⟩
    rw [List.getElem?_map] at hx
    cases hj : xs[j]? with
    | none => rw [hj] at hx; cases hx
    | some l =>
      rw [hj] at hx
      simp only [Option.map_some, Option.some.injEq] at hx
      subst hx
      have h1 := h.cells (g := g) rfl j (.string ⟨l.toArray⟩) (by simp [hj])
      rw [Nat.zero_add]
      have e : (⟨g, 0, none⟩ : Addr).add j = ⟨g, j, none⟩ := by unfold Addr.add; split <;> simp_all
      first | exact h1 | (rw [e] at h1; exact h1)
theorem lens_join (xs : List (List UInt8)) (B : Nat) (h : ∀ x ∈ xs, x.length ≤ B) : (Lib.join xs [32]).length ≤ (B + 1) * xs.length := by
  have key : ∀ r : List (List UInt8), (∀ x ∈ r, x.length ≤ B) → (Lib.joinTail [32] r).length ≤ (B + 1) * r.length := by
    intro r
    induction r with
    | nil => intro _; simp [Lib.joinTail]
    | cons x r ih =>
      intro h
      have h1 := h x (by simp)
      have h2 := ih fun y hy => h y (by simp [hy])
      have e : Lib.joinTail [32] (x :: r) = 32 :: (x ++ Lib.joinTail [32] r) := by simp [Lib.joinTail]
      rw [e, List.length_cons, List.length_append, List.length_cons, Nat.mul_add]
      omega
  cases xs with
  | nil => simp [Lib.join_nil]
  | cons x r =>
    rw [Lib.join_cons, List.length_append, List.length_cons, Nat.mul_add]
    have h1 := h x (by simp)
    have h2 := key r fun y hy => h y (by simp [hy])
    omega
/-- words as they may come -/
structure ToksOk (ts : List Tok) : Prop where
  num : ∀ t ∈ ts, I64 t.num
  txt : ∀ t ∈ ts, t.text.length ≤ 4294967280
theorem join_call (xs : List (List UInt8)) (h : (Lib.join xs [32]).length ≤ 140737488355328) (hx : xs.length ≤ 1000) {w0 w : World} {F : List Nat} {m r : List HP} {n c : Nat} {p : Option Addr} (hh : Holds w0 F m w) (hp : Pick m (sl 9 1 p n c (xs.map fun l => Value.string ⟨l.toArray⟩)) r) :
    Calls Tryz.prog 111 #[.slice p n c, .string ⟨#[32]⟩] w fun e w' => e = .returned (.string ⟨(Lib.join xs [32]).toArray⟩) ∧ Below w.heap.size w w' := by
  obtain ⟨hn, ⟨rfl, h0⟩ | ⟨b, rfl, hb, hc, hcell⟩⟩ := hh.strs hp
  · subst h0
    exact (Tryz.strings_Join_none p c ⟨#[32]⟩ w).mono fun e w' ⟨he, hw⟩ => ⟨he, hw ▸ Below.refl _ _⟩
  · have e1 : (xs.map fun l => (⟨l.toArray⟩ : ByteArray)).map (·.data.toList) = xs := by simp [List.map_map, Function.comp_def]
    have := Tryz.strings_Join b 0 c (xs.map fun l => (⟨l.toArray⟩ : ByteArray)) ⟨#[32]⟩ w hcell hb (by simp; omega) (by simp; omega) (by rw [e1]; exact h)
    rw [e1, List.length_map, ← hn] at this
    exact this
theorem spell_eq {ts : List Tok} (h : ¬ 200 < ts.length) (he : errF ts = 0) : spellF ts = if 1000 < (Lib.join (textsF ts) [32]).length then ([], 7) else (Lib.join (textsF ts) [32], 0) := by
  unfold spellF; rw [if_neg h, if_neg (by rw [he]; simp)]
theorem texts_take {ts : List Tok} {k : Nat} {t : Tok} (h : ts[k]? = some t) : textsF (ts.take (k + 1)) = textsF (ts.take k) ++ [(speltF t).1] := by
  unfold textsF; rw [List.take_add_one, h]; simp
set_option maxHeartbeats 1000000 in
set_option maxRecDepth 100000 in
theorem lex_Spell (p : Option Addr) (c : Nat) (ts : List Tok) (w : World) (hR : Row tokE 5 w.cell? p c ts) (hk : ToksOk ts) (hG : GlobA w) :
    Calls Tryz.prog 58 #[.slice p ts.length c] w fun e w' => e = .returned (.tuple #[.string ⟨(spellF ts).1.toArray⟩, errV 49 (spellF ts).2]) ∧ Below w.heap.size w w' := by
  have hlen := hR.len
  by_cases h200 : 200 < ts.length
  · refine enterR (G := w.cell?) (args := [_]) (m := []) (Rd.sub_cell w) rfl Tryz.func58 rfl Tryz.ntmps58 (by simp) ?_
    (repeat' (first|refine zza ?_|refine zc9 ?_|refine zzb fun w hw => ?_|refine zzh fun _ => ?_|refine zzi fun _ _ => ?_|refine zzj (fun _ => ?_) fun _ => ?_))
    exact ⟨by unfold spellF; rw [if_pos h200]; rfl, hw.below⟩
  refine enterR (G := w.cell?) (args := [_]) (m := []) (Rd.sub_cell w) rfl Tryz.func58 rfl Tryz.ntmps58 (by simp) ?_
  (repeat' (first|refine zza ?_|refine zc9 ?_|refine zzb fun w hw => ?_|refine zzh fun _ => ?_|refine zzi fun _ _ => ?_|refine zzj (fun _ => ?_) fun _ => ?_))
  refine CW_ent (m' := [sl 9 1 none 0 0 [], ro w [] w.cell?]) (Ent.nilown zent) ?_
  refine CW_loopK [(0,_),(14,_),(15,_)] zcov (fun x : Nat × Option Addr × Nat => [(16, .int .i64 x.1), (4, .slice x.2.1 x.1 x.2.2)]) (fun x => [sl 9 1 x.2.1 x.1 x.2.2 ((textsF (ts.take x.1)).map fun l => Value.string ⟨l.toArray⟩), ro w [] w.cell?]) (fun x => x.1 ≤ ts.length ∧ errF ts = errF (ts.drop x.1)) (fun x => ts.length - x.1) (0, none, 0) ⟨Nat.zero_le _, rfl⟩ zcov Ent.refl ?_
  rintro ⟨k, q, cq⟩ ⟨hkl, hz⟩
  dsimp only at hkl hz ⊢
  by_cases hlt : k < ts.length
  · have hg := get_some hlt default
    have hm := List.mem_of_getElem? hg
    have htt := texts_take hg
    rw [drop_cons hg, errF] at hz
    have hS := fun W hb => lex_spelt (ts.getD k default) (hk.num _ hm) (hk.txt _ hm) W (hG.below hb)
    (repeat' (first|refine zza ?_|refine zc9 ?_|refine zzb fun w hw => ?_|refine zzh fun _ => ?_|refine zzi fun _ _ => ?_|refine zzj (fun _ => ?_) fun _ => ?_))
    by_cases he : (speltF (ts.getD k default)).2 = 0
    · rw [if_pos he] at hz
      rw [he, errV_zero] at hS
      (apply WL_callV; rfl; rfl; rfl; (intro W hW; exact hS W hW.below))
      (repeat' (first|refine zza ?_|refine zc9 ?_|refine zzb fun w hw => ?_|refine zzh fun _ => ?_|refine zzi fun _ _ => ?_|refine zzj (fun _ => ?_) fun _ => ?_))
      rename_i b1 b2 q2 c2
      refine EX_loop' (k + 1, q2, c2) ⟨zcov, ?_, by dsimp only; omega, by dsimp only; omega, hz⟩
      dsimp only
      rw [htt, List.map_append]
      exact zent
    · rw [if_neg he] at hz
      rw [errV_ne he] at hS
      (apply WL_callV; rfl; rfl; rfl; (intro W hW; exact hS W hW.below))
      (repeat' (first|refine zza ?_|refine zc9 ?_|refine zzb fun w hw => ?_|refine zzh fun _ => ?_|refine zzi fun _ _ => ?_|refine zzj (fun _ => ?_) fun _ => ?_))
      have hsp : spellF ts = ([], errF ts) := by unfold spellF; rw [if_neg h200, if_pos (by rw [hz]; exact he)]
      exact ⟨by rw [hsp, hz, errV_ne he]; rfl, hw.below⟩
  · have hkl : k = ts.length := by omega
    subst hkl
    rw [List.drop_length] at hz
    have hsp := spell_eq h200 hz
    have hjl := lens_join (textsF ts) (2 * 4294967280 + 22) (fun x hx => by
      obtain ⟨t, ht, rfl⟩ := List.mem_map.1 hx
      exact spelt_len (hk.num t ht) (hk.txt t ht))
    have htl : (textsF ts).length = ts.length := by simp [textsF]
    rw [htl] at hjl
    rw [List.take_length]
    (repeat' (first|refine zza ?_|refine zc9 ?_|refine zzb fun w hw => ?_|refine zzh fun _ => ?_|refine zzi fun _ _ => ?_|refine zzj (fun _ => ?_) fun _ => ?_))
    (apply WL_callV; rfl; rfl; rfl; (intro W hW; exact join_call (textsF ts) (by omega) (by omega) hW .here))
    by_cases h1 : 1000 < (Lib.join (textsF ts) [32]).length
    · rw [if_pos h1] at hsp
      (repeat' (first|refine zza ?_|refine zc9 ?_|refine zzb fun w hw => ?_|refine zzh fun _ => ?_|refine zzi fun _ _ => ?_|refine zzj (fun _ => ?_) fun _ => ?_))
      exact ⟨by rw [hsp]; rfl, hw.below⟩
    · rw [if_neg h1] at hsp
      (repeat' (first|refine zza ?_|refine zc9 ?_|refine zzb fun w hw => ?_|refine zzh fun _ => ?_|refine zzi fun _ _ => ?_|refine zzj (fun _ => ?_) fun _ => ?_))
      exact ⟨by rw [hsp, errV_zero], hw.below⟩
end Go.Proofs.YtllgkdkjcbohcaaGreatDoor
