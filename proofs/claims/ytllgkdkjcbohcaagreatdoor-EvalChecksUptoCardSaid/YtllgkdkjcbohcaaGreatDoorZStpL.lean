/-
  The logic of walks: calls of function values that bear what they captured; boxes and rows of ints that may only be read. Of no program.
  The logic of walks: parts of a drawn region that make ints, a variable, or call what makes things of its own; calls of function values. Of no program.
-/
import Derived.Test.YtllgkdkjcbohcaaGreatDoorZGo
import Derived.Test.YtllgkdkjcbohcaaGreatDoorZDefer
import Derived.Test.YtllgkdkjcbohcaaGreatDoorZOpenArr
namespace Go.Proofs.YtllgkdkjcbohcaaGreatDoor
open Go.RowKit
section
variable {P : Program} {K : Cx} {ρ ρp : Env} {m m0 m' r : List HP} {dst : Option Nat} {ty t t' : TypeId} {pos : String} {aft : Array Edge} {g : Option (Nat × Bool)} {v : Value} {x y z : Operand} {ops : Array Oper} {Q : Exit → Act → World → Prop} {rest : List Oper} {d : Nat} {G : Rd} {xs : List Operand} {ats : Array TypeId} {vs cap : List Value} {f : FuncId}
theorem run_enterY {N : Nat} {D : List Deferred} {a : Act} (hf : Fits N D a ρ) [S : FnT P f] (hy : opv ρ y = some (.func (.func f) #[] cap.toArray)) (hx : opvs ρ xs = some vs) (w : World) :
    (execOp a.eval ⟨dst, .call ⟨.value y, xs.toArray, ats⟩, ty, pos, aft, g⟩).run P w = .ok (.enter f (vs ++ cap).toArray) w := by
  have h1 := opvs_eval hf hx
  obtain ⟨fn, c, hfn, hb, hnm⟩ := S.ok
  simp only [execOp, resolve, List.map_toArray, h1, hf.eval hy]
  simp [Deferred.ofValue, invoke, callFunc, hfn, hb, hnm, go_sem]
/-- a function value that turns nothing and tells a known value -/
theorem WQ_callY {L : Act → Prop} [S : FnT P f] (hy : opv ρ y = some (.func (.func f) #[] cap.toArray)) (hx : opvs ρ xs = some vs) (hg : guardB ops g ρ = some true)
    (hn : (guardN K.N ops g && Nat.blt d K.N) = true) (hc : ∀ w, Holds K.w0 K.F m w → Calls P f (vs ++ cap).toArray w fun e w' => e = .returned v ∧ Below w.heap.size w w')
    (k : WQ P K ops L rest ((d, v) :: ρ) m) : WQ P K ops L (⟨some d, .call ⟨.value y, xs.toArray, ats⟩, ty, pos, aft, g⟩ :: rest) ρ m := by
  refine ⟨fun a hf => ?_⟩
  simp only [Bool.and_eq_true] at hn
  unfold wpQuiet
  rw [if_pos (guard_wanted hf hg (guardN_spec hn.1))]
  refine ⟨v, fun w hw => ?_, k.run _ (hf.put (blt_lt hn.2) v)⟩
  unfold Oper.quietAt
  rw [run_enterY hf hy hx]
  exact ⟨rfl, (hc w hw).mono fun _ _ ⟨he, hb⟩ => ⟨he, hw.grow hb⟩⟩
/-! ## what may only be read -/
theorem addr_box (b j : Nat) : (addrAt (some ⟨b, 0, none⟩) (0 * j)) = (⟨b, 0, none⟩ : Addr) := by
  rw [Nat.zero_mul]
  rfl
theorem rd_box {α : Type} {enc : α → List Value} {sz c b : Nat} {u : α} (hR : Row enc sz G (some ⟨b, 0, none⟩) c [u]) (hp : Pick m (ro K.w0 K.F G) r) : RdC K m ⟨b, 0, none⟩ (enc u) := by
  have := rd_row (i := 0) (K := K) hR hp rfl
  rwa [addr_box] at this
theorem rd_boxF {α : Type} {enc : α → List Value} {sz c b j : Nat} {u : α} (hR : Row enc sz G (some ⟨b, 0, none⟩) c [u]) (hp : Pick m (ro K.w0 K.F G) r) (hv : (enc u)[j]? = some v) : RdC K m ((⟨b, 0, none⟩ : Addr).add j) [v] := by
  have := rd_rowF (i := 0) (K := K) hR hp rfl hv
  rwa [addr_box] at this
theorem rd_rowI {c i : Nat} {p : Option Addr} {xs : List Int} (hR : Row encI 1 G p c xs) (hp : Pick m (ro K.w0 K.F G) r) (hi : i < xs.length) : RdC K m (addrAt p (i * 1)) [.int .i64 (xs.getD i 0)] :=
  rd_row (enc := encI) hR hp (by rw [List.getElem?_eq_getElem hi]; simp [List.getD, List.getElem?_eq_getElem hi])
theorem rd_box1 {c b : Nat} {u : Value} (hR : Row (fun v : Value => [v]) 1 G (some ⟨b, 0, none⟩) c [u]) (hp : Pick m (ro K.w0 K.F G) r) : RdC K m ⟨b, 0, none⟩ [u] := rd_box (enc := fun v : Value => [v]) (u := u) hR hp
end
section
variable {P : Program} {K : Cx} {ρ : Env} {m : List HP} {ty : TypeId} {pos : String} {aft : Array Edge} {g : Option (Nat × Bool)} {v : Value} {ops : Array Oper} {Q : Exit → Act → World → Prop} {rest : List Oper} {d : Nat} {op : Op}
theorem zu1 (k : WL P K ops Q rest ((d, v) :: ρ) m) (h : Yi P K ρ m ⟨some d, op, ty, pos, aft, g⟩ v := by (first | (apply y_load; rfl; apply rd_boxF; assumption; exact zpk; rfl) | (apply y_loadA; rfl; apply rd_box; assumption; exact zpk; rfl) | (apply y_load; rfl; apply rd_box1; assumption; exact zpk) | (apply y_load; rfl; apply rd_rowI; assumption; exact zpk; omega) | exact y_makeFunc rfl)) (hg : guardB ops g ρ = some true := by rfl) (hn : (guardN K.N ops g && Nat.blt d K.N) = true := by rfl) : WL P K ops Q (⟨some d, op, ty, pos, aft, g⟩ :: rest) ρ m := WL_op hg hn h k
theorem zu2 {L : Act → Prop} (k : WQ P K ops L rest ((d, v) :: ρ) m) (h : Yi P K ρ m ⟨some d, op, ty, pos, aft, g⟩ v := by (first | (apply y_load; rfl; apply rd_boxF; assumption; exact zpk; rfl) | (apply y_loadA; rfl; apply rd_box; assumption; exact zpk; rfl) | (apply y_load; rfl; apply rd_box1; assumption; exact zpk) | (apply y_load; rfl; apply rd_rowI; assumption; exact zpk; omega) | exact y_makeFunc rfl)) (hg : guardB ops g ρ = some true := by rfl) (hn : (guardN K.N ops g && Nat.blt d K.N) = true := by rfl) : WQ P K ops L (⟨some d, op, ty, pos, aft, g⟩ :: rest) ρ m := WQ_op hg hn h k
theorem zu3 {L : Act → Cl → Prop} (k : WB P K ops L rest ((d, v) :: ρ) m) (h : Yi P K ρ m ⟨some d, op, ty, pos, aft, g⟩ v := by (first | (apply y_load; rfl; apply rd_boxF; assumption; exact zpk; rfl) | (apply y_loadA; rfl; apply rd_box; assumption; exact zpk; rfl) | (apply y_load; rfl; apply rd_box1; assumption; exact zpk) | (apply y_load; rfl; apply rd_rowI; assumption; exact zpk; omega) | exact y_makeFunc rfl)) (hg : guardB ops g ρ = some true := by rfl) (hn : (guardN K.N ops g && Nat.blt d K.N) = true := by rfl) : WB P K ops L (⟨some d, op, ty, pos, aft, g⟩ :: rest) ρ m := WB_op hg hn h k
/-- a box for a value of one cell -/
theorem WL_boxV {t : TypeId} {x : Operand} (hx : opv ρ x = some v) (h1 : v.cells = #[v]) (hg : guardB ops g ρ = some true) (hn : (guardN K.N ops g && Nat.blt d K.N) = true) (k : ∀ b : Nat, WL P K ops Q rest ((d, .pointer (some ⟨b, 0, none⟩)) :: ρ) (blk b t #[v] :: m)) :
    WL P K ops Q (⟨some d, .box t x, ty, pos, aft, g⟩ :: rest) ρ m := by
  refine ⟨fun a w hf hm => ?_⟩
  simp only [Bool.and_eq_true] at hn
  unfold wpList
  rw [if_pos (guard_wanted hf hg (guardN_spec hn.1))]
  refine .inl ?_
  have h : (execOp a.eval ⟨some d, .box t x, ty, pos, aft, g⟩).run P w = .ok (.value (.pointer (some ⟨w.heap.size, 0, none⟩))) (w.alloc (.cells #[v] t)) := by
    unfold Value.cells at h1
    simp only [execOp, hf.eval hx]; simp [go_sem, h1]
  unfold Oper.wp
  rw [h, Oper.upon_value]
  exact (k _).run _ _ (hf.put (blt_lt hn.2) _) (hm.new t #[v])
theorem zu4 {t : TypeId} {x : Operand} (k : ∀ b : Nat, WL P K ops Q rest ((d, .pointer (some ⟨b, 0, none⟩)) :: ρ) (blk b t #[v] :: m)) (hx : opv ρ x = some v := by rfl) (h1 : v.cells = #[v] := by rfl) (hg : guardB ops g ρ = some true := by rfl) (hn : (guardN K.N ops g && Nat.blt d K.N) = true := by rfl) :
    WL P K ops Q (⟨some d, .box t x, ty, pos, aft, g⟩ :: rest) ρ m := WL_boxV hx h1 hg hn k
end
end Go.Proofs.YtllgkdkjcbohcaaGreatDoor
namespace Go.Proofs.YtllgkdkjcbohcaaGreatDoor
open Go.RowKit
section
variable {P : Program} {K : Cx} {ρ : Env} {m m0 r : List HP} {t t' ty e : TypeId} {pos : String} {aft : Array Edge} {x y : Operand} {ops : Array Oper} {d i n bytes : Nat} {G : Rd} {next : Env → List HP → Prop} {zs : List Value}
theorem Stp_makeI [S : ElT P t e 1 [.int .i64 0] bytes] {kl kc : IntKind} (ho : ops[i]? = some ⟨some d, .makeSlice t x y, ty, pos, aft, none⟩) (hx : opv ρ x = some (.int kl (n : Int))) (hy : opv ρ y = some (.int kc (n : Int))) (hb : bytes * n ≤ 281474976710656) (hmax : n ≤ 281474976710656) (hd : Nat.blt d K.N = true)
    (k : ∀ b : Nat, next ((d, .slice (some ⟨b, 0, none⟩) n n) :: ρ) (sl e 1 (some ⟨b, 0, none⟩) n n ((List.replicate n (0 : Int)).map (Value.int .i64)) :: m)) : Stp P K ops m0 i ρ m next := by
  refine ⟨d, _, ty, pos, aft, ho, blt_lt hd, Nat, fun b => .slice (some ⟨b, 0, none⟩) n n, fun b => sl e 1 (some ⟨b, 0, none⟩) n n ((List.replicate n (0 : Int)).map (Value.int .i64)) :: m, fun r a w _ hf hm => ?_, k⟩
  obtain ⟨i, z', hi, hz, hsz, hby, hzs⟩ := S.info
  obtain ⟨w', hrun, r1, r2⟩ := run_make_full (P := P) w w.heap.size t e i z' 1 S.und hi hz hsz kl kc n (by rw [hby]; exact hb) (by unfold maxLen; omega) (Nat.le_refl _)
  rw [hzs, made_one] at r1
  have hrun' : (execOp a.eval ⟨some d, .makeSlice t x y, ty, pos, aft, none⟩).run P w = .ok (.value (.slice (some ⟨w.heap.size, 0, none⟩) n n)) w' := by
    simp only [execOp, hf.eval hx, hf.eval hy]
    simp [hrun]
  rw [hrun', List.map_replicate]
  refine ⟨w.heap.size, rfl, ?_⟩
  refine Holds.add (m1 := [sl e 1 (some ⟨w.heap.size, 0, none⟩) n n (List.replicate n (.int .i64 0))]) hm ⟨keep_grown r2 (by simp), [w.heap.size], ⟨[w.heap.size], [], rfl, ⟨rfl, r1.1, ?_⟩, rfl, by simp⟩, fun i hi hl => ?_⟩
  · rcases r1.2 with h | ⟨g, cap, cur, hv, _, r⟩
    · exact .inl h
    · exact .inr ⟨g, cap, cur, hv, Nat.zero_le _, r⟩
  · have : i = w.heap.size := by simpa using hi
    omega
theorem Stp_alloc [S : ZT P t zs] (ho : ops[i]? = some ⟨some d, .alloc t, ty, pos, aft, none⟩) (hd : Nat.blt d K.N = true)
    (k : ∀ b : Nat, next ((d, .pointer (some ⟨b, 0, none⟩)) :: ρ) (blk b t zs.toArray :: m)) : Stp P K ops m0 i ρ m next := by
  refine ⟨d, _, ty, pos, aft, ho, blt_lt hd, Nat, fun b => .pointer (some ⟨b, 0, none⟩), fun b => blk b t zs.toArray :: m, fun r a w _ hf hm => ?_, k⟩
  obtain ⟨z, hz, hc⟩ := S.ok
  have h : (execOp a.eval ⟨some d, .alloc t, ty, pos, aft, none⟩).run P w = .ok (.value (.pointer (some ⟨w.heap.size, 0, none⟩))) (w.alloc (.cells zs.toArray t)) := by
    have hz' := hz w
    simp only [execOp, Instr.alloc]
    simp only [go_sem, Sem.run_bind, hz', Result.andThen_ok]
    unfold Value.cells at hc
    simp [hc]
  rw [h]
  exact ⟨w.heap.size, rfl, hm.new t zs.toArray⟩
/-- a call that reads and makes things of its own -/
theorem Stp_callX {f : FuncId} [S : FnT P f] {ops' : List Operand} {ats : Array TypeId} {vs : List Value} {r2 : List HP} (hro : Pick m0 (ro K.w0 K.F G) r2) (ho : ops[i]? = some ⟨some d, .call ⟨.value (.func f), ops'.toArray, ats⟩, ty, pos, aft, none⟩) (hx : opvs ρ ops' = some vs) (hd : Nat.blt d K.N = true) {X : Type} {V : X → Value} {M : X → List HP} {I : X → Prop}
    (hc : ∀ w, Rd.le G w.cell? → Calls P f vs.toArray w fun e w' => ∃ x, I x ∧ e = .returned (V x) ∧ Holds w [] (M x) w')
    (k : ∀ x, I x → next ((d, V x) :: ρ) (M x ++ m)) : Stp P K ops m0 i ρ m next := by
  refine ⟨d, _, ty, pos, aft, ho, blt_lt hd, { x : X // I x }, fun x => V x.1, fun x => M x.1 ++ m, fun r a w hr hf hm => ?_, fun x => k x.1 x.2⟩
  obtain ⟨pm, hpm⟩ := hr
  have hle : Rd.le G w.cell? := by
    have h2 : Holds K.w0 K.F m0 w := ((Holds.drop hm).ent hpm).drop
    exact h2.le hro
  rw [run_enter hf hx]
  refine (hc w hle).mono fun e w' hr => ?_
  obtain ⟨z, hz, rfl, hh⟩ := hr
  refine .inl ⟨⟨z, hz⟩, rfl, ?_⟩
  have := hm.add hh
  show Holds K.w0 K.F ((M z ++ m) ++ r) w'
  rw [List.append_assoc]
  exact this
end
section
variable {P : Program} {K : Cx} {ρ : Env} {m r : List HP} {ty : TypeId} {pos : String} {aft : Array Edge} {g : Option (Nat × Bool)} {v : Value} {y : Operand} {ops : Array Oper} {Q : Exit → Act → World → Prop} {rest : List Oper} {d : Nat} {xs : List Operand} {ats : Array TypeId} {vs cap : List Value} {f : FuncId}
/-- a function value that tells a known value -/
theorem WL_callY [S : FnT P f] (hy : opv ρ y = some (.func (.func f) #[] cap.toArray)) (hx : opvs ρ xs = some vs) (hg : guardB ops g ρ = some true) (hn : (guardN K.N ops g && Nat.blt d K.N) = true)
    (hc : ∀ w, Holds K.w0 K.F m w → Calls P f (vs ++ cap).toArray w fun e w' => e = .returned v ∧ Below w.heap.size w w')
    (k : WL P K ops Q rest ((d, v) :: ρ) m) : WL P K ops Q (⟨some d, .call ⟨.value y, xs.toArray, ats⟩, ty, pos, aft, g⟩ :: rest) ρ m := by
  refine ⟨fun a w hf hm => ?_⟩
  simp only [Bool.and_eq_true] at hn
  unfold wpList
  rw [if_pos (guard_wanted hf hg (guardN_spec hn.1))]
  refine .inl ?_
  unfold Oper.wp
  rw [run_enterY hf hy hx, Oper.upon_enter]
  refine (hc w hm).mono fun e w' hr => ?_
  obtain ⟨rfl, hb⟩ := hr
  exact k.run _ _ (hf.put (blt_lt hn.2) _) (hm.grow hb)
end
section
variable {P : Program} {K : Cx} {ρ : Env} {m r : List HP} {ty : TypeId} {fs : List (Nat × Nat)} {zs : List Value}
theorem results_k2 {fn : Func} {n u : Nat} {w : World} {tmps : Array Value} {a : Addr} {cs : List Value} {v1 : Value} [S : StT P ty fs zs] (hr : fn.results = #[.cell n ty, .tmp u]) (ht : tmps.getD n undef = .pointer (some a)) (hc : ∀ j v, cs[j]? = some v → w.cell? (a.add j) = some v) (hl : cs.length = zs.length) (h1 : tmps.getD u undef = v1) : (results fn tmps).run P w = .ok (.tuple #[.agg cs.toArray, v1]) w := by
  have h0 := run_loadCells_list (P := P) (w := w) a cs hc
  rw [hl] at h0
  unfold loadCells at h0
  rw [Array.getD_eq_getD_getElem?] at ht h1
  simp [results, hr, ht, h1, asAddr, loadVar, S.agg, S.size, h0, go_sem]
/-- two results, of which the first lies in a variable -/
theorem EX_retK2 {fn : Func} {R : Ending → World → Prop} {n b off u : Nat} {T : TypeId} {cs : Array Value} {v1 : Value} [S : StT P ty fs zs] (hD : K.D = []) (hr : fn.results = #[.cell n ty, .tmp u]) (ht : ρ.find n = some (.pointer (some ⟨b, off, none⟩))) (h1 : ρ.find u = some v1) (hp : Pick m (blk b T cs) r) (hl : Nat.ble (off + zs.length) cs.toList.length = true)
    (h : ∀ w, Holds K.w0 K.F m w → R (.returned (.tuple #[.agg ((cs.toList.drop off).take zs.length).toArray, v1])) w) : EX K (QBody P fn R) .ret ρ m := ⟨fun a w hf hm => by
  have h0 := Nat.le_of_ble_eq_true hl
  have e1 : ((cs.toList.drop off).take zs.length).length = zs.length := by simp at h0 ⊢; omega
  refine ⟨hf.defs.trans hD, _, results_k2 (P := P) (ty := ty) hr (hf.get n _ ht) (rd_blk (K := K) hp (by rw [e1]) w hm) e1 (hf.get u _ h1), h w hm⟩⟩
end
end Go.Proofs.YtllgkdkjcbohcaaGreatDoor
