/-
  The logic of walks: slices of nothing; a row, empty or not, behind a slice of the call's own. Of no program.
  The logic of walks: functions that turn nothing: what they leave may be read from there on. Of no program.
  The logic of walks: function values; calls that turn the caller's things, or panic; deferred calls. Of no program.
  The logic of walks: calls of function values that bear what they captured; boxes and rows of ints that may only be read. Of no program.
  The logic of walks: parts of a drawn region that make ints, a variable, or call what makes things of its own; calls of function values. Of no program.
-/
import Derived.Test.YtadlpfbjnpbnoaaGreatDoorZGo
import Derived.Test.YtadlpfbjnpbnoaaGreatDoorZPar
import Derived.Test.YtadlpfbjnpbnoaaGreatDoorZPerm
import Derived.Test.YtadlpfbjnpbnoaaGreatDoorZTokRow
import Derived.Test.YtadlpfbjnpbnoaaGreatDoorZRd
import Derived.Defers
import Derived.Recover
import Derived.Test.YtadlpfbjnpbnoaaGreatDoorZOpenArr
namespace Go.Proofs.YtadlpfbjnpbnoaaGreatDoor
open Go.RowKit
section
variable {P : Program} {K : Cx} {ops : Array Oper} {ρ : Env} {m r : List HP} {t ty e : TypeId} {pos : String} {aft : Array Edge} {g : Option (Nat × Bool)} {x y : Operand} {Q : Exit → Act → World → Prop} {rest : List Oper} {d n c sz bytes : Nat} {zs xs : List Value} {p : Option Addr} {G : Rd}
theorem run_append_none0 {w : World} (base : Nat) (i : TypeInfo) (size : Nat) (ht : P.underlying t = some (.slice e)) (hi : P.info? e = some i) (v : Value) (c0 : Nat) (hown : w.ownsRow base e size v n xs) :
    (Builtin.append_ #[t, t] ty #[v, .slice none 0 c0]).run P w = .ok v w := by
  rcases hown.2 with ⟨rfl, rfl⟩ | ⟨g, cap, cur, rfl, _, _, hnc, _⟩
  · simp [Builtin.append_, run_underlying ht, sizeOf, typeInfo, hi, Builtin.lenOf, Builtin.firstCells]
  · simp [Builtin.append_, run_underlying ht, sizeOf, typeInfo, hi, Builtin.lenOf, Builtin.firstCells, hnc, storeCells]
end
end Go.Proofs.YtadlpfbjnpbnoaaGreatDoor
namespace Go.Proofs.YtadlpfbjnpbnoaaGreatDoor
open Go.RowKit
section
variable {P : Program} {K : Cx} {ρ ρp : Env} {m m0 : List HP} {Q : Exit → Act → World → Prop}
theorem CW_cov {x : Code} {ρ' : Env} (h : Cov ρ ρ') (k : CW P K Q x ρ' m) : CW P K Q x ρ m := ⟨fun a w hf hm => k.run a w (hf.cov h) hm⟩
/-- a part of a function's code, by its path -/
def cP : List Nat → Code → Code
  | 0 :: r, .seq x _ => cP r x
  | _ :: r, .seq _ y => cP r y
  | 0 :: r, .cond _ x _ => cP r x
  | _ :: r, .cond _ _ y => cP r y
  | _ :: r, .loop x => cP r x
  | _ :: r, .block _ x => cP r x
  | _, c => c
end
/-- what a function that turns nothing tells: a value, and what may be read then -/
def Tells {X : Type} (V : X → Value) (Φ : X → Rd → Prop) (G : Rd) (w : World) (e : Ending) (w' : World) : Prop := ∃ (x : X) (G' : Rd), Φ x G' ∧ e = .returned (V x) ∧ Rd.grow w G G' ∧ Holds w [] [ro w [] G'] w'
section
variable {P : Program} {K : Cx} {ρ ρp : Env} {m m0 r : List HP} {Q : Exit → Act → World → Prop} {ty : TypeId} {pos : String} {aft : Array Edge} {g : Option (Nat × Bool)} {ops : Array Oper} {d : Nat} {xs : List Operand} {ats : Array TypeId} {vs : List Value} {G : Rd}
theorem own_nil {fp : List Nat} {w : World} (h : Own [] fp w) : fp = [] := h
theorem WL_callT {rest : List Oper} {f : FuncId} [S : FnT P f] (e : Ent m (ro K.w0 K.F G :: r)) (hx : opvs ρ xs = some vs) (hg : guardB ops g ρ = some true) (hn : (guardN K.N ops g && Nat.blt d K.N) = true) {X : Type} {V : X → Value} {Φ : X → Rd → Prop}
    (hc : ∀ w, Rd.sub G [] w → Calls P f vs.toArray w (Tells V Φ G w))
    (k : ∀ x G', Φ x G' → Rd.grow K.w0 G G' → WL P K ops Q rest ((d, V x) :: ρ) (ro K.w0 K.F G' :: r)) : WL P K ops Q (⟨some d, .call ⟨.value (.func f), xs.toArray, ats⟩, ty, pos, aft, g⟩ :: rest) ρ m := by
  refine WL_callG (m1 := []) (r := r) (X := X × Rd) (V := fun x => V x.1) (Gx := fun x => x.2) (M := fun _ => []) (I := fun x => Φ x.1 x.2) e hx hg hn (fun W fp _ hO hS _ => ?_) (fun x hx' hgr => k x.1 x.2 hx' hgr)
  obtain rfl := own_nil hO
  exact (hc W hS).mono fun e w' ⟨x, G', h1, h2, h3, h4⟩ => ⟨(x, G'), h1, h2, h3, h4⟩
end
section
variable {P : Program} {K : Cx} {ρ : Env} {m m0 r : List HP} {ty : TypeId} {pos : String} {aft : Array Edge} {ops : Array Oper} {d i : Nat} {G : Rd} {next : Env → List HP → Prop}
theorem Stp_op {op : Op} {v : Value} (ho : ops[i]? = some ⟨some d, op, ty, pos, aft, none⟩) (hd : Nat.blt d K.N = true) (h : Yi P K ρ [] ⟨some d, op, ty, pos, aft, none⟩ v) (k : next ((d, v) :: ρ) m) : Stp P K ops m0 i ρ m next :=
  ⟨d, op, ty, pos, aft, ho, blt_lt hd, Unit, fun _ => v, fun _ => m, fun r a w _ hf hm => by
    rw [h.run a w hf (hm.ent Ent.nil)]
    exact ⟨(), rfl, hm⟩, fun _ => k⟩
theorem Pr_two {post : Env → List HP → Prop} {S D : List Nat} (i j : Nat) {f : Nat} (hr : (S.filter (rdyB ops D)) = [i, j]) (h : Stp P K ops m0 i ρ m fun ρ' m' => Pr P K ops m0 post f S (i :: D) ρ' m') (h2 : Stp P K ops m0 j ρ m fun ρ' m' => Pr P K ops m0 post f S (j :: D) ρ' m') : Pr P K ops m0 post (f + 1) S D ρ m := by
  have hi : i ∈ S.filter (rdyB ops D) := by rw [hr]; simp
  refine ⟨⟨i, (List.mem_filter.1 hi).1, (List.mem_filter.1 hi).2⟩, fun k hk hrk => ?_⟩
  have : k ∈ S.filter (rdyB ops D) := List.mem_filter.2 ⟨hk, hrk⟩
  rw [hr] at this
  rcases (by simpa using this : k = i ∨ k = j) with rfl | rfl
  · exact h
  · exact h2
end
/-- a slice of one's own may only be read from here on -/
theorem WL_row {α : Type} {enc : α → List Value} {sz : Nat} (hs : ∀ x, (enc x).length = sz) (h0 : 0 < sz) {P : Program} {K : Cx} {ρ : Env} {m r : List HP} {Q : Exit → Act → World → Prop} {ops : Array Oper} {rest : List Oper} {G : Rd} {e : TypeId} {n c : Nat} {p : Option Addr} {xs : List α} (hF : K.F = []) (he : Ent m (ro K.w0 K.F G :: sl e sz p n c (xs.flatMap enc) :: r))
    (k : ∀ G', Rd.grow K.w0 G G' → Row enc sz G' p c xs → WL P K ops Q rest ρ (ro K.w0 K.F G' :: r)) : WL P K ops Q rest ρ m := ⟨fun a w hf hm => by
  obtain ⟨G', g1, g2, g3⟩ := Holds.toRo hs h0 (hm.ent he) (fun _ _ => by rw [hF]; simp)
  exact (k G' g1 g2).run a w hf g3⟩
/-- a slice of one's own is told as a row -/
theorem Tells.sl {α : Type} {enc : α → List Value} {sz : Nat} (hs : ∀ x, (enc x).length = sz) (h0 : 0 < sz) {X : Type} {V : X → Value} {Φ : X → Rd → Prop} {G G0 : Rd} {w w' : World} {e : TypeId} {n c : Nat} {p : Option Addr} {xs : List α} {r : List HP} (x : X) (hg : Rd.grow w G0 G) (hh : Holds w [] (ro w [] G :: Go.Proofs.YtadlpfbjnpbnoaaGreatDoor.sl e sz p n c (xs.flatMap enc) :: r) w') (hp : ∀ G', Rd.grow w G0 G' → Row enc sz G' p c xs → Φ x G') : Tells V Φ G0 w (.returned (V x)) w' := by
  obtain ⟨G', g1, g2, g3⟩ := Holds.toRo hs h0 hh (fun _ _ => by simp)
  exact ⟨x, G', hp G' (Rd.grow_tr hg g1) g2, rfl, Rd.grow_tr hg g1, g3.ent (Ent.cons .here Ent.nil)⟩
theorem Tells.val {X : Type} {V : X → Value} {Φ : X → Rd → Prop} {G G0 : Rd} {w w' : World} {r : List HP} (x : X) (hg : Rd.grow w G0 G) (hh : Holds w [] (ro w [] G :: r) w') (hp : Φ x G) : Tells V Φ G0 w (.returned (V x)) w' := ⟨x, G, hp, rfl, hg, hh.ent (Ent.cons .here Ent.nil)⟩
end Go.Proofs.YtadlpfbjnpbnoaaGreatDoor
namespace Go.Proofs.YtadlpfbjnpbnoaaGreatDoor
open Go.RowKit
theorem Own.blk {w : World} {b : Nat} {T : TypeId} {cs : Array Value} (h : w.heap[b]? = some (.cells cs T (0, 0))) : Own [Go.Proofs.YtadlpfbjnpbnoaaGreatDoor.blk b T cs] [b] w := ⟨[b], [], rfl, ⟨rfl, h⟩, rfl, by simp⟩
/-- a block that was only read -/
theorem Holds.same {w w' : World} {b : Nat} {T : TypeId} {cs : Array Value} {m r : List HP} (hh : Holds w [b] m w') (hp : Pick m (Go.Proofs.YtadlpfbjnpbnoaaGreatDoor.blk b T cs) r) (h : w.heap[b]? = some (.cells cs T (0, 0))) : Below w.heap.size w w' := by
  have h1 := hh.blk hp
  refine ⟨hh.keep.os, hh.keep.tape, hh.keep.output, hh.keep.size, fun k hk => ?_⟩
  by_cases e : k = b
  · subst e; rw [h1, h]
  · exact hh.keep.block k hk (by simpa using e)
section ops
variable {P : Program} {K : Cx} {ρ : Env} {m m' r : List HP} {dst : Option Nat} {ty t t' : TypeId} {pos : String} {aft : Array Edge} {g : Option (Nat × Bool)} {v : Value} {x y z : Operand} {ops : Array Oper} {Q : Exit → Act → World → Prop} {rest : List Oper} {d : Nat} {G : Rd}
/-! ## deferred calls -/
theorem y_makeFunc {f : Fn} {cs : List Operand} {vs : List Value} (hx : opvs ρ cs = some vs) : Yi P K ρ m ⟨dst, .makeFunc f #[] cs.toArray, ty, pos, aft, g⟩ (.func f #[] vs.toArray) := ⟨fun a w hf _ => by
  have h1 := opvs_eval hf hx
  simp only [execOp, List.map_toArray, h1]
  rfl⟩
end ops
end Go.Proofs.YtadlpfbjnpbnoaaGreatDoor
namespace Go.Proofs.YtadlpfbjnpbnoaaGreatDoor
open Go.RowKit
section
variable {P : Program} {K : Cx} {ρ ρp : Env} {m m0 m' r : List HP} {dst : Option Nat} {ty t t' : TypeId} {pos : String} {aft : Array Edge} {g : Option (Nat × Bool)} {v : Value} {x y z : Operand} {ops : Array Oper} {Q : Exit → Act → World → Prop} {rest : List Oper} {d : Nat} {G : Rd} {xs : List Operand} {ats : Array TypeId} {vs cap : List Value} {f : FuncId}
theorem run_enterY {N : Nat} {D : List Deferred} {a : Act} (hf : Fits N D a ρ) [S : FnT P f] (hy : opv ρ y = some (.func (.func f) #[] cap.toArray)) (hx : opvs ρ xs = some vs) (w : World) :
    (execOp a.eval ⟨dst, .call ⟨.value y, xs.toArray, ats⟩, ty, pos, aft, g⟩).run P w = .ok (.enter f (vs ++ cap).toArray) w := by
  have h1 := opvs_eval hf hx
  obtain ⟨fn, c, hfn, hb, hnm⟩ := S.ok
  simp only [execOp, resolve, List.map_toArray, h1, hf.eval hy]
  simp [Deferred.ofValue, invoke, callFunc, hfn, hb, hnm, go_sem]
/-- a function value that turns nothing and tells a known value -/
theorem WQ_callY {L : Act → Prop} [S : FnT P f] (hy : opv ρ y = some (.func (.func f) #[] cap.toArray)) (hx : opvs ρ xs = some vs) (hg : guardB ops g ρ = some true)
    (hn : (guardN K.N ops g && Nat.blt d K.N) = true) (hc : ∀ w, Holds K.w0 K.F m w → Calls P f (vs ++ cap).toArray w fun e w' => e = .returned v ∧ Below w.heap.size w w')
    (k : WQ P K ops L rest ((d, v) :: ρ) m) : WQ P K ops L (⟨some d, .call ⟨.value y, xs.toArray, ats⟩, ty, pos, aft, g⟩ :: rest) ρ m := by
  refine ⟨fun a hf => ?_⟩
  simp only [Bool.and_eq_true] at hn
  unfold wpQuiet
  rw [if_pos (guard_wanted hf hg (guardN_spec hn.1))]
  refine ⟨v, fun w hw => ?_, k.run _ (hf.put (blt_lt hn.2) v)⟩
  unfold Oper.quietAt
  rw [run_enterY hf hy hx]
  exact ⟨rfl, (hc w hw).mono fun _ _ ⟨he, hb⟩ => ⟨he, hw.grow hb⟩⟩
/-! ## what may only be read -/
theorem addr_box (b j : Nat) : (addrAt (some ⟨b, 0, none⟩) (0 * j)) = (⟨b, 0, none⟩ : Addr) := by
  rw [Nat.zero_mul]
  rfl
theorem rd_box {α : Type} {enc : α → List Value} {sz c b : Nat} {u : α} (hR : Row enc sz G (some ⟨b, 0, none⟩) c [u]) (hp : Pick m (ro K.w0 K.F G) r) : RdC K m ⟨b, 0, none⟩ (enc u) := by
  have := rd_row (i := 0) (K := K) hR hp rfl
  rwa [addr_box] at this
theorem rd_boxF {α : Type} {enc : α → List Value} {sz c b j : Nat} {u : α} (hR : Row enc sz G (some ⟨b, 0, none⟩) c [u]) (hp : Pick m (ro K.w0 K.F G) r) (hv : (enc u)[j]? = some v) : RdC K m ((⟨b, 0, none⟩ : Addr).add j) [v] := by
  have := rd_rowF (i := 0) (K := K) hR hp rfl hv
  rwa [addr_box] at this
theorem rd_rowI {c i : Nat} {p : Option Addr} {xs : List Int} (hR : Row encI 1 G p c xs) (hp : Pick m (ro K.w0 K.F G) r) (hi : i < xs.length) : RdC K m (addrAt p (i * 1)) [.int .i64 (xs.getD i 0)] :=
  rd_row (enc := encI) hR hp (by rw [List.getElem?_eq_getElem hi]; simp [List.getD, List.getElem?_eq_getElem hi])
theorem rd_box1 {c b : Nat} {u : Value} (hR : Row (fun v : Value => [v]) 1 G (some ⟨b, 0, none⟩) c [u]) (hp : Pick m (ro K.w0 K.F G) r) : RdC K m ⟨b, 0, none⟩ [u] := rd_box (enc := fun v : Value => [v]) (u := u) hR hp
end
section
variable {P : Program} {K : Cx} {ρ : Env} {m : List HP} {ty : TypeId} {pos : String} {aft : Array Edge} {g : Option (Nat × Bool)} {v : Value} {ops : Array Oper} {Q : Exit → Act → World → Prop} {rest : List Oper} {d : Nat} {op : Op}
theorem zu1 (k : WL P K ops Q rest ((d, v) :: ρ) m) (h : Yi P K ρ m ⟨some d, op, ty, pos, aft, g⟩ v := by (first | (apply y_load; rfl; apply rd_boxF; assumption; exact zpk; rfl) | (apply y_loadA; rfl; apply rd_box; assumption; exact zpk; rfl) | (apply y_load; rfl; apply rd_box1; assumption; exact zpk) | (apply y_load; rfl; apply rd_rowI; assumption; exact zpk; omega) | exact y_makeFunc rfl)) (hg : guardB ops g ρ = some true := by rfl) (hn : (guardN K.N ops g && Nat.blt d K.N) = true := by rfl) : WL P K ops Q (⟨some d, op, ty, pos, aft, g⟩ :: rest) ρ m := WL_op hg hn h k
theorem zu2 {L : Act → Prop} (k : WQ P K ops L rest ((d, v) :: ρ) m) (h : Yi P K ρ m ⟨some d, op, ty, pos, aft, g⟩ v := by (first | (apply y_load; rfl; apply rd_boxF; assumption; exact zpk; rfl) | (apply y_loadA; rfl; apply rd_box; assumption; exact zpk; rfl) | (apply y_load; rfl; apply rd_box1; assumption; exact zpk) | (apply y_load; rfl; apply rd_rowI; assumption; exact zpk; omega) | exact y_makeFunc rfl)) (hg : guardB ops g ρ = some true := by rfl) (hn : (guardN K.N ops g && Nat.blt d K.N) = true := by rfl) : WQ P K ops L (⟨some d, op, ty, pos, aft, g⟩ :: rest) ρ m := WQ_op hg hn h k
theorem zu3 {L : Act → Cl → Prop} (k : WB P K ops L rest ((d, v) :: ρ) m) (h : Yi P K ρ m ⟨some d, op, ty, pos, aft, g⟩ v := by (first | (apply y_load; rfl; apply rd_boxF; assumption; exact zpk; rfl) | (apply y_loadA; rfl; apply rd_box; assumption; exact zpk; rfl) | (apply y_load; rfl; apply rd_box1; assumption; exact zpk) | (apply y_load; rfl; apply rd_rowI; assumption; exact zpk; omega) | exact y_makeFunc rfl)) (hg : guardB ops g ρ = some true := by rfl) (hn : (guardN K.N ops g && Nat.blt d K.N) = true := by rfl) : WB P K ops L (⟨some d, op, ty, pos, aft, g⟩ :: rest) ρ m := WB_op hg hn h k
/-- a box for a value of one cell -/
theorem WL_boxV {t : TypeId} {x : Operand} (hx : opv ρ x = some v) (h1 : v.cells = #[v]) (hg : guardB ops g ρ = some true) (hn : (guardN K.N ops g && Nat.blt d K.N) = true) (k : ∀ b : Nat, WL P K ops Q rest ((d, .pointer (some ⟨b, 0, none⟩)) :: ρ) (blk b t #[v] :: m)) :
    WL P K ops Q (⟨some d, .box t x, ty, pos, aft, g⟩ :: rest) ρ m := by
  refine ⟨fun a w hf hm => ?_⟩
  simp only [Bool.and_eq_true] at hn
  unfold wpList
  rw [if_pos (guard_wanted hf hg (guardN_spec hn.1))]
  refine .inl ?_
  have h : (execOp a.eval ⟨some d, .box t x, ty, pos, aft, g⟩).run P w = .ok (.value (.pointer (some ⟨w.heap.size, 0, none⟩))) (w.alloc (.cells #[v] t)) := by
    unfold Value.cells at h1
    simp only [execOp, hf.eval hx]; simp [go_sem, h1]
  unfold Oper.wp
  rw [h, Oper.upon_value]
  exact (k _).run _ _ (hf.put (blt_lt hn.2) _) (hm.new t #[v])
theorem zu4 {t : TypeId} {x : Operand} (k : ∀ b : Nat, WL P K ops Q rest ((d, .pointer (some ⟨b, 0, none⟩)) :: ρ) (blk b t #[v] :: m)) (hx : opv ρ x = some v := by rfl) (h1 : v.cells = #[v] := by rfl) (hg : guardB ops g ρ = some true := by rfl) (hn : (guardN K.N ops g && Nat.blt d K.N) = true := by rfl) :
    WL P K ops Q (⟨some d, .box t x, ty, pos, aft, g⟩ :: rest) ρ m := WL_boxV hx h1 hg hn k
end
end Go.Proofs.YtadlpfbjnpbnoaaGreatDoor
namespace Go.Proofs.YtadlpfbjnpbnoaaGreatDoor
open Go.RowKit
section
variable {P : Program} {K : Cx} {ρ : Env} {m m0 r : List HP} {t t' ty e : TypeId} {pos : String} {aft : Array Edge} {x y : Operand} {ops : Array Oper} {d i n bytes : Nat} {G : Rd} {next : Env → List HP → Prop} {zs : List Value}
theorem Stp_makeI [S : ElT P t e 1 [.int .i64 0] bytes] {kl kc : IntKind} (ho : ops[i]? = some ⟨some d, .makeSlice t x y, ty, pos, aft, none⟩) (hx : opv ρ x = some (.int kl (n : Int))) (hy : opv ρ y = some (.int kc (n : Int))) (hb : bytes * n ≤ 281474976710656) (hmax : n ≤ 281474976710656) (hd : Nat.blt d K.N = true)
    (k : ∀ b : Nat, next ((d, .slice (some ⟨b, 0, none⟩) n n) :: ρ) (sl e 1 (some ⟨b, 0, none⟩) n n ((List.replicate n (0 : Int)).map (Value.int .i64)) :: m)) : Stp P K ops m0 i ρ m next := by
  refine ⟨d, _, ty, pos, aft, ho, blt_lt hd, Nat, fun b => .slice (some ⟨b, 0, none⟩) n n, fun b => sl e 1 (some ⟨b, 0, none⟩) n n ((List.replicate n (0 : Int)).map (Value.int .i64)) :: m, fun r a w _ hf hm => ?_, k⟩
  obtain ⟨i, z', hi, hz, hsz, hby, hzs⟩ := S.info
  obtain ⟨w', hrun, r1, r2⟩ := run_make_full (P := P) w w.heap.size t e i z' 1 S.und hi hz hsz kl kc n (by rw [hby]; exact hb) (by unfold maxLen; omega) (Nat.le_refl _)
  rw [hzs, made_one] at r1
  have hrun' : (execOp a.eval ⟨some d, .makeSlice t x y, ty, pos, aft, none⟩).run P w = .ok (.value (.slice (some ⟨w.heap.size, 0, none⟩) n n)) w' := by
    simp only [execOp, hf.eval hx, hf.eval hy]
    simp [hrun]
  rw [hrun', List.map_replicate]
  refine ⟨w.heap.size, rfl, ?_⟩
  refine Holds.add (m1 := [sl e 1 (some ⟨w.heap.size, 0, none⟩) n n (List.replicate n (.int .i64 0))]) hm ⟨keep_grown r2 (by simp), [w.heap.size], ⟨[w.heap.size], [], rfl, ⟨rfl, r1.1, ?_⟩, rfl, by simp⟩, fun i hi hl => ?_⟩
  · rcases r1.2 with h | ⟨g, cap, cur, hv, _, r⟩
    · exact .inl h
    · exact .inr ⟨g, cap, cur, hv, Nat.zero_le _, r⟩
  · have : i = w.heap.size := by simpa using hi
    omega
theorem Stp_alloc [S : ZT P t zs] (ho : ops[i]? = some ⟨some d, .alloc t, ty, pos, aft, none⟩) (hd : Nat.blt d K.N = true)
    (k : ∀ b : Nat, next ((d, .pointer (some ⟨b, 0, none⟩)) :: ρ) (blk b t zs.toArray :: m)) : Stp P K ops m0 i ρ m next := by
  refine ⟨d, _, ty, pos, aft, ho, blt_lt hd, Nat, fun b => .pointer (some ⟨b, 0, none⟩), fun b => blk b t zs.toArray :: m, fun r a w _ hf hm => ?_, k⟩
  obtain ⟨z, hz, hc⟩ := S.ok
  have h : (execOp a.eval ⟨some d, .alloc t, ty, pos, aft, none⟩).run P w = .ok (.value (.pointer (some ⟨w.heap.size, 0, none⟩))) (w.alloc (.cells zs.toArray t)) := by
    have hz' := hz w
    simp only [execOp, Instr.alloc]
    simp only [go_sem, Sem.run_bind, hz', Result.andThen_ok]
    unfold Value.cells at hc
    simp [hc]
  rw [h]
  exact ⟨w.heap.size, rfl, hm.new t zs.toArray⟩
/-- a call that reads and makes things of its own -/
theorem Stp_callX {f : FuncId} [S : FnT P f] {ops' : List Operand} {ats : Array TypeId} {vs : List Value} {r2 : List HP} (hro : Pick m0 (ro K.w0 K.F G) r2) (ho : ops[i]? = some ⟨some d, .call ⟨.value (.func f), ops'.toArray, ats⟩, ty, pos, aft, none⟩) (hx : opvs ρ ops' = some vs) (hd : Nat.blt d K.N = true) {X : Type} {V : X → Value} {M : X → List HP} {I : X → Prop}
    (hc : ∀ w, Rd.le G w.cell? → Calls P f vs.toArray w fun e w' => ∃ x, I x ∧ e = .returned (V x) ∧ Holds w [] (M x) w')
    (k : ∀ x, I x → next ((d, V x) :: ρ) (M x ++ m)) : Stp P K ops m0 i ρ m next := by
  refine ⟨d, _, ty, pos, aft, ho, blt_lt hd, { x : X // I x }, fun x => V x.1, fun x => M x.1 ++ m, fun r a w hr hf hm => ?_, fun x => k x.1 x.2⟩
  obtain ⟨pm, hpm⟩ := hr
  have hle : Rd.le G w.cell? := by
    have h2 : Holds K.w0 K.F m0 w := ((Holds.drop hm).ent hpm).drop
    exact h2.le hro
  rw [run_enter hf hx]
  refine (hc w hle).mono fun e w' hr => ?_
  obtain ⟨z, hz, rfl, hh⟩ := hr
  refine .inl ⟨⟨z, hz⟩, rfl, ?_⟩
  have := hm.add hh
  show Holds K.w0 K.F ((M z ++ m) ++ r) w'
  rw [List.append_assoc]
  exact this
end
section
variable {P : Program} {K : Cx} {ρ : Env} {m r : List HP} {ty : TypeId} {pos : String} {aft : Array Edge} {g : Option (Nat × Bool)} {v : Value} {y : Operand} {ops : Array Oper} {Q : Exit → Act → World → Prop} {rest : List Oper} {d : Nat} {xs : List Operand} {ats : Array TypeId} {vs cap : List Value} {f : FuncId}
/-- a function value that tells a known value -/
theorem WL_callY [S : FnT P f] (hy : opv ρ y = some (.func (.func f) #[] cap.toArray)) (hx : opvs ρ xs = some vs) (hg : guardB ops g ρ = some true) (hn : (guardN K.N ops g && Nat.blt d K.N) = true)
    (hc : ∀ w, Holds K.w0 K.F m w → Calls P f (vs ++ cap).toArray w fun e w' => e = .returned v ∧ Below w.heap.size w w')
    (k : WL P K ops Q rest ((d, v) :: ρ) m) : WL P K ops Q (⟨some d, .call ⟨.value y, xs.toArray, ats⟩, ty, pos, aft, g⟩ :: rest) ρ m := by
  refine ⟨fun a w hf hm => ?_⟩
  simp only [Bool.and_eq_true] at hn
  unfold wpList
  rw [if_pos (guard_wanted hf hg (guardN_spec hn.1))]
  refine .inl ?_
  unfold Oper.wp
  rw [run_enterY hf hy hx, Oper.upon_enter]
  refine (hc w hm).mono fun e w' hr => ?_
  obtain ⟨rfl, hb⟩ := hr
  exact k.run _ _ (hf.put (blt_lt hn.2) _) (hm.grow hb)
end
section
variable {P : Program} {K : Cx} {ρ : Env} {m r : List HP} {ty : TypeId} {fs : List (Nat × Nat)} {zs : List Value}
theorem results_k2 {fn : Func} {n u : Nat} {w : World} {tmps : Array Value} {a : Addr} {cs : List Value} {v1 : Value} [S : StT P ty fs zs] (hr : fn.results = #[.cell n ty, .tmp u]) (ht : tmps.getD n undef = .pointer (some a)) (hc : ∀ j v, cs[j]? = some v → w.cell? (a.add j) = some v) (hl : cs.length = zs.length) (h1 : tmps.getD u undef = v1) : (results fn tmps).run P w = .ok (.tuple #[.agg cs.toArray, v1]) w := by
  have h0 := run_loadCells_list (P := P) (w := w) a cs hc
  rw [hl] at h0
  unfold loadCells at h0
  rw [Array.getD_eq_getD_getElem?] at ht h1
  simp [results, hr, ht, h1, asAddr, loadVar, S.agg, S.size, h0, go_sem]
/-- two results, of which the first lies in a variable -/
theorem EX_retK2 {fn : Func} {R : Ending → World → Prop} {n b off u : Nat} {T : TypeId} {cs : Array Value} {v1 : Value} [S : StT P ty fs zs] (hD : K.D = []) (hr : fn.results = #[.cell n ty, .tmp u]) (ht : ρ.find n = some (.pointer (some ⟨b, off, none⟩))) (h1 : ρ.find u = some v1) (hp : Pick m (blk b T cs) r) (hl : Nat.ble (off + zs.length) cs.toList.length = true)
    (h : ∀ w, Holds K.w0 K.F m w → R (.returned (.tuple #[.agg ((cs.toList.drop off).take zs.length).toArray, v1])) w) : EX K (QBody P fn R) .ret ρ m := ⟨fun a w hf hm => by
  have h0 := Nat.le_of_ble_eq_true hl
  have e1 : ((cs.toList.drop off).take zs.length).length = zs.length := by simp at h0 ⊢; omega
  refine ⟨hf.defs.trans hD, _, results_k2 (P := P) (ty := ty) hr (hf.get n _ ht) (rd_blk (K := K) hp (by rw [e1]) w hm) e1 (hf.get u _ h1), h w hm⟩⟩
end
end Go.Proofs.YtadlpfbjnpbnoaaGreatDoor
