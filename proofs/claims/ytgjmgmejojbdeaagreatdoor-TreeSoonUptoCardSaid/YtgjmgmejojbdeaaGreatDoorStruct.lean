/-
  The logic of walks: structs: literals, whole stores, results that lie in a variable. Of no program.
-/
import Derived.Test.YtgjmgmejojbdeaaGreatDoorMem
namespace Go.Proofs.YtgjmgmejojbdeaaGreatDoor
open Go.RowKit

/-- the parts of a struct literal, put in -/
def stfill (fs : List (Nat × Nat)) (cells : List Value) : List (Nat × Value) → Option (List Value)
  | [] => some cells
  | (i, v) :: r => match fs[i]? with
    | none => none
    | some (off, size) => match Nat.beq v.cells.toList.length size, Nat.ble (off + size) cells.length with
      | true, true => stfill fs (cells.take off ++ v.cells.toList ++ cells.drop (off + size)) r
      | _, _ => none
theorem fill_st {fs : List (Nat × Nat)} : ∀ {parts : List (Nat × Value)} {cells cs : List Value}, stfill fs cells parts = some cs → Instr.fill (fs.toArray[·]?) cells.toArray parts = some cs.toArray
  | [], cells, cs, h => by simp [stfill] at h; subst h; rfl
  | (i, v) :: r, cells, cs, h => by
    unfold stfill at h
    split at h
    · cases h
    · rename_i off size hf
      split at h
      · rename_i h1 h2
        have h1 := Nat.eq_of_beq_eq_true h1
        have h2 := Nat.le_of_ble_eq_true h2
        have h1' : v.cells.size = size := by rw [← Array.length_toList]; exact h1
        have hf' : fs.toArray[i]? = some (off, size) := by simpa using hf
        simp only [Instr.fill, hf']
        rw [if_neg (by simp [h1', h2])]
        have hcells : cells.toArray = (cells.take off ++ (cells.drop off).take size ++ cells.drop (off + size)).toArray := by
          rw [← List.drop_drop, List.append_assoc, List.take_append_drop, List.take_append_drop]
        have hz : (v.cells.zipIdx.foldl (fun cs x => match x with | (c, j) => cs.setIfInBounds (off + j) c) cells.toArray) = (cells.take off ++ v.cells.toList ++ cells.drop (off + size)).toArray := by
          have hq := fold_set v.cells.toList 0 off (cells.take off) ((cells.drop off).take size) (cells.drop (off + size)) (by simp; omega) (by simp [h1']; omega)
          rw [← Array.foldl_toList, Array.toList_zipIdx, ← hq, ← hcells]
        rw [hz]
        exact fill_st h
      · cases h

/-- some cells, set one behind the other -/
def setL (cs : Array Value) (i : Nat) : List Value → Array Value
  | [] => cs
  | v :: r => setL (cs.setIfInBounds i v) (i + 1) r
theorem setL_size : ∀ (vs : List Value) (cs : Array Value) (i : Nat), (setL cs i vs).size = cs.size
  | [], _, _ => rfl
  | v :: r, cs, i => by rw [setL, setL_size r]; simp

section ops
variable {P : Program} {K : Cx} {ρ : Env} {m r : List HP} {dst : Option Nat} {ty t t' : TypeId} {pos : String} {aft : Array Edge} {g : Option (Nat × Bool)} {v : Value} {x y z : Operand} {ops : Array Oper} {Q : Exit → Act → World → Prop} {rest : List Oper} {d : Nat}
  {fs : List (Nat × Nat)} {zs : List Value}

theorem y_build [S : StT P t fs zs] {parts : List (Nat × Operand)} {pvs : List (Nat × Value)} {cs : List Value} (hx : partsV ρ parts = some pvs) (hc : stfill fs zs pvs = some cs) : Yi P K ρ m ⟨dst, .build t parts.toArray, ty, pos, aft, g⟩ (.agg cs.toArray) := by
  refine ⟨fun a w hf hm => ?_⟩
  have h1 := fill_st hc
  rw [← S.built] at h1
  have h2 := run_build (P := P) w t pvs.toArray cs.toArray h1
  have hpv := partsV_eval hf hx
  simp only [execOp, List.map_toArray, hpv]
  simp [h2]

theorem run_cells {w0 : World} {F : List Nat} {b off : Nat} {T : TypeId} : ∀ (vs : List Value) (k : Nat) (cs : Array Value) (w : World), Holds w0 F (blk b T cs :: r) w → off + k + vs.length ≤ cs.size → vs.all Value.oneCell' = true →
    ∃ w', (storeCells ⟨b, off, none⟩ vs k).run P w = .ok () w' ∧ Holds w0 F (blk b T (setL cs (off + k) vs) :: r) w'
  | [], k, cs, w, hh, _, _ => ⟨w, by simp [storeCells], hh⟩
  | v :: vs, k, cs, w, hh, hl, h1 => by
    simp only [List.all_cons, Bool.and_eq_true] at h1
    simp only [List.length_cons] at hl
    have hb := hh.blk .here
    have ha : (⟨b, off, none⟩ : Addr).add k = ⟨b, off + k, none⟩ := by unfold Addr.add; split <;> simp [*]
    have h3 := run_store P w ⟨b, off + k, none⟩ v .plain h1.1
    have hlt : off + k < cs.size := by omega
    have hc : w.cell? ⟨b, off + k, none⟩ = some (cs[off + k]'hlt) := by simp [World.cell?, hb]
    have hf : w.frozen? ⟨b, off + k, none⟩ = false := by simp [World.frozen?, hb]
    rw [hc, hf] at h3
    obtain ⟨w', h4, h5⟩ := run_cells (off := off) vs (k + 1) (cs.setIfInBounds (off + k) v) _ (hh.set .here (off + k) v) (by simp; omega) h1.2
    refine ⟨w', ?_, h5⟩
    rw [storeCells, ha]
    simp only [Sem.run_bind, h3]
    simpa using h4
/-- a whole value, stored into a block -/
theorem WL_storeW {b i : Nat} {T : TypeId} {cs : Array Value} [S : StT P t fs zs] {vs : List Value} (hx : opv ρ x = some (.pointer (some ⟨b, i, none⟩))) (hy : opv ρ y = some (.agg vs.toArray)) (h1 : vs.all Value.oneCell' = true) (hp : Pick m (blk b T cs) r)
    (hl : Nat.beq vs.length zs.length = true) (hi : Nat.ble (i + vs.length) cs.toList.length = true)
    (hg : guardB ops g ρ = some true) (hn : guardN K.N ops g = true) (k : WL P K ops Q rest ρ (blk b T (setL cs i vs) :: r)) :
    WL P K ops Q (⟨none, .store t x y, ty, pos, aft, g⟩ :: rest) ρ m := by
  refine WL_stepU hg hn fun a w hf hm => ?_
  have hl := Nat.eq_of_beq_eq_true hl
  have hi := Nat.le_of_ble_eq_true hi
  obtain ⟨w', h2, h3⟩ := run_cells (P := P) (r := r) (off := i) (T := T) vs 0 cs w (hm.ent (Ent.cons hp Ent.refl)) (by simpa using hi) h1
  refine ⟨_, w', ?_, h3, k⟩
  simp only [execOp, hf.eval hx, hf.eval hy]
  simp [Instr.storeAt, Instr.sureAddr, storeVar, S.size, Value.cells, hl, h2]
theorem results_cell {fn : Func} {t : Tmp} (hr : fn.results = #[.cell t ty]) [S : StT P ty fs zs] {tmps : Array Value} {w : World} {a : Addr} (ht : tmps.getD t undef = .pointer (some a)) {cs : List Value} (hc : ∀ j v, cs[j]? = some v → w.cell? (a.add j) = some v) (hl : cs.length = zs.length) :
    (results fn tmps).run P w = .ok (.agg cs.toArray) w := by
  have h1 := run_loadCells_list (P := P) (w := w) a cs hc
  rw [hl] at h1
  have ht' : tmps[t]?.getD undef = .pointer (some a) := by rw [← Array.getD_eq_getD_getElem?]; exact ht
  simp [results, hr, ht', asAddr, loadVar, S.agg, S.size, h1]
/-- the result lies in a variable -/
theorem EX_retC {fn : Func} {R : Ending → World → Prop} {n b off : Nat} {T : TypeId} {cs : Array Value} [S : StT P ty fs zs] (hD : K.D = []) (hr : fn.results = #[.cell n ty]) (ht : ρ.find n = some (.pointer (some ⟨b, off, none⟩))) (hp : Pick m (blk b T cs) r) (hl : Nat.ble (off + zs.length) cs.toList.length = true)
    (h : ∀ w, Holds K.w0 K.F m w → R (.returned (.agg ((cs.toList.drop off).take zs.length).toArray)) w) : EX K (QBody P fn R) .ret ρ m := ⟨fun a w hf hm => by
  have h0 := Nat.le_of_ble_eq_true hl
  have h1 : ((cs.toList.drop off).take zs.length).length = zs.length := by simp at h0 ⊢; omega
  refine ⟨hf.defs.trans hD, _, results_cell (P := P) (ty := ty) hr (hf.get n _ ht) (rd_blk (K := K) hp (by rw [h1]) w hm) h1, h w hm⟩⟩
theorem EX_endC {fn : Func} {R : Ending → World → Prop} {n b off : Nat} {T : TypeId} {cs : Array Value} [S : StT P ty fs zs] (hD : K.D = []) (hr : fn.results = #[.cell n ty]) (ht : ρ.find n = some (.pointer (some ⟨b, off, none⟩))) (hp : Pick m (blk b T cs) r) (hl : Nat.ble (off + zs.length) cs.toList.length = true)
    (h : ∀ w, Holds K.w0 K.F m w → R (.returned (.agg ((cs.toList.drop off).take zs.length).toArray)) w) : EX K (QBody P fn R) .normal ρ m := ⟨(EX_retC (P := P) hD hr ht hp hl h).run⟩
end ops

theorem Holds.blkInts {w0 w : World} {F : List Nat} {m r : List HP} {b : Nat} {T : TypeId} {xs : List Int} (hh : Holds w0 F m w) (hp : Pick m (Go.Proofs.YtgjmgmejojbdeaaGreatDoor.blk b T (xs.map (Value.int .i64)).toArray) r) (hr : ∀ x ∈ xs, I64 x) (hm : xs.length ≤ 1099511627776) : IntsAt w (some ⟨b, 0, none⟩) xs.length xs := by
  have h := hh.blk hp
  refine ⟨Nat.le_refl _, by unfold maxLen; omega, fun _ => rfl, fun i x hx => ?_, hr⟩
  have ha : (⟨b, 0, none⟩ : Addr).add i = ⟨b, i, none⟩ := by unfold Addr.add; split <;> simp [*]
  show w.cell? ((⟨b, 0, none⟩ : Addr).add i) = _
  rw [ha]
  simp [World.cell?, h, hx]
end Go.Proofs.YtgjmgmejojbdeaaGreatDoor
