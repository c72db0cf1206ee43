/-
  The logic of walks: functions that turn nothing: what they leave may be read from there on. Of no program.
-/
import Derived.Test.YtanbifmcnkhdhaaGreatDoorGo
import Derived.Test.YtanbifmcnkhdhaaGreatDoorPar
import Derived.Test.YtanbifmcnkhdhaaGreatDoorPerm
import Derived.Test.YtanbifmcnkhdhaaGreatDoorTokRow
import Derived.Test.YtanbifmcnkhdhaaGreatDoorEmptyL
import Derived.Test.YtanbifmcnkhdhaaGreatDoorOpenNod
namespace Go.Proofs.YtanbifmcnkhdhaaGreatDoor
open Go.RowKit

section
variable {P : Program} {K : Cx} {ρ ρp : Env} {m m0 : List HP} {Q : Exit → Act → World → Prop}
/-- all that is in memory may be read from here on -/
theorem CW_froz {x : Code} {Φ : Rd → Prop} (hF : K.F = []) (hk : ∀ W, Holds K.w0 K.F m W → Φ W.cell?) (h : ∀ G, Φ G → CW P K Q x ρ [ro K.w0 K.F G]) : CW P K Q x ρ m := by
  obtain ⟨N, D, w0, F⟩ := K
  dsimp only at hF
  subst hF
  exact ⟨fun a w hf hm => (h w.cell? (hk w hm)).run a w hf hm.whole⟩
theorem WL_froz {ops : Array Oper} {rest : List Oper} {Φ : Rd → Prop} (hF : K.F = []) (hk : ∀ W, Holds K.w0 K.F m W → Φ W.cell?) (h : ∀ G, Φ G → WL P K ops Q rest ρ [ro K.w0 K.F G]) : WL P K ops Q rest ρ m := by
  obtain ⟨N, D, w0, F⟩ := K
  dsimp only at hF
  subst hF
  exact ⟨fun a w hf hm => (h w.cell? (hk w hm)).run a w hf hm.whole⟩
theorem EX_froz {E : Exit} {Φ : Rd → Prop} (hF : K.F = []) (hk : ∀ W, Holds K.w0 K.F m W → Φ W.cell?) (h : ∀ G, Φ G → EX K Q E ρ [ro K.w0 K.F G]) : EX K Q E ρ m := by
  obtain ⟨N, D, w0, F⟩ := K
  dsimp only at hF
  subst hF
  exact ⟨fun a w hf hm => (h w.cell? (hk w hm)).run a w hf hm.whole⟩
theorem CW_cov {x : Code} {ρ' : Env} (h : Cov ρ ρ') (k : CW P K Q x ρ' m) : CW P K Q x ρ m := ⟨fun a w hf hm => k.run a w (hf.cov h) hm⟩
/-- a part of a function's code, by its path -/
def cP : List Nat → Code → Code
  | 0 :: r, .seq x _ => cP r x
  | _ :: r, .seq _ y => cP r y
  | 0 :: r, .cond _ x _ => cP r x
  | _ :: r, .cond _ _ y => cP r y
  | _ :: r, .loop x => cP r x
  | _ :: r, .block _ x => cP r x
  | _, c => c
/-- a call in a drawn region: what it left may be read -/
theorem WP_callA {E : List PanicEntry → World → Prop} {L : Act → Cl → Prop} {ops : Array Oper} {rest : List Nat} {k : Nat} {listed : Array Bool} {d : Nat} {ty : TypeId} {pos : String} {aft : Array Edge} {g : Option (Nat × Bool)} {f : FuncId} [S : FnT P f] {xs : List Operand} {ats : Array TypeId} {vs : List Value} {G0 : Rd}
    (hk : ops[k]? = some ⟨some d, .call ⟨.value (.func f), xs.toArray, ats⟩, ty, pos, aft, g⟩) (hso : soleB .any ops listed k = true) (hF : K.F = []) (hle : ∀ W, Holds K.w0 K.F m W → Rd.le G0 W.cell?) (hx : opvs ρ xs = some vs)
    (hg : guardB ops g ρ = some true) (hn : (guardN K.N ops g && Nat.blt d K.N) = true) {X : Type} {V : X → Value} {Φ : X → Rd → Prop} (hc : ∀ w, Holds K.w0 K.F m w → Calls P f vs.toArray w fun e w' => ∃ x, e = .returned (V x) ∧ Below w.heap.size w w' ∧ Φ x w'.cell?)
    (k' : ∀ x G', Φ x G' → Rd.le G0 G' → WP P K E ops L [ro K.w0 K.F G0] rest (listed.setIfInBounds k true) ((d, V x) :: ρ) [ro K.w0 K.F G']) : WP P K E ops L [ro K.w0 K.F G0] (k :: rest) listed ρ m := by
  obtain ⟨N, D, w0, F⟩ := K
  dsimp only at hF
  subst hF
  refine ⟨fun a hf => ?_⟩
  simp only [Bool.and_eq_true] at hn
  unfold wpHeadP
  rw [hk]
  simp only
  unfold headP
  rw [if_pos (guard_wanted hf hg (guardN_spec hn.1))]
  refine .inr ⟨hso, { x : X × Rd // Φ x.1 x.2 ∧ Rd.le G0 x.2 }, fun x => V x.1.1, fun x => Holds w0 [] [ro w0 [] x.1.2], fun _ => Holds.closed _ _ _, fun x W hW => hW.ent (Ent.roLe x.2.2 .here Ent.nil), fun W hW => ?_, fun x => (k' x.1.1 x.1.2 x.2.1 x.2.2).run _ (hf.put (blt_lt hn.2) _)⟩
  rw [run_enter hf hx]
  refine (hc W hW).mono fun e w' hr => ?_
  obtain ⟨x, rfl, hb, hp⟩ := hr
  exact .inl ⟨⟨(x, w'.cell?), hp, Rd.le_trans (hle W hW) (Rd.le_below hb)⟩, rfl, (hW.grow hb).whole⟩
end
/-- what a function that turns nothing tells: a value, and what may be read then -/
def Tells {X : Type} (V : X → Value) (Φ : X → Rd → Prop) (G : Rd) (w : World) (e : Ending) (w' : World) : Prop := ∃ (x : X) (G' : Rd), Φ x G' ∧ e = .returned (V x) ∧ Rd.grow w G G' ∧ Holds w [] [ro w [] G'] w'
section
variable {P : Program} {K : Cx} {ρ ρp : Env} {m m0 r : List HP} {Q : Exit → Act → World → Prop} {ty : TypeId} {pos : String} {aft : Array Edge} {g : Option (Nat × Bool)} {ops : Array Oper} {d : Nat} {xs : List Operand} {ats : Array TypeId} {vs : List Value} {G : Rd}
theorem own_nil {fp : List Nat} {w : World} (h : Own [] fp w) : fp = [] := h
theorem WL_callT {rest : List Oper} {f : FuncId} [S : FnT P f] (e : Ent m (ro K.w0 K.F G :: r)) (hx : opvs ρ xs = some vs) (hg : guardB ops g ρ = some true) (hn : (guardN K.N ops g && Nat.blt d K.N) = true) {X : Type} {V : X → Value} {Φ : X → Rd → Prop}
    (hc : ∀ w, Rd.sub G [] w → Calls P f vs.toArray w (Tells V Φ G w))
    (k : ∀ x G', Φ x G' → Rd.grow K.w0 G G' → WL P K ops Q rest ((d, V x) :: ρ) (ro K.w0 K.F G' :: r)) : WL P K ops Q (⟨some d, .call ⟨.value (.func f), xs.toArray, ats⟩, ty, pos, aft, g⟩ :: rest) ρ m := by
  refine WL_callG (m1 := []) (r := r) (X := X × Rd) (V := fun x => V x.1) (Gx := fun x => x.2) (M := fun _ => []) (I := fun x => Φ x.1 x.2) e hx hg hn (fun W fp _ hO hS _ => ?_) (fun x hx' hgr => k x.1 x.2 hx' hgr)
  obtain rfl := own_nil hO
  exact (hc W hS).mono fun e w' ⟨x, G', h1, h2, h3, h4⟩ => ⟨(x, G'), h1, h2, h3, h4⟩
theorem WP_callT {L : Act → Cl → Prop} {rest : List Nat} {k : Nat} {listed : Array Bool} {f : FuncId} [S : FnT P f] (hk : ops[k]? = some ⟨some d, .call ⟨.value (.func f), xs.toArray, ats⟩, ty, pos, aft, g⟩) (e : Ent m (ro K.w0 K.F G :: r)) (hso : soleB .any ops listed k = true) (hx : opvs ρ xs = some vs) (hg : guardB ops g ρ = some true) (hn : (guardN K.N ops g && Nat.blt d K.N) = true) {X : Type} {V : X → Value} {Φ : X → Rd → Prop}
    (hc : ∀ w, Rd.sub G [] w → Calls P f vs.toArray w (Tells V Φ G w)) (hr : ∀ G', Rd.grow K.w0 G G' → ∃ pm, Ent (ro K.w0 K.F G' :: r) (pm ++ m0))
    (k' : ∀ x G', Φ x G' → Rd.grow K.w0 G G' → WP P K (PanE K ρp Q) ops L m0 rest (listed.setIfInBounds k true) ((d, V x) :: ρ) (ro K.w0 K.F G' :: r)) : WP P K (PanE K ρp Q) ops L m0 (k :: rest) listed ρ m := by
  refine WP_callG (m1 := []) (r := r) (X := { x : X × Rd // Rd.grow K.w0 G x.2 }) (Y := Empty) (V := fun x => V x.1.1) (Gx := fun x => x.1.2) (M := fun _ => []) (I := fun x => Φ x.1.1 x.1.2) (C := fun y => y.elim) (Gy := fun y => y.elim) (MP := fun y => y.elim) (J := fun _ => False) hk e hso hx hg hn (fun W fp hW hO hS _ => ?_) (fun x _ => hr x.1.2 x.2) (fun x hx' hgr => k' x.1.1 x.1.2 hx' hgr) (fun _ h => h.elim)
  obtain rfl := own_nil hO
  exact (hc W hS).mono fun e w' ⟨x, G', h1, h2, h3, h4⟩ => .inl ⟨⟨(x, G'), Rd.grow_up hW.size h3⟩, h1, h2, h3, h4⟩
end
section
variable {P : Program} {K : Cx} {ρ : Env} {m m0 r : List HP} {ty : TypeId} {pos : String} {aft : Array Edge} {ops : Array Oper} {d i : Nat} {G : Rd} {next : Env → List HP → Prop}
theorem Stp_callT {f : FuncId} [S : FnT P f] {ops' : List Operand} {ats : Array TypeId} {vs : List Value} (ho : ops[i]? = some ⟨some d, .call ⟨.value (.func f), ops'.toArray, ats⟩, ty, pos, aft, none⟩) (e : Ent m (ro K.w0 K.F G :: r)) (hx : opvs ρ ops' = some vs) (hd : Nat.blt d K.N = true) {X : Type} {V : X → Value} {Φ : X → Rd → Prop}
    (hc : ∀ w, Rd.sub G [] w → Calls P f vs.toArray w (Tells V Φ G w)) (k : ∀ x G', Φ x G' → Rd.grow K.w0 G G' → next ((d, V x) :: ρ) (ro K.w0 K.F G' :: r)) : Stp P K ops m0 i ρ m next := by
  refine Stp_callG (m1 := []) (r := r) (X := X × Rd) (V := fun x => V x.1) (Gx := fun x => x.2) (M := fun _ => []) (I := fun x => Φ x.1 x.2) ho e hx hd (fun W fp hO hS => ?_) (fun x hx' hgr => k x.1 x.2 hx' hgr)
  obtain rfl := own_nil hO
  exact (hc W hS).mono fun e w' ⟨x, G', h1, h2, h3, h4⟩ => ⟨(x, G'), h1, h2, h3, h4⟩
theorem Stp_op {op : Op} {v : Value} (ho : ops[i]? = some ⟨some d, op, ty, pos, aft, none⟩) (hd : Nat.blt d K.N = true) (h : Yi P K ρ [] ⟨some d, op, ty, pos, aft, none⟩ v) (k : next ((d, v) :: ρ) m) : Stp P K ops m0 i ρ m next :=
  ⟨d, op, ty, pos, aft, ho, blt_lt hd, Unit, fun _ => v, fun _ => m, fun r a w _ hf hm => by
    rw [h.run a w hf (hm.ent Ent.nil)]
    exact ⟨(), rfl, hm⟩, fun _ => k⟩
theorem Pr_two {post : Env → List HP → Prop} {S D : List Nat} (i j : Nat) {f : Nat} (hr : (S.filter (rdyB ops D)) = [i, j]) (h : Stp P K ops m0 i ρ m fun ρ' m' => Pr P K ops m0 post f S (i :: D) ρ' m') (h2 : Stp P K ops m0 j ρ m fun ρ' m' => Pr P K ops m0 post f S (j :: D) ρ' m') : Pr P K ops m0 post (f + 1) S D ρ m := by
  have hi : i ∈ S.filter (rdyB ops D) := by rw [hr]; simp
  refine ⟨⟨i, (List.mem_filter.1 hi).1, (List.mem_filter.1 hi).2⟩, fun k hk hrk => ?_⟩
  have : k ∈ S.filter (rdyB ops D) := List.mem_filter.2 ⟨hk, hrk⟩
  rw [hr] at this
  rcases (by simpa using this : k = i ∨ k = j) with rfl | rfl
  · exact h
  · exact h2
theorem Stp_callTF {α : Type} {enc : α → List Value} {ys : List α} {cp nn szz : Nat} {qp : Option Addr} {ee : TypeId} (hs : ∀ x, (enc x).length = szz) (h0 : 0 < szz) {f : FuncId} [S : FnT P f] {ops' : List Operand} {ats : Array TypeId} {vs : List Value} (ho : ops[i]? = some ⟨some d, .call ⟨.value (.func f), ops'.toArray, ats⟩, ty, pos, aft, none⟩) (e : Ent m (ro K.w0 K.F G :: frs K.w0 (sl ee szz qp nn cp (ys.flatMap enc)) :: r)) (hx : opvs ρ ops' = some vs) (hd : Nat.blt d K.N = true) {X : Type} {V : X → Value} {Φ : X → Rd → Prop}
    (hc : ∀ G', Rd.grow K.w0 G G' → Row enc szz G' qp cp ys → ∀ w, Rd.sub G' [] w → Calls P f vs.toArray w (Tells V Φ G' w)) (k : ∀ x G', Φ x G' → Rd.grow K.w0 G G' → next ((d, V x) :: ρ) (ro K.w0 K.F G' :: r)) : Stp P K ops m0 i ρ m next := by
  refine Stp_callRoF hs h0 (m1 := []) (r := r) (X := X × Rd) (V := fun x => V x.1) (Gx := fun x => x.2) (M := fun _ => []) (I := fun x => Φ x.1 x.2) ho e hx hd (fun G1 g1 r1 W fp hO hS => ?_) (fun x hx' hgr => k x.1 x.2 hx' hgr)
  obtain rfl := own_nil hO
  exact (hc G1 g1 r1 W hS).mono fun e w' ⟨x, G', h1, h2, h3, h4⟩ => ⟨(x, G'), h1, h2, h3, h4⟩
end
theorem blk_slN {e : TypeId} {b n sz : Nat} {cs : Array Value} {xs : List Value} (hc : cs = xs.toArray) (hn : xs.length = n * sz) (hm : n ≤ 1099511627776) (w : World) (fp : List Nat) (h : (blk b e cs).p w fp) : (sl e sz (some ⟨b, 0, none⟩) n n xs).p w fp := by
  obtain ⟨rfl, hb⟩ := h
  subst hc
  exact ⟨rfl, by rw [hn], .inr ⟨b, n, _, rfl, Nat.zero_le _, hb, Nat.le_refl _, by unfold maxLen; omega, by simp [hn], by rw [← hn]; simp⟩⟩
/-- a slice of one's own may only be read from here on -/
theorem WL_row {α : Type} {enc : α → List Value} {sz : Nat} (hs : ∀ x, (enc x).length = sz) (h0 : 0 < sz) {P : Program} {K : Cx} {ρ : Env} {m r : List HP} {Q : Exit → Act → World → Prop} {ops : Array Oper} {rest : List Oper} {G : Rd} {e : TypeId} {n c : Nat} {p : Option Addr} {xs : List α} (hF : K.F = []) (he : Ent m (ro K.w0 K.F G :: sl e sz p n c (xs.flatMap enc) :: r))
    (k : ∀ G', Rd.grow K.w0 G G' → Row enc sz G' p c xs → WL P K ops Q rest ρ (ro K.w0 K.F G' :: r)) : WL P K ops Q rest ρ m := ⟨fun a w hf hm => by
  obtain ⟨G', g1, g2, g3⟩ := Holds.toRo hs h0 (hm.ent he) (fun _ _ => by rw [hF]; simp)
  exact (k G' g1 g2).run a w hf g3⟩
/-- a slice of one's own is told as a row -/
theorem Tells.sl {α : Type} {enc : α → List Value} {sz : Nat} (hs : ∀ x, (enc x).length = sz) (h0 : 0 < sz) {X : Type} {V : X → Value} {Φ : X → Rd → Prop} {G G0 : Rd} {w w' : World} {e : TypeId} {n c : Nat} {p : Option Addr} {xs : List α} {r : List HP} (x : X) (hg : Rd.grow w G0 G) (hh : Holds w [] (ro w [] G :: Go.Proofs.YtanbifmcnkhdhaaGreatDoor.sl e sz p n c (xs.flatMap enc) :: r) w') (hp : ∀ G', Rd.grow w G0 G' → Row enc sz G' p c xs → Φ x G') : Tells V Φ G0 w (.returned (V x)) w' := by
  obtain ⟨G', g1, g2, g3⟩ := Holds.toRo hs h0 hh (fun _ _ => by simp)
  exact ⟨x, G', hp G' (Rd.grow_tr hg g1) g2, rfl, Rd.grow_tr hg g1, g3.ent (Ent.cons .here Ent.nil)⟩
theorem Tells.val {X : Type} {V : X → Value} {Φ : X → Rd → Prop} {G G0 : Rd} {w w' : World} {r : List HP} (x : X) (hg : Rd.grow w G0 G) (hh : Holds w [] (ro w [] G :: r) w') (hp : Φ x G) : Tells V Φ G0 w (.returned (V x)) w' := ⟨x, G, hp, rfl, hg, hh.ent (Ent.cons .here Ent.nil)⟩
end Go.Proofs.YtanbifmcnkhdhaaGreatDoor
