/-
  The logic of walks: a region that draws its order, in which an operation that turns memory comes at a place of its own, and an operation that yields one value whatever comes first may come behind it. Of no program.
  The logic of walks: a region that draws its order, walked in an order that is told: each operation that turns memory, or that may panic, comes at a place where nothing else is ready, when all that yields one value is ahead of it. Of no program.
-/
import Derived.Test.YtllgkdkjcbohcaaGreatDoorZMem
import Derived.Test.YtllgkdkjcbohcaaGreatDoorZRd
namespace Go.Proofs.YtllgkdkjcbohcaaGreatDoor
open Go.RowKit
section
variable {P : Program} {ops : Array Oper} {md : Region.Mode} {C0 : Cl}
def eUpon (P : Program) (o : Oper) {X : Type} (V : X → Value) (M : X → Cl) : Result Next → Prop
  | .ok (.value u) w' => ∃ x, u = V x ∧ M x w'
  | .ok .skip w' => o.dst = none ∧ ∃ x, M x w'
  | .ok (.enter f args) w' => Calls P f args w' (fun e w'' => ∃ x, e = .returned (V x) ∧ M x w'')
  | _ => False
/-- it turns things: what is known behind it is M x, and C0 stays known -/
def bEff (P : Program) (o : Oper) (a : Act) (C0 C : Cl) (K : Act → Cl → Prop) : Prop :=
  ∃ (X : Type) (V : X → Value) (M : X → Cl), (∀ x, (M x).Closed) ∧ (∀ x W, M x W → C0 W) ∧
    (∀ W, C W → eUpon P o V M ((execOp a.eval o).run P W)) ∧ ∀ x, K (a.put o.dst (V x)) (M x)
def eOp (P : Program) (ops : Array Oper) (C0 C : Cl) (i : Nat) (K : Act → Cl → Prop) (a : Act) : Prop :=
  match ops[i]? with
  | none => K a C
  | some o => if Region.wanted o (yielded ops a.tmps) then (∃ v, (∀ w, C0 w → bAt P o a w v) ∧ K (a.put o.dst v) C) ∨ bEff P o a C0 C K else K (a.put o.dst undef) C
theorem eOp_mono {C : Cl} {i : Nat} {a : Act} {K K' : Act → Cl → Prop} (h : ∀ a C, K a C → K' a C) (hh : eOp P ops C0 C i K a) : eOp P ops C0 C i K' a := by
  unfold eOp at *
  split
  · exact h _ _ (by simpa [*] using hh)
  · rename_i o ho
    simp only [ho] at hh
    split
    · rename_i hw
      simp only [hw, if_true] at hh
      rcases hh with ⟨v, h1, h2⟩ | ⟨X, V, M, h1, h2, h3, h4⟩
      · exact .inl ⟨v, h1, h _ _ h2⟩
      · exact .inr ⟨X, V, M, h1, h2, h3, fun x => h _ _ (h4 x)⟩
    · rename_i hw; simp only [hw] at hh; exact h _ _ hh
def wpAnyE (P : Program) (md : Region.Mode) (ops : Array Oper) (C0 : Cl) (n : Nat) (L : Array Bool → Act → Cl → Prop) : Nat → Array Bool → Act → Cl → Prop
  | 0, listed, a, C => L listed a C
  | f + 1, listed, a, C => Region.ready md ops listed ≠ [] ∧ ∀ i ∈ Region.ready md ops listed, i < n ∧ eOp P ops C0 C i (fun a' C' => wpAnyE P md ops C0 n L f (listed.setIfInBounds i true) a' C') a
theorem wpOp_of_eOp {C : Cl} {i : Nat} {a : Act} {K : Act → Cl → Prop} {K' : Act → World → Prop} {Q' : Exit → Act → World → Prop} {w : World} (hcl : C.Closed) (hCC : ∀ W, C W → C0 W) (hC : C w) (h : ∀ a w' (C' : Cl), C'.Closed → (∀ W, C' W → C0 W) → C' w' → K a C' → K' a w') (hh : eOp P ops C0 C i K a) : wpOp P ops Q' i K' a w := by
  unfold eOp at hh
  unfold wpOp
  split
  · rename_i ho; simp only [ho] at hh; exact h _ _ _ hcl hCC hC hh
  · rename_i o ho
    simp only [ho] at hh
    split
    · rename_i hw
      simp only [hw, if_true] at hh
      refine .inl ?_
      rcases hh with ⟨v, h1, h2⟩ | ⟨X, V, M, h1, h2, h3, h4⟩
      · have h3 := h1 w (hCC _ hC)
        unfold bAt at h3
        unfold Oper.wp
        generalize (execOp a.eval o).run P w = r at *
        cases r with
        | ok nx w' =>
          cases nx <;> simp only [bUpon] at h3 <;> simp only [Oper.upon]
          case value u =>
            obtain ⟨e1, e2⟩ := h3
            rw [e1, e2]
            exact h _ _ _ hcl hCC hC h2
          case enter f args =>
            obtain ⟨e1, hc⟩ := h3
            rw [e1]
            exact hc.mono fun e w'' ⟨he, hw''⟩ => by subst he; exact h _ _ _ hcl hCC (hcl _ _ hC hw'') h2
        | halt x w' => simp only [bUpon] at h3
      · have h5 := h3 w hC
        unfold Oper.wp
        generalize (execOp a.eval o).run P w = r at *
        cases r with
        | ok nx w' =>
          cases nx <;> simp only [eUpon] at h5 <;> simp only [Oper.upon]
          case value u =>
            obtain ⟨x, he, hm⟩ := h5
            rw [he]; exact h _ _ _ (h1 x) (h2 x) hm (h4 x)
          case skip =>
            obtain ⟨hd, x, hm⟩ := h5
            have h6 := h _ _ _ (h1 x) (h2 x) hm (h4 x)
            rw [hd] at h6 ⊢; exact h6
          case enter f args =>
            exact h5.mono fun e w'' ⟨x, he, hm⟩ => by subst he; exact h _ _ _ (h1 x) (h2 x) hm (h4 x)
        | halt x w' => simp only [eUpon] at h5
    · rename_i hw; simp only [hw] at hh; exact h _ _ _ hcl hCC hC hh
theorem wpAny_of_E {n g : Nat} {L : Array Bool → Act → Cl → Prop} {Q' : Exit → Act → World → Prop} (hL : ∀ listed a w (C : Cl), C w → L listed a C → wpAny P md ops Q' g listed a w) :
    ∀ (f : Nat) (listed : Array Bool) (a : Act) (w : World) (C : Cl), C.Closed → (∀ W, C W → C0 W) → C w → wpAnyE P md ops C0 n L f listed a C → wpAny P md ops Q' (f + g) listed a w
  | 0, listed, a, w, C, _, _, hw, h => by rw [Nat.zero_add]; exact hL _ _ _ _ hw h
  | f + 1, listed, a, w, C, hcl, hCC, hw, h => by
    rw [show f + 1 + g = (f + g) + 1 by omega]
    exact ⟨fun h0 => absurd h0 h.1, fun i hi => wpOp_of_eOp hcl hCC hw (fun a' w' C' hc' hs' hw' h' => wpAny_of_E hL f _ a' w' C' hc' hs' hw' h') (h.2 i hi).2⟩
theorem YieldsB.eOp {C : Cl} {i : Nat} {o : Oper} {v : Value} {a : Act} (hi : ops[i]? = some o) (hy : YieldsB P ops C0 o v a) {K : Act → Cl → Prop} (h : K (a.put o.dst v) C) : eOp P ops C0 C i K a := by
  unfold Go.Proofs.YtllgkdkjcbohcaaGreatDoor.eOp
  simp only [hi]
  rcases hy with ⟨hw, hv⟩ | ⟨hw, rfl⟩
  · simp only [hw, if_true]; exact .inl ⟨v, hv, h⟩
  · simp only [hw, Bool.false_eq_true, if_false]; exact h
theorem eOp_put {C : Cl} {j : Nat} {oi oj : Oper} {v : Value} (hj : ops[j]? = some oj) (hap : oi.apart ops oj = true)
    (hsi : ∀ cs b, oi.op ≠ .select cs b) (hsj : ∀ cs b, oj.op ≠ .select cs b) {K : Act → Cl → Prop} {a : Act}
    (hy : YieldsB P ops C0 oi v a) (h : eOp P ops C0 C j K (a.put oi.dst v)) :
    eOp P ops C0 C j (fun a' C' => YieldsB P ops C0 oi v a' ∧ K (a'.put oi.dst v) C') a := by
  obtain ⟨h1, h2, h3⟩ := Oper.apart_spec hap
  have keep : ∀ (a : Act), YieldsB P ops C0 oi v a → ∀ u, YieldsB P ops C0 oi v (a.put oj.dst u) := fun a hy u =>
    hy.of_same (execOp_put oi hsi a oj.dst u h3) (wanted_put oi a oj.dst u h3)
  unfold eOp at *
  simp only [hj] at *
  rw [wanted_put oj a oi.dst v h1] at h
  split
  · rename_i hw
    simp only [hw, if_true] at h
    rcases h with ⟨u, hu, hn⟩ | ⟨X, V, M, m1, m2, m3, m4⟩
    · refine .inl ⟨u, fun w hw' => ?_, keep a hy u, by rw [← Act.put_comm a v u h2]; exact hn⟩
      have := hu w hw'
      unfold bAt at *
      rwa [execOp_put oj hsj a oi.dst v h1] at this
    · refine .inr ⟨X, V, M, m1, m2, fun W hW => ?_, fun x => ⟨keep a hy _, by rw [← Act.put_comm a v (V x) h2]; exact m4 x⟩⟩
      have := m3 W hW
      rwa [execOp_put oj hsj a oi.dst v h1] at this
  · rename_i hw
    simp only [hw] at h
    exact ⟨keep a hy _, by rw [← Act.put_comm a v undef h2]; exact h⟩
theorem wpAnyE_first {n i : Nat} {oi : Oper} {v : Value} {L : Array Bool → Act → Cl → Prop} (hi : ops[i]? = some oi) (hsel : ∀ (j : Nat) (o : Oper) cs b, ops[j]? = some o → o.op ≠ .select cs b)
    (hs : Region.sinkB md ops n = true) (hc : Region.chainB md ops n = true) (hn : n < ops.size) (hin : i < n)
    (hdone : ∀ listed a C, L listed a C → ∀ j ∈ Region.ready md ops listed, n ≤ j) :
    ∀ (f : Nat) (listed : Array Bool) (a : Act) (C : Cl), HeadInv md ops n listed →
      (∀ j oj, ops[j]? = some oj → j ≠ i → listed.getD j true = false → (∀ e ∈ oj.after, Region.binds md e = true → e.on ≠ i) → oi.apart ops oj = true) →
      i ∈ Region.ready md ops listed → YieldsB P ops C0 oi v a →
      wpAnyE P md ops C0 n L f (listed.setIfInBounds i true) (a.put oi.dst v) C → wpAnyE P md ops C0 n L (f + 1) listed a C := by
  intro f
  induction f with
  | zero =>
    intro listed a C inv _ hr hy H
    have hun := (mem_ready.1 hr).1
    refine ⟨fun h => (by rw [h] at hr; cases hr), fun j hj => ?_⟩
    have hjn : j < n := by
      rcases Nat.lt_or_ge j n with h | h
      · exact h
      · exact absurd hj (tail_waits hs hc hn inv _ i rfl hin hun j h)
    refine ⟨hjn, ?_⟩
    by_cases hji : j = i
    · subst hji; exact hy.eOp hi H
    · have := hdone _ _ _ H j (ready_mono hj hji)
      omega
  | succ f ih =>
    intro listed a C inv hfree hr hy H
    have hun := (mem_ready.1 hr).1
    refine ⟨fun h => (by rw [h] at hr; cases hr), fun j hj => ?_⟩
    have hjn : j < n := by
      rcases Nat.lt_or_ge j n with h | h
      · exact h
      · exact absurd hj (tail_waits hs hc hn inv _ i rfl hin hun j h)
    refine ⟨hjn, ?_⟩
    by_cases hji : j = i
    · subst hji; exact hy.eOp hi H
    · have h1 := (H.2 j (ready_mono hj hji)).2
      obtain ⟨hjun, oj, hoj, hall⟩ := mem_ready.1 hj
      have hnot : ∀ e ∈ oj.after, Region.binds md e = true → e.on ≠ i := fun e he hb heq => by
        have h1 := hall e he hb
        rw [heq, getD_both hun] at h1
        cases h1
      have h2 := eOp_put hoj (hfree j oj hoj hji hjun hnot) (fun cs b => hsel i oi cs b hi) (fun cs b => hsel j oj cs b hoj) hy h1
      have hfree' : ∀ k ok, ops[k]? = some ok → k ≠ i → (listed.setIfInBounds j true).getD k true = false →
          (∀ e ∈ ok.after, Region.binds md e = true → e.on ≠ i) → oi.apart ops ok = true := fun k ok hk hki hun hno => by
        refine hfree k ok hk hki ?_ hno
        by_cases hjk : j = k
        · subst hjk; exact hjun
        · rw [getD_set_ne true hjk] at hun; exact hun
      refine eOp_mono (fun a' C' h3 => ih (listed.setIfInBounds j true) a' C' (inv.set hj hjn) hfree' (ready_mono hr (Ne.symm hji)) h3.1 ?_) h2
      rw [Array.setIfInBounds_comm _ _ hji]
      exact h3.2
def soleB (md : Region.Mode) (ops : Array Oper) (listed : Array Bool) (k : Nat) : Bool := (Region.ready md ops listed).all fun j => Nat.beq j k
/-- the walk in the order of the text -/
def wpHeadE (P : Program) (md : Region.Mode) (ops : Array Oper) (C0 : Cl) (L : Act → Cl → Prop) : List Oper → Nat → Array Bool → Act → Cl → Prop
  | [], _, _, a, C => L a C
  | o :: rest, k, listed, a, C => if Region.wanted o (yielded ops a.tmps) then (∃ v, (∀ w, C0 w → bAt P o a w v) ∧ wpHeadE P md ops C0 L rest (k + 1) (listed.setIfInBounds k true) (a.put o.dst v) C) ∨ (soleB md ops listed k = true ∧ bEff P o a C0 C (fun a' C' => wpHeadE P md ops C0 L rest (k + 1) (listed.setIfInBounds k true) a' C')) else wpHeadE P md ops C0 L rest (k + 1) (listed.setIfInBounds k true) (a.put o.dst undef) C
end
/-! ## the logic's rules -/
structure WE (P : Program) (K : Cx) (ops : Array Oper) (L : Act → Cl → Prop) (m0 : List HP) (l : List Oper) (k : Nat) (listed : Array Bool) (ρ : Env) (m : List HP) : Prop where
  run : ∀ a, Fits K.N K.D a ρ → wpHeadE P .any ops (Holds K.w0 K.F m0) L l k listed a (Holds K.w0 K.F m)
section rules
variable {P : Program} {K : Cx} {ρ : Env} {m m0 r : List HP} {ty t : TypeId} {pos : String} {aft : Array Edge} {g : Option (Nat × Bool)} {v : Value} {x y : Operand} {ops : Array Oper} {Q : Exit → Act → World → Prop} {rest tl : List Oper} {d : Nat} {op : Op} {L : Act → Cl → Prop}
  {e : TypeId} {sz n c bytes : Nat} {zs xs : List Value} {k : Nat} {listed : Array Bool} {p : Option Addr}
theorem WE_append [S : ElT P t e sz zs bytes] {pm : List HP} {p' : Option Addr} {b n' c' : Nat} {cs : Array Value} {m1 : List HP} (hso : soleB .any ops listed k = true) (hx : opv ρ x = some (.slice p n c)) (hy : opv ρ y = some (.slice p' n' c')) (he : p' = some ⟨b, 0, none⟩)
    (hp : Pick m (sl e sz p n c xs) m1) (hp2 : Pick m1 (blk b e cs) r) (hr : Ent r (pm ++ m0)) (hl : cs.size = n' * sz) (h1' : cs.toList.all Value.oneCell' = true) (hmax : (n + n') * bytes ≤ 140737488355328) (hmax2 : n + n' ≤ 140737488355328)
    (hg : guardB ops g ρ = some true) (hn : (guardN K.N ops g && Nat.blt d K.N) = true) (k' : ∀ q c'', WE P K ops L m0 rest (k + 1) (listed.setIfInBounds k true) ((d, .slice q (n + n') c'') :: ρ) (sl e sz q (n + n') c'' (xs ++ cs.toList) :: r)) :
    WE P K ops L m0 (⟨some d, .call ⟨.builtin .append, #[x, y], #[t, t]⟩, ty, pos, aft, g⟩ :: rest) k listed ρ m := by
  refine ⟨fun a hf => ?_⟩
  simp only [Bool.and_eq_true] at hn
  unfold wpHeadE
  rw [if_pos (guard_wanted hf hg (guardN_spec hn.1))]
  refine .inr ⟨hso, Option Addr × Nat, fun z => .slice z.1 (n + n') z.2, fun z => Holds K.w0 K.F (sl e sz z.1 (n + n') z.2 (xs ++ cs.toList) :: r), fun x => Holds.closed _ _ _, fun z W hW => ((Holds.drop (m1 := [sl e sz z.1 (n + n') z.2 (xs ++ cs.toList)]) hW).ent hr).drop, fun w hm => ?_, fun z => (k' z.1 z.2).run _ (hf.put (blt_lt hn.2) _)⟩
  obtain ⟨i, z, hi, hz, hsz, hby, hzs⟩ := S.info
  have h1 : ∀ u ∈ cs.toList, u.oneCell' = true := fun u hu => (List.all_eq_true.1 h1') u hu
  have hown := hm.slR hp
  obtain ⟨fp, ⟨hfp, _⟩, _, hsp⟩ := hm.split hp
  have hb : w.heap[b]? = some (.cells cs e (0, 0)) := by
    have h2 := hsp [] w ⟨Keep.refl _ _, [], rfl, by simp⟩
    exact h2.blk hp2
  subst he
  have hnews : ∀ (j : Nat) u, cs.toList[j]? = some u → w.cell? ((⟨b, 0, none⟩ : Addr).add j) = some u := fun j u hu => by
    have ha : (⟨b, 0, none⟩ : Addr).add j = ⟨b, j, none⟩ := by unfold Addr.add; split <;> simp [*]
    rw [ha]; simp only [World.cell?, hb]; simpa using hu
  have hzl : z.cells.size = sz := by rw [hzs]; simp [S.len]
  obtain ⟨v', w', hr, h2, h3, _⟩ := run_append_own (P := P) w 0 t ty e i z sz bytes S.und hi hz hsz hby hzl S.pos (.slice p n c) n xs hown ⟨b, 0, none⟩ n' c' cs.toList (by simpa using hl) hnews h1 (by unfold maxLen; omega) hmax (Nat.zero_le _)
  have hwh := append_where (P := P) w S.und hi hz hsz hby hzl S.pos (.slice p n c) n xs hown ⟨b, 0, none⟩ n' c' cs.toList (by simpa using hl) hnews h1 (by unfold maxLen; omega) hmax hr
  obtain ⟨q, c'', rfl⟩ : ∃ q c'', v' = .slice q (n + n') c'' := by
    rcases h2.2 with ⟨hv, h0⟩ | ⟨g, cap, cur, hv, _⟩
    · rw [h0]; exact ⟨_, _, hv⟩
    · exact ⟨_, _, hv⟩
  rw [run_bi hf hx hy hr]
  refine ⟨(q, c''), rfl, ?_⟩
  have hH : Holds w fp [sl e sz q (n + n') c'' (xs ++ cs.toList)] w' := by
    refine ⟨keep_grown h3 (fun i hi => by rw [hfp]; exact (ownBlock_blkOf p n c i).2 hi), blkOf q, ⟨blkOf q, [], by simp, ⟨rfl, h2⟩, rfl, by simp⟩, fun i hi hl => ?_⟩
    have h5 := (ownBlock_blkOf q (n + n') c'' i).1 hi
    rw [hfp]
    rcases hwh i h5 with h | h
    · exact (ownBlock_blkOf p n c i).2 h
    · omega
  exact (hsp _ w' hH).ent (Ent.sub (r2 := r) hp2)
end rules
end Go.Proofs.YtllgkdkjcbohcaaGreatDoor
namespace Go.Proofs.YtllgkdkjcbohcaaGreatDoor
open Go.RowKit
section
variable {P : Program} {E : List PanicEntry → World → Prop} {ops : Array Oper} {md : Region.Mode} {C0 : Cl}
def pUpon (P : Program) (E : List PanicEntry → World → Prop) (o : Oper) {X : Type} (V : X → Value) (M : X → Cl) : Result Next → Prop
  | .ok (.value u) w' => ∃ x, u = V x ∧ M x w'
  | .ok .skip w' => o.dst = none ∧ ∃ x, M x w'
  | .ok (.enter f args) w' => Calls P f args w' (fun e w'' => (∃ x, e = .returned (V x) ∧ M x w'') ∨ ∃ ch, e = .panicked ch ∧ E ch w'')
  | _ => False
/-- it turns things: what is known behind it is M x, and C0 stays known -/
def pEff (P : Program) (E : List PanicEntry → World → Prop) (o : Oper) (a : Act) (C0 C : Cl) (K : Act → Cl → Prop) : Prop :=
  ∃ (X : Type) (V : X → Value) (M : X → Cl), (∀ x, (M x).Closed) ∧ (∀ x W, M x W → C0 W) ∧
    (∀ W, C W → pUpon P E o V M ((execOp a.eval o).run P W)) ∧ ∀ x, K (a.put o.dst (V x)) (M x)
def pOp (P : Program) (E : List PanicEntry → World → Prop) (ops : Array Oper) (C0 C : Cl) (i : Nat) (K : Act → Cl → Prop) (a : Act) : Prop :=
  match ops[i]? with
  | none => K a C
  | some o => if Region.wanted o (yielded ops a.tmps) then (∃ v, (∀ w, C0 w → bAt P o a w v) ∧ K (a.put o.dst v) C) ∨ pEff P E o a C0 C K else K (a.put o.dst undef) C
theorem pOp_mono {C : Cl} {i : Nat} {a : Act} {K K' : Act → Cl → Prop} (h : ∀ a C, K a C → K' a C) (hh : pOp P E ops C0 C i K a) : pOp P E ops C0 C i K' a := by
  unfold pOp at *
  split
  · exact h _ _ (by simpa [*] using hh)
  · rename_i o ho
    simp only [ho] at hh
    split
    · rename_i hw
      simp only [hw, if_true] at hh
      rcases hh with ⟨v, h1, h2⟩ | ⟨X, V, M, h1, h2, h3, h4⟩
      · exact .inl ⟨v, h1, h _ _ h2⟩
      · exact .inr ⟨X, V, M, h1, h2, h3, fun x => h _ _ (h4 x)⟩
    · rename_i hw; simp only [hw] at hh; exact h _ _ hh
def wpAnyP (P : Program) (E : List PanicEntry → World → Prop) (md : Region.Mode) (ops : Array Oper) (C0 : Cl) (n : Nat) (L : Array Bool → Act → Cl → Prop) : Nat → Array Bool → Act → Cl → Prop
  | 0, listed, a, C => L listed a C
  | f + 1, listed, a, C => Region.ready md ops listed ≠ [] ∧ ∀ i ∈ Region.ready md ops listed, i < n ∧ pOp P E ops C0 C i (fun a' C' => wpAnyP P E md ops C0 n L f (listed.setIfInBounds i true) a' C') a
theorem wpOp_of_pOp {C : Cl} {i : Nat} {a : Act} {K : Act → Cl → Prop} {K' : Act → World → Prop} {Q' : Exit → Act → World → Prop} {w : World} (hcl : C.Closed) (hCC : ∀ W, C W → C0 W) (hC : C w) (hE : ∀ ch w, E ch w → Q' (.panic ch) a w) (h : ∀ a w' (C' : Cl), C'.Closed → (∀ W, C' W → C0 W) → C' w' → K a C' → K' a w') (hh : pOp P E ops C0 C i K a) : wpOp P ops Q' i K' a w := by
  unfold pOp at hh
  unfold wpOp
  split
  · rename_i ho; simp only [ho] at hh; exact h _ _ _ hcl hCC hC hh
  · rename_i o ho
    simp only [ho] at hh
    split
    · rename_i hw
      simp only [hw, if_true] at hh
      refine .inl ?_
      rcases hh with ⟨v, h1, h2⟩ | ⟨X, V, M, h1, h2, h3, h4⟩
      · have h3 := h1 w (hCC _ hC)
        unfold bAt at h3
        unfold Oper.wp
        generalize (execOp a.eval o).run P w = r at *
        cases r with
        | ok nx w' =>
          cases nx <;> simp only [bUpon] at h3 <;> simp only [Oper.upon]
          case value u =>
            obtain ⟨e1, e2⟩ := h3
            rw [e1, e2]
            exact h _ _ _ hcl hCC hC h2
          case enter f args =>
            obtain ⟨e1, hc⟩ := h3
            rw [e1]
            exact hc.mono fun e w'' ⟨he, hw''⟩ => by subst he; exact h _ _ _ hcl hCC (hcl _ _ hC hw'') h2
        | halt x w' => simp only [bUpon] at h3
      · have h5 := h3 w hC
        unfold Oper.wp
        generalize (execOp a.eval o).run P w = r at *
        cases r with
        | ok nx w' =>
          cases nx <;> simp only [pUpon] at h5 <;> simp only [Oper.upon]
          case value u =>
            obtain ⟨x, he, hm⟩ := h5
            rw [he]; exact h _ _ _ (h1 x) (h2 x) hm (h4 x)
          case skip =>
            obtain ⟨hd, x, hm⟩ := h5
            have h6 := h _ _ _ (h1 x) (h2 x) hm (h4 x)
            rw [hd] at h6 ⊢; exact h6
          case enter f args =>
            refine h5.mono fun e w'' hq => ?_
            rcases hq with ⟨x, he, hm⟩ | ⟨ch, he, hq⟩
            · subst he; exact h _ _ _ (h1 x) (h2 x) hm (h4 x)
            · subst he; exact hE ch w'' hq
        | halt x w' => simp only [pUpon] at h5
    · rename_i hw; simp only [hw] at hh; exact h _ _ _ hcl hCC hC hh
theorem pOp_A {C : Cl} {i : Nat} {a : Act} {K : Act → Cl → Prop} {A : Act → Prop} (hA : ∀ (o : Oper) (a : Act) (v : Value), ops[i]? = some o → A a → A (a.put o.dst v)) (h : A a) (hi : ∃ o, ops[i]? = some o) (hh : pOp P E ops C0 C i K a) : pOp P E ops C0 C i (fun a' C' => A a' ∧ K a' C') a := by
  obtain ⟨o, ho⟩ := hi
  unfold pOp at *
  simp only [ho] at hh ⊢
  split
  · rename_i hw
    simp only [hw, if_true] at hh
    rcases hh with ⟨v, h1, h2⟩ | ⟨X, V, M, h1, h2, h3, h4⟩
    · exact .inl ⟨v, h1, hA o a v ho h, h2⟩
    · exact .inr ⟨X, V, M, h1, h2, h3, fun x => ⟨hA o a _ ho h, h4 x⟩⟩
  · rename_i hw; simp only [hw] at hh; exact ⟨hA o a _ ho h, hh⟩
theorem wpAny_of_P {n g : Nat} {L : Array Bool → Act → Cl → Prop} {Q' : Exit → Act → World → Prop} {A : Act → Prop} (hA : ∀ (i : Nat) (o : Oper) (a : Act) (v : Value), ops[i]? = some o → A a → A (a.put o.dst v)) (hE : ∀ a ch w, A a → E ch w → Q' (.panic ch) a w)
    (hL : ∀ listed a w (C : Cl), C w → L listed a C → wpAny P md ops Q' g listed a w) :
    ∀ (f : Nat) (listed : Array Bool) (a : Act) (w : World) (C : Cl), A a → C.Closed → (∀ W, C W → C0 W) → C w → wpAnyP P E md ops C0 n L f listed a C → wpAny P md ops Q' (f + g) listed a w
  | 0, listed, a, w, C, _, _, _, hw, h => by rw [Nat.zero_add]; exact hL _ _ _ _ hw h
  | f + 1, listed, a, w, C, ha, hcl, hCC, hw, h => by
    rw [show f + 1 + g = (f + g) + 1 by omega]
    refine ⟨fun h0 => absurd h0 h.1, fun i hi => ?_⟩
    obtain ⟨_, oi, hoi, _⟩ := mem_ready.1 hi
    exact wpOp_of_pOp hcl hCC hw (fun ch w hq => hE a ch w ha hq) (fun a' w' C' hc' hs' hw' h' => wpAny_of_P hA hE hL f _ a' w' C' h'.1 hc' hs' hw' h'.2) (pOp_A (fun o a v => hA i o a v) ha ⟨oi, hoi⟩ (h.2 i hi).2)
theorem YieldsB.pOp {C : Cl} {i : Nat} {o : Oper} {v : Value} {a : Act} (hi : ops[i]? = some o) (hy : YieldsB P ops C0 o v a) {K : Act → Cl → Prop} (h : K (a.put o.dst v) C) : pOp P E ops C0 C i K a := by
  unfold Go.Proofs.YtllgkdkjcbohcaaGreatDoor.pOp
  simp only [hi]
  rcases hy with ⟨hw, hv⟩ | ⟨hw, rfl⟩
  · simp only [hw, if_true]; exact .inl ⟨v, hv, h⟩
  · simp only [hw, Bool.false_eq_true, if_false]; exact h
theorem pOp_put {C : Cl} {j : Nat} {oi oj : Oper} {v : Value} (hj : ops[j]? = some oj) (hap : oi.apart ops oj = true)
    (hsi : ∀ cs b, oi.op ≠ .select cs b) (hsj : ∀ cs b, oj.op ≠ .select cs b) {K : Act → Cl → Prop} {a : Act}
    (hy : YieldsB P ops C0 oi v a) (h : pOp P E ops C0 C j K (a.put oi.dst v)) :
    pOp P E ops C0 C j (fun a' C' => YieldsB P ops C0 oi v a' ∧ K (a'.put oi.dst v) C') a := by
  obtain ⟨h1, h2, h3⟩ := Oper.apart_spec hap
  have keep : ∀ (a : Act), YieldsB P ops C0 oi v a → ∀ u, YieldsB P ops C0 oi v (a.put oj.dst u) := fun a hy u =>
    hy.of_same (execOp_put oi hsi a oj.dst u h3) (wanted_put oi a oj.dst u h3)
  unfold pOp at *
  simp only [hj] at *
  rw [wanted_put oj a oi.dst v h1] at h
  split
  · rename_i hw
    simp only [hw, if_true] at h
    rcases h with ⟨u, hu, hn⟩ | ⟨X, V, M, m1, m2, m3, m4⟩
    · refine .inl ⟨u, fun w hw' => ?_, keep a hy u, by rw [← Act.put_comm a v u h2]; exact hn⟩
      have := hu w hw'
      unfold bAt at *
      rwa [execOp_put oj hsj a oi.dst v h1] at this
    · refine .inr ⟨X, V, M, m1, m2, fun W hW => ?_, fun x => ⟨keep a hy _, by rw [← Act.put_comm a v (V x) h2]; exact m4 x⟩⟩
      have := m3 W hW
      rwa [execOp_put oj hsj a oi.dst v h1] at this
  · rename_i hw
    simp only [hw] at h
    exact ⟨keep a hy _, by rw [← Act.put_comm a v undef h2]; exact h⟩
theorem wpAnyP_first {n i : Nat} {oi : Oper} {v : Value} {L : Array Bool → Act → Cl → Prop} (hi : ops[i]? = some oi) (hsel : ∀ (j : Nat) (o : Oper) cs b, ops[j]? = some o → o.op ≠ .select cs b)
    (hs : Region.sinkB md ops n = true) (hc : Region.chainB md ops n = true) (hn : n < ops.size) (hin : i < n)
    (hdone : ∀ listed a C, L listed a C → ∀ j ∈ Region.ready md ops listed, n ≤ j) :
    ∀ (f : Nat) (listed : Array Bool) (a : Act) (C : Cl), HeadInv md ops n listed →
      (∀ j oj, ops[j]? = some oj → j ≠ i → listed.getD j true = false → (∀ e ∈ oj.after, Region.binds md e = true → e.on ≠ i) → oi.apart ops oj = true) →
      i ∈ Region.ready md ops listed → YieldsB P ops C0 oi v a →
      wpAnyP P E md ops C0 n L f (listed.setIfInBounds i true) (a.put oi.dst v) C → wpAnyP P E md ops C0 n L (f + 1) listed a C := by
  intro f
  induction f with
  | zero =>
    intro listed a C inv _ hr hy H
    have hun := (mem_ready.1 hr).1
    refine ⟨fun h => (by rw [h] at hr; cases hr), fun j hj => ?_⟩
    have hjn : j < n := by
      rcases Nat.lt_or_ge j n with h | h
      · exact h
      · exact absurd hj (tail_waits hs hc hn inv _ i rfl hin hun j h)
    refine ⟨hjn, ?_⟩
    by_cases hji : j = i
    · subst hji; exact hy.pOp hi H
    · have := hdone _ _ _ H j (ready_mono hj hji)
      omega
  | succ f ih =>
    intro listed a C inv hfree hr hy H
    have hun := (mem_ready.1 hr).1
    refine ⟨fun h => (by rw [h] at hr; cases hr), fun j hj => ?_⟩
    have hjn : j < n := by
      rcases Nat.lt_or_ge j n with h | h
      · exact h
      · exact absurd hj (tail_waits hs hc hn inv _ i rfl hin hun j h)
    refine ⟨hjn, ?_⟩
    by_cases hji : j = i
    · subst hji; exact hy.pOp hi H
    · have h1 := (H.2 j (ready_mono hj hji)).2
      obtain ⟨hjun, oj, hoj, hall⟩ := mem_ready.1 hj
      have hnot : ∀ e ∈ oj.after, Region.binds md e = true → e.on ≠ i := fun e he hb heq => by
        have h1 := hall e he hb
        rw [heq, getD_both hun] at h1
        cases h1
      have h2 := pOp_put hoj (hfree j oj hoj hji hjun hnot) (fun cs b => hsel i oi cs b hi) (fun cs b => hsel j oj cs b hoj) hy h1
      have hfree' : ∀ k ok, ops[k]? = some ok → k ≠ i → (listed.setIfInBounds j true).getD k true = false →
          (∀ e ∈ ok.after, Region.binds md e = true → e.on ≠ i) → oi.apart ops ok = true := fun k ok hk hki hun hno => by
        refine hfree k ok hk hki ?_ hno
        by_cases hjk : j = k
        · subst hjk; exact hjun
        · rw [getD_set_ne true hjk] at hun; exact hun
      refine pOp_mono (fun a' C' h3 => ih (listed.setIfInBounds j true) a' C' (inv.set hj hjn) hfree' (ready_mono hr (Ne.symm hji)) h3.1 ?_) h2
      rw [Array.setIfInBounds_comm _ _ hji]
      exact h3.2
/-- an operation at its place -/
def headP (P : Program) (E : List PanicEntry → World → Prop) (md : Region.Mode) (ops : Array Oper) (C0 : Cl) (k : Nat) (listed : Array Bool) (o : Oper) (next : Act → Cl → Prop) (a : Act) (C : Cl) : Prop :=
  if Region.wanted o (yielded ops a.tmps) then (∃ v, (∀ w, C0 w → bAt P o a w v) ∧ next (a.put o.dst v) C) ∨ (soleB md ops listed k = true ∧ pEff P E o a C0 C next) else next (a.put o.dst undef) C
/-- the walk in the order that is told -/
def wpHeadP (P : Program) (E : List PanicEntry → World → Prop) (md : Region.Mode) (ops : Array Oper) (C0 : Cl) (L : Act → Cl → Prop) : List Nat → Array Bool → Act → Cl → Prop
  | [], _, a, C => L a C
  | k :: rest, listed, a, C => match ops[k]? with
    | none => False
    | some o => headP P E md ops C0 k listed o (fun a' C' => wpHeadP P E md ops C0 L rest (listed.setIfInBounds k true) a' C') a C
/-- may it be walked in this order? -/
def permB (md : Region.Mode) (ops : Array Oper) (g n : Nat) : List Nat → Array Bool → Bool
  | [], listed => Region.seqB md ops g n listed
  | k :: r, listed => (Nat.blt k n && (Region.ready md ops listed).contains k && Region.free md ops listed k) && permB md ops g n r (listed.setIfInBounds k true)
def permTailB (md : Region.Mode) (ops : Array Oper) (n : Nat) (perm : List Nat) : Bool :=
  Region.noSelect ops && Nat.blt n ops.size && Region.sinkB md ops n && Region.chainB md ops n && Nat.beq perm.length n && permB md ops (ops.size - n) n perm (Array.replicate ops.size false)
theorem wpAnyP_perm {n g : Nat} {Lq : Act → Cl → Prop} (hsel : Region.noSelect ops = true) (hs : Region.sinkB md ops n = true) (hc : Region.chainB md ops n = true) (hn : n < ops.size) :
    ∀ (l : List Nat) (listed : Array Bool) (a : Act) (C : Cl), HeadInv md ops n listed → permB md ops g n l listed = true → wpHeadP P E md ops C0 Lq l listed a C →
    wpAnyP P E md ops C0 n (fun listed' a' C' => Region.seqB md ops g n listed' = true ∧ Lq a' C') l.length listed a C
  | [], listed, a, C, inv, hB, h => ⟨by simpa [permB] using hB, h⟩
  | k :: l, listed, a, C, inv, hB, h => by
    simp only [permB, Bool.and_eq_true] at hB
    obtain ⟨⟨⟨hkn, hr⟩, hf⟩, hB'⟩ := hB
    have hkn : k < n := blt_lt hkn
    have hr' : k ∈ Region.ready md ops listed := by simpa using hr
    unfold wpHeadP at h
    cases h0 : ops[k]? with
    | none => rw [h0] at h; exact h.elim
    | some o =>
      rw [h0] at h
      simp only at h
      have ih : ∀ a C, wpHeadP P E md ops C0 Lq l (listed.setIfInBounds k true) a C → wpAnyP P E md ops C0 n (fun listed' a' C' => Region.seqB md ops g n listed' = true ∧ Lq a' C') l.length (listed.setIfInBounds k true) a C := fun a C hK =>
        wpAnyP_perm hsel hs hc hn l _ a C (inv.set hr' hkn) hB' hK
      have step : ∀ v, YieldsB P ops C0 o v a → wpHeadP P E md ops C0 Lq l (listed.setIfInBounds k true) (a.put o.dst v) C → wpAnyP P E md ops C0 n (fun listed' a' C' => Region.seqB md ops g n listed' = true ∧ Lq a' C') (k :: l).length listed a C := fun v hy hK =>
        wpAnyP_first h0 (Region.noSelect_spec hsel) hs hc hn hkn (fun listed' a' C' hL => seqB_ready hL.1) l.length listed a C inv (Region.free_spec h0 hf) hr' hy (ih _ _ hK)
      unfold headP at h
      by_cases hw : Region.wanted o (yielded ops a.tmps) = true
      · rw [if_pos hw] at h
        rcases h with ⟨v, h1, h2⟩ | ⟨hsole, hm⟩
        · exact step v (.inl ⟨hw, h1⟩) h2
        · refine ⟨fun h => (by rw [h] at hr'; cases hr'), fun j hj => ?_⟩
          have hjk : j = k := Nat.eq_of_beq_eq_true (List.all_eq_true.1 hsole j hj)
          subst hjk
          refine ⟨hkn, ?_⟩
          unfold pOp
          simp only [h0, hw, if_true]
          obtain ⟨X, V, M, m1, m2, m3, m4⟩ := hm
          exact .inr ⟨X, V, M, m1, m2, m3, fun x => ih _ _ (m4 x)⟩
      · rw [if_neg hw] at h
        exact step undef (.inr ⟨by simpa using hw, rfl⟩) h
/-- slots that no operation of the region writes -/
def offB (ops : Array Oper) (ρ : Env) : Bool := ops.all fun o => match o.dst with
  | none => true
  | some d => (ρ.find d).isNone
theorem Fits.off {N : Nat} {D : List Deferred} {ρ : Env} (h : offB ops ρ = true) (i : Nat) (o : Oper) (a : Act) (v : Value) (hi : ops[i]? = some o) (hf : Fits N D a ρ) : Fits N D (a.put o.dst v) ρ := by
  have h1 := (Array.all_eq_true'.1 h) o (Array.mem_of_getElem? hi)
  cases hd : o.dst with
  | none => exact hf
  | some d =>
    rw [hd] at h1
    simp only at h1
    refine ⟨by simp [Act.put, hf.size], hf.defs, fun n u hu => ?_⟩
    have hne : d ≠ n := fun e => by subst e; rw [hu] at h1; cases h1
    have := hf.get n u hu
    rw [← this]
    simp only [Act.put, Array.getD_eq_getD_getElem?, Array.getElem?_setIfInBounds, hne, if_false]
theorem wp_region_perm {id : Nat} {Q : Exit → Act → World → Prop} {a : Act} {w : World} {l : List Oper} (C0 C : Cl) (A : Act → Prop) (n : Nat) (perm : List Nat) (hm : P.follows .mixedOrders = true) (hB : permTailB .any l.toArray n perm = true)
    (hA : ∀ (i : Nat) (o : Oper) (a : Act) (v : Value), l.toArray[i]? = some o → A a → A (a.put o.dst v)) (hE : ∀ a ch w, A a → E ch w → Q (.panic ch) a w) (ha : A a)
    (hcl : C.Closed) (hCC : ∀ W, C W → C0 W) (hC : C w.drew)
    (h : wpHeadP P E .any l.toArray C0 (fun a' C' => ∀ w', C' w' → wpList P l.toArray Q (l.drop n) a' w') perm (Array.replicate l.length false) a C) : (Code.region id l.toArray true).wp P Q a w := by
  simp only [permTailB, Bool.and_eq_true] at hB
  obtain ⟨⟨⟨⟨⟨hsel, hn⟩, hs⟩, hc⟩, hpl⟩, hperm⟩ := hB
  have hn : n < l.toArray.size := blt_lt hn
  have hpl := Nat.eq_of_beq_eq_true hpl
  have hn' : n < l.length := by simpa using hn
  have hdl : (l.drop n).length = l.toArray.size - n := by simp
  have inv0 : HeadInv .any l.toArray n (Array.replicate l.toArray.size false) :=
    ⟨by simp, fun j oj _ hl => (by rw [getD_replicate_false] at hl; cases hl), fun t _ ht => getD_in (by simpa using ht) (getD_replicate_false _ _)⟩
  have hsz : l.toArray.size = l.length := by simp
  have H := wpAnyP_perm (md := .any) (g := l.toArray.size - n) hsel hs hc hn perm _ a C inv0 hperm (by rw [hsz]; exact h)
  refine wp_region_any hm ?_
  have := wpAny_of_P (Q' := Q) (g := l.toArray.size - n) hA hE (fun listed a' w' C' hw' hL => by
    have := wpAny_of_seq (md := .any) (Q' := Q) (l.drop n) n listed a' w' (fun j => by simp [List.getElem?_drop]) (by rw [hdl]; exact hL.1) (hL.2 w' hw')
    rwa [hdl] at this) _ _ _ _ C ha hcl hCC hC H
  rw [hpl, hsz, show n + (l.length - n) = l.length by omega] at this
  exact this
end
/-! ## the logic's rules -/
structure WP (P : Program) (K : Cx) (E : List PanicEntry → World → Prop) (ops : Array Oper) (L : Act → Cl → Prop) (m0 : List HP) (l : List Nat) (listed : Array Bool) (ρ : Env) (m : List HP) : Prop where
  run : ∀ a, Fits K.N K.D a ρ → wpHeadP P E .any ops (Holds K.w0 K.F m0) L l listed a (Holds K.w0 K.F m)
/-- out by a panic: of the slots only these are known -/
def PanE (K : Cx) (ρp : Env) (Q : Exit → Act → World → Prop) (ch : List PanicEntry) (w : World) : Prop := ∀ a, Fits K.N K.D a ρp → Q (.panic ch) a w
section rules
variable {P : Program} {K : Cx} {ρ ρp : Env} {m m0 m' r : List HP} {ty t : TypeId} {pos : String} {aft : Array Edge} {g : Option (Nat × Bool)} {v : Value} {x y : Operand} {ops : Array Oper} {Q : Exit → Act → World → Prop} {rest : List Nat} {tl : List Oper} {d : Nat} {op : Op} {L : Act → Cl → Prop}
  {e : TypeId} {sz n c bytes : Nat} {zs xs : List Value} {k : Nat} {listed : Array Bool} {p : Option Addr} {E : List PanicEntry → World → Prop} {G : Rd}
/-- m0: what no operation of the region turns; n operations in the order perm, the others behind them; ρp: slots that the region leaves, known where it panics -/
theorem CW_perm (n : Nat) (perm : List Nat) (m0 : List HP) (ρp : Env) (hρ : Cov ρ ρp) {pm : List HP} (he : Ent m (pm ++ m0)) {id : Nat} {l : List Oper} (hM : P.follows .mixedOrders = true) (hB : permTailB .any l.toArray n perm = true) (hO : offB l.toArray ρp = true)
    (h : WP P K (PanE K ρp Q) l.toArray (LT P l.toArray Q (l.drop n)) m0 perm (Array.replicate l.length false) ρ m) : CW P K Q (.region id l.toArray true) ρ m :=
  ⟨fun a _ hf hm => wp_region_perm (E := PanE K ρp Q) (Holds K.w0 K.F m0) (Holds K.w0 K.F m) (fun a => Fits K.N K.D a ρp) n perm hM hB (fun i o a v hi ha => Fits.off hO i o a v hi ha) (fun a _ch _w ha hq => hq a ha) (hf.cov hρ) (Holds.closed _ _ _) (fun _ hW => (hW.ent he).drop) hm.drew (h.run a hf)⟩
theorem WP_end (h : WL P K ops Q tl ρ m) : WP P K E ops (LT P ops Q tl) m0 [] listed ρ m := ⟨fun a hf w hw => h.run a w hf hw⟩
theorem WP_op (hk : ops[k]? = some ⟨some d, op, ty, pos, aft, g⟩) (hg : guardB ops g ρ = some true) (hn : (guardN K.N ops g && Nat.blt d K.N) = true) (h : Yi P K ρ m0 ⟨some d, op, ty, pos, aft, g⟩ v) (k' : WP P K E ops L m0 rest (listed.setIfInBounds k true) ((d, v) :: ρ) m) :
    WP P K E ops L m0 (k :: rest) listed ρ m := by
  refine ⟨fun a hf => ?_⟩
  simp only [Bool.and_eq_true] at hn
  unfold wpHeadP
  rw [hk]
  simp only
  unfold headP
  rw [if_pos (guard_wanted hf hg (guardN_spec hn.1))]
  refine .inl ⟨v, fun w hw => ?_, k'.run _ (hf.put (blt_lt hn.2) v)⟩
  unfold bAt
  rw [h.run a w hf hw]
  exact ⟨rfl, rfl⟩
/-- a call whose value is known, and that turns nothing -/
theorem WP_callV {f : FuncId} [S : FnT P f] {xs : List Operand} {ats : Array TypeId} {vs : List Value} (hk : ops[k]? = some ⟨some d, .call ⟨.value (.func f), xs.toArray, ats⟩, ty, pos, aft, g⟩) (hx : opvs ρ xs = some vs)
    (hg : guardB ops g ρ = some true) (hn : (guardN K.N ops g && Nat.blt d K.N) = true) (hc : ∀ w, Holds K.w0 K.F m0 w → Calls P f vs.toArray w fun e w' => e = .returned v ∧ Below w.heap.size w w')
    (k' : WP P K E ops L m0 rest (listed.setIfInBounds k true) ((d, v) :: ρ) m) : WP P K E ops L m0 (k :: rest) listed ρ m := by
  refine ⟨fun a hf => ?_⟩
  simp only [Bool.and_eq_true] at hn
  unfold wpHeadP
  rw [hk]
  simp only
  unfold headP
  rw [if_pos (guard_wanted hf hg (guardN_spec hn.1))]
  refine .inl ⟨v, fun w hw => ?_, k'.run _ (hf.put (blt_lt hn.2) v)⟩
  unfold bAt
  rw [run_enter hf hx]
  exact ⟨rfl, hc w hw⟩
theorem WP_bslice [S : ElT P t e sz zs bytes] {pm : List HP} {len : Nat} {parts : List (Nat × Operand)} {pvs : List (Nat × Value)} {cs : List Value} (hk : ops[k]? = some ⟨some d, .buildSlice t len parts.toArray, ty, pos, aft, g⟩) (he : Ent m (pm ++ m0)) (hso : soleB .any ops listed k = true) (hx : partsV ρ parts = some pvs) (hl : Nat.beq pvs.length len = true) (hc : bsl sz 0 pvs = some cs) (hs : Nat.ble (len * sz) 16777216 = true) (h0 : Nat.blt 0 len = true)
    (hg : guardB ops g ρ = some true) (hn : (guardN K.N ops g && Nat.blt d K.N) = true) (k' : ∀ b, WP P K E ops L m0 rest (listed.setIfInBounds k true) ((d, .slice (some ⟨b, 0, none⟩) len len) :: ρ) (blk b e cs.toArray :: m)) :
    WP P K E ops L m0 (k :: rest) listed ρ m := by
  refine ⟨fun a hf => ?_⟩
  simp only [Bool.and_eq_true] at hn
  unfold wpHeadP
  rw [hk]
  simp only
  unfold headP
  rw [if_pos (guard_wanted hf hg (guardN_spec hn.1))]
  refine .inr ⟨hso, Nat, fun b => .slice (some ⟨b, 0, none⟩) len len, fun b => Holds K.w0 K.F (blk b e cs.toArray :: m), fun x => Holds.closed _ _ _, fun x W hW => ((Holds.drop (m1 := [blk x e cs.toArray]) hW).ent he).drop, fun W hW => ?_, fun x => (k' x).run _ (hf.put (blt_lt hn.2) _)⟩
  rw [run_bslice hx hl hc hs h0 hf]
  exact ⟨W.heap.size, rfl, hW.new e cs.toArray⟩
theorem WP_append [S : ElT P t e sz zs bytes] {pm : List HP} {p' : Option Addr} {b n' c' : Nat} {cs : Array Value} {m1 : List HP} (hk : ops[k]? = some ⟨some d, .call ⟨.builtin .append, #[x, y], #[t, t]⟩, ty, pos, aft, g⟩) (hso : soleB .any ops listed k = true) (hx : opv ρ x = some (.slice p n c)) (hy : opv ρ y = some (.slice p' n' c')) (he : p' = some ⟨b, 0, none⟩)
    (hp : Pick m (sl e sz p n c xs) m1) (hp2 : Pick m1 (blk b e cs) r) (hr : Ent r (pm ++ m0)) (hl : cs.size = n' * sz) (h1' : cs.toList.all Value.oneCell' = true) (hmax : (n + n') * bytes ≤ 140737488355328) (hmax2 : n + n' ≤ 140737488355328)
    (hg : guardB ops g ρ = some true) (hn : (guardN K.N ops g && Nat.blt d K.N) = true) (k' : ∀ q c'', WP P K E ops L m0 rest (listed.setIfInBounds k true) ((d, .slice q (n + n') c'') :: ρ) (sl e sz q (n + n') c'' (xs ++ cs.toList) :: r)) :
    WP P K E ops L m0 (k :: rest) listed ρ m := by
  refine ⟨fun a hf => ?_⟩
  simp only [Bool.and_eq_true] at hn
  unfold wpHeadP
  rw [hk]
  simp only
  unfold headP
  rw [if_pos (guard_wanted hf hg (guardN_spec hn.1))]
  refine .inr ⟨hso, Option Addr × Nat, fun z => .slice z.1 (n + n') z.2, fun z => Holds K.w0 K.F (sl e sz z.1 (n + n') z.2 (xs ++ cs.toList) :: r), fun x => Holds.closed _ _ _, fun z W hW => ((Holds.drop (m1 := [sl e sz z.1 (n + n') z.2 (xs ++ cs.toList)]) hW).ent hr).drop, fun w hm => ?_, fun z => (k' z.1 z.2).run _ (hf.put (blt_lt hn.2) _)⟩
  obtain ⟨i, z, hi, hz, hsz, hby, hzs⟩ := S.info
  have h1 : ∀ u ∈ cs.toList, u.oneCell' = true := fun u hu => (List.all_eq_true.1 h1') u hu
  have hown := hm.slR hp
  obtain ⟨fp, ⟨hfp, _⟩, _, hsp⟩ := hm.split hp
  have hb : w.heap[b]? = some (.cells cs e (0, 0)) := by
    have h2 := hsp [] w ⟨Keep.refl _ _, [], rfl, by simp⟩
    exact h2.blk hp2
  subst he
  have hnews : ∀ (j : Nat) u, cs.toList[j]? = some u → w.cell? ((⟨b, 0, none⟩ : Addr).add j) = some u := fun j u hu => by
    have ha : (⟨b, 0, none⟩ : Addr).add j = ⟨b, j, none⟩ := by unfold Addr.add; split <;> simp [*]
    rw [ha]; simp only [World.cell?, hb]; simpa using hu
  have hzl : z.cells.size = sz := by rw [hzs]; simp [S.len]
  obtain ⟨v', w', hr, h2, h3, _⟩ := run_append_own (P := P) w 0 t ty e i z sz bytes S.und hi hz hsz hby hzl S.pos (.slice p n c) n xs hown ⟨b, 0, none⟩ n' c' cs.toList (by simpa using hl) hnews h1 (by unfold maxLen; omega) hmax (Nat.zero_le _)
  have hwh := append_where (P := P) w S.und hi hz hsz hby hzl S.pos (.slice p n c) n xs hown ⟨b, 0, none⟩ n' c' cs.toList (by simpa using hl) hnews h1 (by unfold maxLen; omega) hmax hr
  obtain ⟨q, c'', rfl⟩ : ∃ q c'', v' = .slice q (n + n') c'' := by
    rcases h2.2 with ⟨hv, h0⟩ | ⟨g, cap, cur, hv, _⟩
    · rw [h0]; exact ⟨_, _, hv⟩
    · exact ⟨_, _, hv⟩
  rw [run_bi hf hx hy hr]
  refine ⟨(q, c''), rfl, ?_⟩
  have hH : Holds w fp [sl e sz q (n + n') c'' (xs ++ cs.toList)] w' := by
    refine ⟨keep_grown h3 (fun i hi => by rw [hfp]; exact (ownBlock_blkOf p n c i).2 hi), blkOf q, ⟨blkOf q, [], by simp, ⟨rfl, h2⟩, rfl, by simp⟩, fun i hi hl => ?_⟩
    have h5 := (ownBlock_blkOf q (n + n') c'' i).1 hi
    rw [hfp]
    rcases hwh i h5 with h | h
    · exact (ownBlock_blkOf p n c i).2 h
    · omega
  exact (hsp _ w' hH).ent (Ent.sub (r2 := r) hp2)
theorem WP_store {pm : List HP} {b i : Nat} {T : TypeId} {cs : Array Value} {zv : Value} [S : OneT P t zv] (hk : ops[k]? = some ⟨none, .store t x y, ty, pos, aft, g⟩) (hso : soleB .any ops listed k = true) (hx : opv ρ x = some (.pointer (some ⟨b, i, none⟩))) (hy : opv ρ y = some v) (h1 : v.oneCell' = true) (hp : Pick m (blk b T cs) r) (hr : Ent r (pm ++ m0)) (hi : Nat.blt i cs.toList.length = true)
    (hg : guardB ops g ρ = some true) (hn : guardN K.N ops g = true) (k' : WP P K E ops L m0 rest (listed.setIfInBounds k true) ρ (blk b T (cs.setIfInBounds i v) :: r)) :
    WP P K E ops L m0 (k :: rest) listed ρ m := by
  refine ⟨fun a hf => ?_⟩
  unfold wpHeadP
  rw [hk]
  simp only
  unfold headP
  rw [if_pos (guard_wanted hf hg (guardN_spec hn))]
  have hi := blt_lt hi
  refine .inr ⟨hso, Unit, fun _ => undef, fun _ => Holds K.w0 K.F (blk b T (cs.setIfInBounds i v) :: r), fun _ => Holds.closed _ _ _, fun _ W hW => ((Holds.drop (m1 := [blk b T (cs.setIfInBounds i v)]) hW).ent hr).drop, fun w hm => ?_, fun _ => k'.run _ (hf.put_none _)⟩
  have hb := hm.blk hp
  have h2 := run_store1 (P := P) (t := t) (w := w) (a := ⟨b, i, none⟩) (v := v) (u := cs[i]'(by simpa using hi)) (S.size w) h1 (by simp [World.cell?, hb]) (by simp [World.frozen?, hb])
  have h3 : (execOp a.eval ⟨none, .store t x y, ty, pos, aft, g⟩).run P w = .ok .skip (w.setCell ⟨b, i, none⟩ v) := by
    simp only [execOp, hf.eval hx, hf.eval hy]
    simp [h2]
  rw [h3]
  exact ⟨rfl, (), hm.set hp i v⟩
/-- a call with some of the caller's things that grows what may be read; it may panic -/
theorem WP_callG {f : FuncId} [S : FnT P f] {xs : List Operand} {ats : Array TypeId} {vs : List Value} {m1 : List HP} (hk : ops[k]? = some ⟨some d, .call ⟨.value (.func f), xs.toArray, ats⟩, ty, pos, aft, g⟩) (e : Ent m (ro K.w0 K.F G :: (m1 ++ r))) (hso : soleB .any ops listed k = true) (hx : opvs ρ xs = some vs)
    (hg : guardB ops g ρ = some true) (hn : (guardN K.N ops g && Nat.blt d K.N) = true) {X Y : Type} {V : X → Value} {Gx : X → Rd} {M : X → List HP} {I : X → Prop} {C : Y → List PanicEntry} {Gy : Y → Rd} {MP : Y → List HP} {J : Y → Prop}
    (hc : ∀ w fp, Holds K.w0 K.F (ro K.w0 K.F G :: (m1 ++ r)) w → Own m1 fp w → Rd.sub G fp w → (∀ i ∈ fp, i < K.w0.heap.size → i ∈ K.F) → Calls P f vs.toArray w fun e w' => (∃ x, I x ∧ e = .returned (V x) ∧ Rd.grow w G (Gx x) ∧ Holds w fp (ro w fp (Gx x) :: M x) w') ∨ (∃ y, J y ∧ e = .panicked (C y) ∧ Rd.grow w G (Gy y) ∧ Holds w fp (ro w fp (Gy y) :: MP y) w'))
    (hr : ∀ x, I x → ∃ pm, Ent (ro K.w0 K.F (Gx x) :: (M x ++ r)) (pm ++ m0))
    (k' : ∀ x, I x → Rd.grow K.w0 G (Gx x) → WP P K (PanE K ρp Q) ops L m0 rest (listed.setIfInBounds k true) ((d, V x) :: ρ) (ro K.w0 K.F (Gx x) :: (M x ++ r)))
    (kp : ∀ y, J y → Rd.grow K.w0 G (Gy y) → EX K Q (.panic (C y)) ρp (ro K.w0 K.F (Gy y) :: (MP y ++ r))) :
    WP P K (PanE K ρp Q) ops L m0 (k :: rest) listed ρ m := by
  refine ⟨fun a hf => ?_⟩
  simp only [Bool.and_eq_true] at hn
  unfold wpHeadP
  rw [hk]
  simp only
  unfold headP
  rw [if_pos (guard_wanted hf hg (guardN_spec hn.1))]
  refine .inr ⟨hso, { x : X // I x ∧ Rd.grow K.w0 G (Gx x) }, fun x => V x.1, fun x => Holds K.w0 K.F (ro K.w0 K.F (Gx x.1) :: (M x.1 ++ r)), fun _ => Holds.closed _ _ _, fun x W hW => ?_, fun W hW => ?_, fun x => (k' x.1 x.2.1 x.2.2).run _ (hf.put (blt_lt hn.2) _)⟩
  · obtain ⟨pm, hpm⟩ := hr x.1 x.2.1
    exact (hW.ent hpm).drop
  rw [run_enter hf hx]
  have hm' := hW.ent e
  obtain ⟨fp, h1, h2, h3, hsp⟩ := hm'.callR
  refine (hc W fp hm' h1 h2 h3).mono fun e w' hr => ?_
  rcases hr with ⟨z, hz, rfl, hgr, hh⟩ | ⟨z, hz, rfl, hgr, hh⟩
  · exact .inl ⟨⟨z, hz, Rd.grow_up hm'.size hgr⟩, rfl, hsp _ _ _ hgr hh⟩
  · exact .inr ⟨C z, rfl, fun a' ha' => (kp z hz (Rd.grow_up hm'.size hgr)).run _ _ ha' (hsp _ _ _ hgr hh)⟩
end rules
end Go.Proofs.YtllgkdkjcbohcaaGreatDoor
