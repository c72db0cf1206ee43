/-
  The logic of walks: a region that draws its order, walked in an order that is told: each operation that turns memory, or that may panic, comes at a place where nothing else is ready, when all that yields one value is ahead of it. Of no program.
  ravelinref3: letters, names. (Cut out of XRefLet, XRefSpell.)
  What the laws of package save use alike: the fact of an empty workspace.
  What the laws of package save use alike.
  ravelinsame.Array, ravelinsame.Space: of two that hold the same.
  ravelinref5.unlike, Checked, Tail; ravelinref4.SpaceFault.
-/
import Derived.Test.YtdnkapfcnapadaaGreatDoorDrawn
import Derived.Test.YtdnkapfcnapadaaGreatDoorRd
import Derived.Test.YtdnkapfcnapadaaGreatDoorGo
import Derived.Test.YtdnkapfcnapadaaGreatDoorLex1
import Derived.Test.YtdnkapfcnapadaaGreatDoorSaveSpace
import Derived.Test.YtdnkapfcnapadaaGreatDoorSave5
import Derived.Test.YtdnkapfcnapadaaGreatDoorLaidF
import Derived.Test.YtdnkapfcnapadaaGreatDoorSaveR6
import Derived.Test.YtdnkapfcnapadaaGreatDoorSameInts
import Derived.Test.YtdnkapfcnapadaaGreatDoorInst
import Derived.Test.YtdnkapfcnapadaaGreatDoorSaveBody
import Derived.Test.YtdnkapfcnapadaaGreatDoorSave3
import Derived.Test.YtdnkapfcnapadaaGreatDoorRefFlaw
import Derived.Test.YtdnkapfcnapadaaGreatDoorLitL
namespace Go.Proofs.YtdnkapfcnapadaaGreatDoor
open Go.RowKit

section
variable {P : Program} {E : List PanicEntry → World → Prop} {ops : Array Oper} {md : Region.Mode} {C0 : Cl}

def pUpon (P : Program) (E : List PanicEntry → World → Prop) (o : Oper) {X : Type} (V : X → Value) (M : X → Cl) : Result Next → Prop
  | .ok (.value u) w' => ∃ x, u = V x ∧ M x w'
  | .ok .skip w' => o.dst = none ∧ ∃ x, M x w'
  | .ok (.enter f args) w' => Calls P f args w' (fun e w'' => (∃ x, e = .returned (V x) ∧ M x w'') ∨ ∃ ch, e = .panicked ch ∧ E ch w'')
  | _ => False
/-- it turns things: what is known behind it is M x, and C0 stays known -/
def pEff (P : Program) (E : List PanicEntry → World → Prop) (o : Oper) (a : Act) (C0 C : Cl) (K : Act → Cl → Prop) : Prop :=
  ∃ (X : Type) (V : X → Value) (M : X → Cl), (∀ x, (M x).Closed) ∧ (∀ x W, M x W → C0 W) ∧
    (∀ W, C W → pUpon P E o V M ((execOp a.eval o).run P W)) ∧ ∀ x, K (a.put o.dst (V x)) (M x)
def pOp (P : Program) (E : List PanicEntry → World → Prop) (ops : Array Oper) (C0 C : Cl) (i : Nat) (K : Act → Cl → Prop) (a : Act) : Prop :=
  match ops[i]? with
  | none => K a C
  | some o => if Region.wanted o (yielded ops a.tmps) then (∃ v, (∀ w, C0 w → bAt P o a w v) ∧ K (a.put o.dst v) C) ∨ pEff P E o a C0 C K else K (a.put o.dst undef) C
theorem pOp_mono {C : Cl} {i : Nat} {a : Act} {K K' : Act → Cl → Prop} (h : ∀ a C, K a C → K' a C) (hh : pOp P E ops C0 C i K a) : pOp P E ops C0 C i K' a := by
  unfold pOp at *
  split
  · exact h _ _ (by simpa [*] using hh)
  · rename_i o ho
    simp only [ho] at hh
    split
    · rename_i hw
      simp only [hw, if_true] at hh
      rcases hh with ⟨v, h1, h2⟩ | ⟨X, V, M, h1, h2, h3, h4⟩
      · exact .inl ⟨v, h1, h _ _ h2⟩
      · exact .inr ⟨X, V, M, h1, h2, h3, fun x => h _ _ (h4 x)⟩
    · rename_i hw; simp only [hw] at hh; exact h _ _ hh
def wpAnyP (P : Program) (E : List PanicEntry → World → Prop) (md : Region.Mode) (ops : Array Oper) (C0 : Cl) (n : Nat) (L : Array Bool → Act → Cl → Prop) : Nat → Array Bool → Act → Cl → Prop
  | 0, listed, a, C => L listed a C
  | f + 1, listed, a, C => Region.ready md ops listed ≠ [] ∧ ∀ i ∈ Region.ready md ops listed, i < n ∧ pOp P E ops C0 C i (fun a' C' => wpAnyP P E md ops C0 n L f (listed.setIfInBounds i true) a' C') a

theorem wpOp_of_pOp {C : Cl} {i : Nat} {a : Act} {K : Act → Cl → Prop} {K' : Act → World → Prop} {Q' : Exit → Act → World → Prop} {w : World} (hcl : C.Closed) (hCC : ∀ W, C W → C0 W) (hC : C w) (hE : ∀ ch w, E ch w → Q' (.panic ch) a w) (h : ∀ a w' (C' : Cl), C'.Closed → (∀ W, C' W → C0 W) → C' w' → K a C' → K' a w') (hh : pOp P E ops C0 C i K a) : wpOp P ops Q' i K' a w := by
  unfold pOp at hh
  unfold wpOp
  split
  · rename_i ho; simp only [ho] at hh; exact h _ _ _ hcl hCC hC hh
  · rename_i o ho
    simp only [ho] at hh
    split
    · rename_i hw
      simp only [hw, if_true] at hh
      refine .inl ?_
      rcases hh with ⟨v, h1, h2⟩ | ⟨X, V, M, h1, h2, h3, h4⟩
      · have h3 := h1 w (hCC _ hC)
        unfold bAt at h3
        unfold Oper.wp
        generalize (execOp a.eval o).run P w = r at *
        cases r with
        | ok nx w' =>
          cases nx <;> simp only [bUpon] at h3 <;> simp only [Oper.upon]
          case value u =>
            obtain ⟨e1, e2⟩ := h3
            rw [e1, e2]
            exact h _ _ _ hcl hCC hC h2
          case enter f args =>
            obtain ⟨e1, hc⟩ := h3
            rw [e1]
            exact hc.mono fun e w'' ⟨he, hw''⟩ => by subst he; exact h _ _ _ hcl hCC (hcl _ _ hC hw'') h2
        | halt x w' => simp only [bUpon] at h3
      · have h5 := h3 w hC
        unfold Oper.wp
        generalize (execOp a.eval o).run P w = r at *
        cases r with
        | ok nx w' =>
          cases nx <;> simp only [pUpon] at h5 <;> simp only [Oper.upon]
          case value u =>
            obtain ⟨x, he, hm⟩ := h5
            rw [he]; exact h _ _ _ (h1 x) (h2 x) hm (h4 x)
          case skip =>
            obtain ⟨hd, x, hm⟩ := h5
            have h6 := h _ _ _ (h1 x) (h2 x) hm (h4 x)
            rw [hd] at h6 ⊢; exact h6
          case enter f args =>
            refine h5.mono fun e w'' hq => ?_
            rcases hq with ⟨x, he, hm⟩ | ⟨ch, he, hq⟩
            · subst he; exact h _ _ _ (h1 x) (h2 x) hm (h4 x)
            · subst he; exact hE ch w'' hq
        | halt x w' => simp only [pUpon] at h5
    · rename_i hw; simp only [hw] at hh; exact h _ _ _ hcl hCC hC hh

theorem pOp_A {C : Cl} {i : Nat} {a : Act} {K : Act → Cl → Prop} {A : Act → Prop} (hA : ∀ (o : Oper) (a : Act) (v : Value), ops[i]? = some o → A a → A (a.put o.dst v)) (h : A a) (hi : ∃ o, ops[i]? = some o) (hh : pOp P E ops C0 C i K a) : pOp P E ops C0 C i (fun a' C' => A a' ∧ K a' C') a := by
  obtain ⟨o, ho⟩ := hi
  unfold pOp at *
  simp only [ho] at hh ⊢
  split
  · rename_i hw
    simp only [hw, if_true] at hh
    rcases hh with ⟨v, h1, h2⟩ | ⟨X, V, M, h1, h2, h3, h4⟩
    · exact .inl ⟨v, h1, hA o a v ho h, h2⟩
    · exact .inr ⟨X, V, M, h1, h2, h3, fun x => ⟨hA o a _ ho h, h4 x⟩⟩
  · rename_i hw; simp only [hw] at hh; exact ⟨hA o a _ ho h, hh⟩
theorem wpAny_of_P {n g : Nat} {L : Array Bool → Act → Cl → Prop} {Q' : Exit → Act → World → Prop} {A : Act → Prop} (hA : ∀ (i : Nat) (o : Oper) (a : Act) (v : Value), ops[i]? = some o → A a → A (a.put o.dst v)) (hE : ∀ a ch w, A a → E ch w → Q' (.panic ch) a w)
    (hL : ∀ listed a w (C : Cl), C w → L listed a C → wpAny P md ops Q' g listed a w) :
    ∀ (f : Nat) (listed : Array Bool) (a : Act) (w : World) (C : Cl), A a → C.Closed → (∀ W, C W → C0 W) → C w → wpAnyP P E md ops C0 n L f listed a C → wpAny P md ops Q' (f + g) listed a w
  | 0, listed, a, w, C, _, _, _, hw, h => by rw [Nat.zero_add]; exact hL _ _ _ _ hw h
  | f + 1, listed, a, w, C, ha, hcl, hCC, hw, h => by
    rw [show f + 1 + g = (f + g) + 1 by omega]
    refine ⟨fun h0 => absurd h0 h.1, fun i hi => ?_⟩
    obtain ⟨_, oi, hoi, _⟩ := mem_ready.1 hi
    exact wpOp_of_pOp hcl hCC hw (fun ch w hq => hE a ch w ha hq) (fun a' w' C' hc' hs' hw' h' => wpAny_of_P hA hE hL f _ a' w' C' h'.1 hc' hs' hw' h'.2) (pOp_A (fun o a v => hA i o a v) ha ⟨oi, hoi⟩ (h.2 i hi).2)

theorem YieldsB.pOp {C : Cl} {i : Nat} {o : Oper} {v : Value} {a : Act} (hi : ops[i]? = some o) (hy : YieldsB P ops C0 o v a) {K : Act → Cl → Prop} (h : K (a.put o.dst v) C) : pOp P E ops C0 C i K a := by
  unfold Go.Proofs.YtdnkapfcnapadaaGreatDoor.pOp
  simp only [hi]
  rcases hy with ⟨hw, hv⟩ | ⟨hw, rfl⟩
  · simp only [hw, if_true]; exact .inl ⟨v, hv, h⟩
  · simp only [hw, Bool.false_eq_true, if_false]; exact h
theorem pOp_put {C : Cl} {j : Nat} {oi oj : Oper} {v : Value} (hj : ops[j]? = some oj) (hap : oi.apart ops oj = true)
    (hsi : ∀ cs b, oi.op ≠ .select cs b) (hsj : ∀ cs b, oj.op ≠ .select cs b) {K : Act → Cl → Prop} {a : Act}
    (hy : YieldsB P ops C0 oi v a) (h : pOp P E ops C0 C j K (a.put oi.dst v)) :
    pOp P E ops C0 C j (fun a' C' => YieldsB P ops C0 oi v a' ∧ K (a'.put oi.dst v) C') a := by
  obtain ⟨h1, h2, h3⟩ := Oper.apart_spec hap
  have keep : ∀ (a : Act), YieldsB P ops C0 oi v a → ∀ u, YieldsB P ops C0 oi v (a.put oj.dst u) := fun a hy u =>
    hy.of_same (execOp_put oi hsi a oj.dst u h3) (wanted_put oi a oj.dst u h3)
  unfold pOp at *
  simp only [hj] at *
  rw [wanted_put oj a oi.dst v h1] at h
  split
  · rename_i hw
    simp only [hw, if_true] at h
    rcases h with ⟨u, hu, hn⟩ | ⟨X, V, M, m1, m2, m3, m4⟩
    · refine .inl ⟨u, fun w hw' => ?_, keep a hy u, by rw [← Act.put_comm a v u h2]; exact hn⟩
      have := hu w hw'
      unfold bAt at *
      rwa [execOp_put oj hsj a oi.dst v h1] at this
    · refine .inr ⟨X, V, M, m1, m2, fun W hW => ?_, fun x => ⟨keep a hy _, by rw [← Act.put_comm a v (V x) h2]; exact m4 x⟩⟩
      have := m3 W hW
      rwa [execOp_put oj hsj a oi.dst v h1] at this
  · rename_i hw
    simp only [hw] at h
    exact ⟨keep a hy _, by rw [← Act.put_comm a v undef h2]; exact h⟩

theorem wpAnyP_first {n i : Nat} {oi : Oper} {v : Value} {L : Array Bool → Act → Cl → Prop} (hi : ops[i]? = some oi) (hsel : ∀ (j : Nat) (o : Oper) cs b, ops[j]? = some o → o.op ≠ .select cs b)
    (hs : Region.sinkB md ops n = true) (hc : Region.chainB md ops n = true) (hn : n < ops.size) (hin : i < n)
    (hdone : ∀ listed a C, L listed a C → ∀ j ∈ Region.ready md ops listed, n ≤ j) :
    ∀ (f : Nat) (listed : Array Bool) (a : Act) (C : Cl), HeadInv md ops n listed →
      (∀ j oj, ops[j]? = some oj → j ≠ i → listed.getD j true = false → (∀ e ∈ oj.after, Region.binds md e = true → e.on ≠ i) → oi.apart ops oj = true) →
      i ∈ Region.ready md ops listed → YieldsB P ops C0 oi v a →
      wpAnyP P E md ops C0 n L f (listed.setIfInBounds i true) (a.put oi.dst v) C → wpAnyP P E md ops C0 n L (f + 1) listed a C := by
  intro f
  induction f with
  | zero =>
    intro listed a C inv _ hr hy H
    have hun := (mem_ready.1 hr).1
    refine ⟨fun h => (by rw [h] at hr; cases hr), fun j hj => ?_⟩
    have hjn : j < n := by
      rcases Nat.lt_or_ge j n with h | h
      · exact h
      · exact absurd hj (tail_waits hs hc hn inv _ i rfl hin hun j h)
    refine ⟨hjn, ?_⟩
    by_cases hji : j = i
    · subst hji; exact hy.pOp hi H
    · have := hdone _ _ _ H j (ready_mono hj hji)
      omega
  | succ f ih =>
    intro listed a C inv hfree hr hy H
    have hun := (mem_ready.1 hr).1
    refine ⟨fun h => (by rw [h] at hr; cases hr), fun j hj => ?_⟩
    have hjn : j < n := by
      rcases Nat.lt_or_ge j n with h | h
      · exact h
      · exact absurd hj (tail_waits hs hc hn inv _ i rfl hin hun j h)
    refine ⟨hjn, ?_⟩
    by_cases hji : j = i
    · subst hji; exact hy.pOp hi H
    · have h1 := (H.2 j (ready_mono hj hji)).2
      obtain ⟨hjun, oj, hoj, hall⟩ := mem_ready.1 hj
      have hnot : ∀ e ∈ oj.after, Region.binds md e = true → e.on ≠ i := fun e he hb heq => by
        have h1 := hall e he hb
        rw [heq, getD_both hun] at h1
        cases h1
      have h2 := pOp_put hoj (hfree j oj hoj hji hjun hnot) (fun cs b => hsel i oi cs b hi) (fun cs b => hsel j oj cs b hoj) hy h1
      have hfree' : ∀ k ok, ops[k]? = some ok → k ≠ i → (listed.setIfInBounds j true).getD k true = false →
          (∀ e ∈ ok.after, Region.binds md e = true → e.on ≠ i) → oi.apart ops ok = true := fun k ok hk hki hun hno => by
        refine hfree k ok hk hki ?_ hno
        by_cases hjk : j = k
        · subst hjk; exact hjun
        · rw [getD_set_ne true hjk] at hun; exact hun
      refine pOp_mono (fun a' C' h3 => ih (listed.setIfInBounds j true) a' C' (inv.set hj hjn) hfree' (ready_mono hr (Ne.symm hji)) h3.1 ?_) h2
      rw [Array.setIfInBounds_comm _ _ hji]
      exact h3.2


/-- an operation at its place -/
def headP (P : Program) (E : List PanicEntry → World → Prop) (md : Region.Mode) (ops : Array Oper) (C0 : Cl) (k : Nat) (listed : Array Bool) (o : Oper) (next : Act → Cl → Prop) (a : Act) (C : Cl) : Prop :=
  if Region.wanted o (yielded ops a.tmps) then (∃ v, (∀ w, C0 w → bAt P o a w v) ∧ next (a.put o.dst v) C) ∨ (soleB md ops listed k = true ∧ pEff P E o a C0 C next) else next (a.put o.dst undef) C
/-- the walk in the order that is told -/
def wpHeadP (P : Program) (E : List PanicEntry → World → Prop) (md : Region.Mode) (ops : Array Oper) (C0 : Cl) (L : Act → Cl → Prop) : List Nat → Array Bool → Act → Cl → Prop
  | [], _, a, C => L a C
  | k :: rest, listed, a, C => match ops[k]? with
    | none => False
    | some o => headP P E md ops C0 k listed o (fun a' C' => wpHeadP P E md ops C0 L rest (listed.setIfInBounds k true) a' C') a C
/-- may it be walked in this order? -/
def permB (md : Region.Mode) (ops : Array Oper) (g n : Nat) : List Nat → Array Bool → Bool
  | [], listed => Region.seqB md ops g n listed
  | k :: r, listed => (Nat.blt k n && (Region.ready md ops listed).contains k && Region.free md ops listed k) && permB md ops g n r (listed.setIfInBounds k true)
def permTailB (md : Region.Mode) (ops : Array Oper) (n : Nat) (perm : List Nat) : Bool :=
  Region.noSelect ops && Nat.blt n ops.size && Region.sinkB md ops n && Region.chainB md ops n && Nat.beq perm.length n && permB md ops (ops.size - n) n perm (Array.replicate ops.size false)
theorem wpAnyP_perm {n g : Nat} {Lq : Act → Cl → Prop} (hsel : Region.noSelect ops = true) (hs : Region.sinkB md ops n = true) (hc : Region.chainB md ops n = true) (hn : n < ops.size) :
    ∀ (l : List Nat) (listed : Array Bool) (a : Act) (C : Cl), HeadInv md ops n listed → permB md ops g n l listed = true → wpHeadP P E md ops C0 Lq l listed a C →
    wpAnyP P E md ops C0 n (fun listed' a' C' => Region.seqB md ops g n listed' = true ∧ Lq a' C') l.length listed a C
  | [], listed, a, C, inv, hB, h => ⟨by simpa [permB] using hB, h⟩
  | k :: l, listed, a, C, inv, hB, h => by
    simp only [permB, Bool.and_eq_true] at hB
    obtain ⟨⟨⟨hkn, hr⟩, hf⟩, hB'⟩ := hB
    have hkn : k < n := blt_lt hkn
    have hr' : k ∈ Region.ready md ops listed := by simpa using hr
    unfold wpHeadP at h
    cases h0 : ops[k]? with
    | none => rw [h0] at h; exact h.elim
    | some o =>
      rw [h0] at h
      simp only at h
      have ih : ∀ a C, wpHeadP P E md ops C0 Lq l (listed.setIfInBounds k true) a C → wpAnyP P E md ops C0 n (fun listed' a' C' => Region.seqB md ops g n listed' = true ∧ Lq a' C') l.length (listed.setIfInBounds k true) a C := fun a C hK =>
        wpAnyP_perm hsel hs hc hn l _ a C (inv.set hr' hkn) hB' hK
      have step : ∀ v, YieldsB P ops C0 o v a → wpHeadP P E md ops C0 Lq l (listed.setIfInBounds k true) (a.put o.dst v) C → wpAnyP P E md ops C0 n (fun listed' a' C' => Region.seqB md ops g n listed' = true ∧ Lq a' C') (k :: l).length listed a C := fun v hy hK =>
        wpAnyP_first h0 (Region.noSelect_spec hsel) hs hc hn hkn (fun listed' a' C' hL => seqB_ready hL.1) l.length listed a C inv (Region.free_spec h0 hf) hr' hy (ih _ _ hK)
      unfold headP at h
      by_cases hw : Region.wanted o (yielded ops a.tmps) = true
      · rw [if_pos hw] at h
        rcases h with ⟨v, h1, h2⟩ | ⟨hsole, hm⟩
        · exact step v (.inl ⟨hw, h1⟩) h2
        · refine ⟨fun h => (by rw [h] at hr'; cases hr'), fun j hj => ?_⟩
          have hjk : j = k := Nat.eq_of_beq_eq_true (List.all_eq_true.1 hsole j hj)
          subst hjk
          refine ⟨hkn, ?_⟩
          unfold pOp
          simp only [h0, hw, if_true]
          obtain ⟨X, V, M, m1, m2, m3, m4⟩ := hm
          exact .inr ⟨X, V, M, m1, m2, m3, fun x => ih _ _ (m4 x)⟩
      · rw [if_neg hw] at h
        exact step undef (.inr ⟨by simpa using hw, rfl⟩) h
/-- slots that no operation of the region writes -/
def offB (ops : Array Oper) (ρ : Env) : Bool := ops.all fun o => match o.dst with
  | none => true
  | some d => (ρ.find d).isNone
theorem Fits.off {N : Nat} {D : List Deferred} {ρ : Env} (h : offB ops ρ = true) (i : Nat) (o : Oper) (a : Act) (v : Value) (hi : ops[i]? = some o) (hf : Fits N D a ρ) : Fits N D (a.put o.dst v) ρ := by
  have h1 := (Array.all_eq_true'.1 h) o (Array.mem_of_getElem? hi)
  cases hd : o.dst with
  | none => exact hf
  | some d =>
    rw [hd] at h1
    simp only at h1
    refine ⟨by simp [Act.put, hf.size], hf.defs, fun n u hu => ?_⟩
    have hne : d ≠ n := fun e => by subst e; rw [hu] at h1; cases h1
    have := hf.get n u hu
    rw [← this]
    simp only [Act.put, Array.getD_eq_getD_getElem?, Array.getElem?_setIfInBounds, hne, if_false]
theorem wp_region_perm {id : Nat} {Q : Exit → Act → World → Prop} {a : Act} {w : World} {l : List Oper} (C0 C : Cl) (A : Act → Prop) (n : Nat) (perm : List Nat) (hm : P.follows .mixedOrders = true) (hB : permTailB .any l.toArray n perm = true)
    (hA : ∀ (i : Nat) (o : Oper) (a : Act) (v : Value), l.toArray[i]? = some o → A a → A (a.put o.dst v)) (hE : ∀ a ch w, A a → E ch w → Q (.panic ch) a w) (ha : A a)
    (hcl : C.Closed) (hCC : ∀ W, C W → C0 W) (hC : C w.drew)
    (h : wpHeadP P E .any l.toArray C0 (fun a' C' => ∀ w', C' w' → wpList P l.toArray Q (l.drop n) a' w') perm (Array.replicate l.length false) a C) : (Code.region id l.toArray true).wp P Q a w := by
  simp only [permTailB, Bool.and_eq_true] at hB
  obtain ⟨⟨⟨⟨⟨hsel, hn⟩, hs⟩, hc⟩, hpl⟩, hperm⟩ := hB
  have hn : n < l.toArray.size := blt_lt hn
  have hpl := Nat.eq_of_beq_eq_true hpl
  have hn' : n < l.length := by simpa using hn
  have hdl : (l.drop n).length = l.toArray.size - n := by simp
  have inv0 : HeadInv .any l.toArray n (Array.replicate l.toArray.size false) :=
    ⟨by simp, fun j oj _ hl => (by rw [getD_replicate_false] at hl; cases hl), fun t _ ht => getD_in (by simpa using ht) (getD_replicate_false _ _)⟩
  have hsz : l.toArray.size = l.length := by simp
  have H := wpAnyP_perm (md := .any) (g := l.toArray.size - n) hsel hs hc hn perm _ a C inv0 hperm (by rw [hsz]; exact h)
  refine wp_region_any hm ?_
  have := wpAny_of_P (Q' := Q) (g := l.toArray.size - n) hA hE (fun listed a' w' C' hw' hL => by
    have := wpAny_of_seq (md := .any) (Q' := Q) (l.drop n) n listed a' w' (fun j => by simp [List.getElem?_drop]) (by rw [hdl]; exact hL.1) (hL.2 w' hw')
    rwa [hdl] at this) _ _ _ _ C ha hcl hCC hC H
  rw [hpl, hsz, show n + (l.length - n) = l.length by omega] at this
  exact this
end

/-! ## the logic's rules -/
structure WP (P : Program) (K : Cx) (E : List PanicEntry → World → Prop) (ops : Array Oper) (L : Act → Cl → Prop) (m0 : List HP) (l : List Nat) (listed : Array Bool) (ρ : Env) (m : List HP) : Prop where
  run : ∀ a, Fits K.N K.D a ρ → wpHeadP P E .any ops (Holds K.w0 K.F m0) L l listed a (Holds K.w0 K.F m)
/-- out by a panic: of the slots only these are known -/
def PanE (K : Cx) (ρp : Env) (Q : Exit → Act → World → Prop) (ch : List PanicEntry) (w : World) : Prop := ∀ a, Fits K.N K.D a ρp → Q (.panic ch) a w

section rules
variable {P : Program} {K : Cx} {ρ ρp : Env} {m m0 m' r : List HP} {ty t : TypeId} {pos : String} {aft : Array Edge} {g : Option (Nat × Bool)} {v : Value} {x y : Operand} {ops : Array Oper} {Q : Exit → Act → World → Prop} {rest : List Nat} {tl : List Oper} {d : Nat} {op : Op} {L : Act → Cl → Prop}
  {e : TypeId} {sz n c bytes : Nat} {zs xs : List Value} {k : Nat} {listed : Array Bool} {p : Option Addr} {E : List PanicEntry → World → Prop} {G : Rd}

/-- m0: what no operation of the region turns; n operations in the order perm, the others behind them; ρp: slots that the region leaves, known where it panics -/
theorem CW_perm (n : Nat) (perm : List Nat) (m0 : List HP) (ρp : Env) (hρ : Cov ρ ρp) {pm : List HP} (he : Ent m (pm ++ m0)) {id : Nat} {l : List Oper} (hM : P.follows .mixedOrders = true) (hB : permTailB .any l.toArray n perm = true) (hO : offB l.toArray ρp = true)
    (h : WP P K (PanE K ρp Q) l.toArray (LT P l.toArray Q (l.drop n)) m0 perm (Array.replicate l.length false) ρ m) : CW P K Q (.region id l.toArray true) ρ m :=
  ⟨fun a _ hf hm => wp_region_perm (E := PanE K ρp Q) (Holds K.w0 K.F m0) (Holds K.w0 K.F m) (fun a => Fits K.N K.D a ρp) n perm hM hB (fun i o a v hi ha => Fits.off hO i o a v hi ha) (fun a _ch _w ha hq => hq a ha) (hf.cov hρ) (Holds.closed _ _ _) (fun _ hW => (hW.ent he).drop) hm.drew (h.run a hf)⟩
theorem WP_end (h : WL P K ops Q tl ρ m) : WP P K E ops (LT P ops Q tl) m0 [] listed ρ m := ⟨fun a hf w hw => h.run a w hf hw⟩
theorem WP_op (hk : ops[k]? = some ⟨some d, op, ty, pos, aft, g⟩) (hg : guardB ops g ρ = some true) (hn : (guardN K.N ops g && Nat.blt d K.N) = true) (h : Yi P K ρ m0 ⟨some d, op, ty, pos, aft, g⟩ v) (k' : WP P K E ops L m0 rest (listed.setIfInBounds k true) ((d, v) :: ρ) m) :
    WP P K E ops L m0 (k :: rest) listed ρ m := by
  refine ⟨fun a hf => ?_⟩
  simp only [Bool.and_eq_true] at hn
  unfold wpHeadP
  rw [hk]
  simp only
  unfold headP
  rw [if_pos (guard_wanted hf hg (guardN_spec hn.1))]
  refine .inl ⟨v, fun w hw => ?_, k'.run _ (hf.put (blt_lt hn.2) v)⟩
  unfold bAt
  rw [h.run a w hf hw]
  exact ⟨rfl, rfl⟩
theorem WP_no (hk : ops[k]? = some ⟨some d, op, ty, pos, aft, g⟩) (hg : guardB ops g ρ = some false) (hn : (guardN K.N ops g && Nat.blt d K.N) = true) (k' : WP P K E ops L m0 rest (listed.setIfInBounds k true) ((d, undef) :: ρ) m) :
    WP P K E ops L m0 (k :: rest) listed ρ m := by
  refine ⟨fun a hf => ?_⟩
  simp only [Bool.and_eq_true] at hn
  unfold wpHeadP
  rw [hk]
  simp only
  unfold headP
  rw [if_neg (by rw [guard_wanted hf hg (guardN_spec hn.1)]; simp)]
  exact k'.run _ (hf.put (blt_lt hn.2) undef)
/-- it reads what the region has turned -/
theorem WP_sole {pm : List HP} (hk : ops[k]? = some ⟨some d, op, ty, pos, aft, g⟩) (hso : soleB .any ops listed k = true) (he : Ent m (pm ++ m0)) (hg : guardB ops g ρ = some true) (hn : (guardN K.N ops g && Nat.blt d K.N) = true) (h : Yi P K ρ m ⟨some d, op, ty, pos, aft, g⟩ v) (k' : WP P K E ops L m0 rest (listed.setIfInBounds k true) ((d, v) :: ρ) m) :
    WP P K E ops L m0 (k :: rest) listed ρ m := by
  refine ⟨fun a hf => ?_⟩
  simp only [Bool.and_eq_true] at hn
  unfold wpHeadP
  rw [hk]
  simp only
  unfold headP
  rw [if_pos (guard_wanted hf hg (guardN_spec hn.1))]
  refine .inr ⟨hso, Unit, fun _ => v, fun _ => Holds K.w0 K.F m, fun _ => Holds.closed _ _ _, fun _ W hW => (hW.ent he).drop, fun W hW => ?_, fun _ => k'.run _ (hf.put (blt_lt hn.2) v)⟩
  rw [h.run a W hf hW]
  exact ⟨(), rfl, hW⟩
/-- a call whose value is known, and that turns nothing -/
theorem WP_callV {f : FuncId} [S : FnT P f] {xs : List Operand} {ats : Array TypeId} {vs : List Value} (hk : ops[k]? = some ⟨some d, .call ⟨.value (.func f), xs.toArray, ats⟩, ty, pos, aft, g⟩) (hx : opvs ρ xs = some vs)
    (hg : guardB ops g ρ = some true) (hn : (guardN K.N ops g && Nat.blt d K.N) = true) (hc : ∀ w, Holds K.w0 K.F m0 w → Calls P f vs.toArray w fun e w' => e = .returned v ∧ Below w.heap.size w w')
    (k' : WP P K E ops L m0 rest (listed.setIfInBounds k true) ((d, v) :: ρ) m) : WP P K E ops L m0 (k :: rest) listed ρ m := by
  refine ⟨fun a hf => ?_⟩
  simp only [Bool.and_eq_true] at hn
  unfold wpHeadP
  rw [hk]
  simp only
  unfold headP
  rw [if_pos (guard_wanted hf hg (guardN_spec hn.1))]
  refine .inl ⟨v, fun w hw => ?_, k'.run _ (hf.put (blt_lt hn.2) v)⟩
  unfold bAt
  rw [run_enter hf hx]
  exact ⟨rfl, hc w hw⟩
theorem WP_bslice [S : ElT P t e sz zs bytes] {pm : List HP} {len : Nat} {parts : List (Nat × Operand)} {pvs : List (Nat × Value)} {cs : List Value} (hk : ops[k]? = some ⟨some d, .buildSlice t len parts.toArray, ty, pos, aft, g⟩) (he : Ent m (pm ++ m0)) (hso : soleB .any ops listed k = true) (hx : partsV ρ parts = some pvs) (hl : Nat.beq pvs.length len = true) (hc : bsl sz 0 pvs = some cs) (hs : Nat.ble (len * sz) 16777216 = true) (h0 : Nat.blt 0 len = true)
    (hg : guardB ops g ρ = some true) (hn : (guardN K.N ops g && Nat.blt d K.N) = true) (k' : ∀ b, WP P K E ops L m0 rest (listed.setIfInBounds k true) ((d, .slice (some ⟨b, 0, none⟩) len len) :: ρ) (blk b e cs.toArray :: m)) :
    WP P K E ops L m0 (k :: rest) listed ρ m := by
  refine ⟨fun a hf => ?_⟩
  simp only [Bool.and_eq_true] at hn
  unfold wpHeadP
  rw [hk]
  simp only
  unfold headP
  rw [if_pos (guard_wanted hf hg (guardN_spec hn.1))]
  refine .inr ⟨hso, Nat, fun b => .slice (some ⟨b, 0, none⟩) len len, fun b => Holds K.w0 K.F (blk b e cs.toArray :: m), fun x => Holds.closed _ _ _, fun x W hW => ((Holds.drop (m1 := [blk x e cs.toArray]) hW).ent he).drop, fun W hW => ?_, fun x => (k' x).run _ (hf.put (blt_lt hn.2) _)⟩
  rw [run_bslice hx hl hc hs h0 hf]
  exact ⟨W.heap.size, rfl, hW.new e cs.toArray⟩
theorem WP_append [S : ElT P t e sz zs bytes] {pm : List HP} {p' : Option Addr} {b n' c' : Nat} {cs : Array Value} {m1 : List HP} (hk : ops[k]? = some ⟨some d, .call ⟨.builtin .append, #[x, y], #[t, t]⟩, ty, pos, aft, g⟩) (hso : soleB .any ops listed k = true) (hx : opv ρ x = some (.slice p n c)) (hy : opv ρ y = some (.slice p' n' c')) (he : p' = some ⟨b, 0, none⟩)
    (hp : Pick m (sl e sz p n c xs) m1) (hp2 : Pick m1 (blk b e cs) r) (hr : Ent r (pm ++ m0)) (hl : cs.size = n' * sz) (h1' : cs.toList.all Value.oneCell' = true) (hmax : (n + n') * bytes ≤ 140737488355328) (hmax2 : n + n' ≤ 140737488355328)
    (hg : guardB ops g ρ = some true) (hn : (guardN K.N ops g && Nat.blt d K.N) = true) (k' : ∀ q c'', WP P K E ops L m0 rest (listed.setIfInBounds k true) ((d, .slice q (n + n') c'') :: ρ) (sl e sz q (n + n') c'' (xs ++ cs.toList) :: r)) :
    WP P K E ops L m0 (k :: rest) listed ρ m := by
  refine ⟨fun a hf => ?_⟩
  simp only [Bool.and_eq_true] at hn
  unfold wpHeadP
  rw [hk]
  simp only
  unfold headP
  rw [if_pos (guard_wanted hf hg (guardN_spec hn.1))]
  refine .inr ⟨hso, Option Addr × Nat, fun z => .slice z.1 (n + n') z.2, fun z => Holds K.w0 K.F (sl e sz z.1 (n + n') z.2 (xs ++ cs.toList) :: r), fun x => Holds.closed _ _ _, fun z W hW => ((Holds.drop (m1 := [sl e sz z.1 (n + n') z.2 (xs ++ cs.toList)]) hW).ent hr).drop, fun w hm => ?_, fun z => (k' z.1 z.2).run _ (hf.put (blt_lt hn.2) _)⟩
  obtain ⟨i, z, hi, hz, hsz, hby, hzs⟩ := S.info
  have h1 : ∀ u ∈ cs.toList, u.oneCell' = true := fun u hu => (List.all_eq_true.1 h1') u hu
  have hown := hm.slR hp
  obtain ⟨fp, ⟨hfp, _⟩, _, hsp⟩ := hm.split hp
  have hb : w.heap[b]? = some (.cells cs e (0, 0)) := by
    have h2 := hsp [] w ⟨Keep.refl _ _, [], rfl, by simp⟩
    exact h2.blk hp2
  subst he
  have hnews : ∀ (j : Nat) u, cs.toList[j]? = some u → w.cell? ((⟨b, 0, none⟩ : Addr).add j) = some u := fun j u hu => by
    have ha : (⟨b, 0, none⟩ : Addr).add j = ⟨b, j, none⟩ := by unfold Addr.add; split <;> simp [*]
    rw [ha]; simp only [World.cell?, hb]; simpa using hu
  have hzl : z.cells.size = sz := by rw [hzs]; simp [S.len]
  obtain ⟨v', w', hr, h2, h3, _⟩ := run_append_own (P := P) w 0 t ty e i z sz bytes S.und hi hz hsz hby hzl S.pos (.slice p n c) n xs hown ⟨b, 0, none⟩ n' c' cs.toList (by simpa using hl) hnews h1 (by unfold maxLen; omega) hmax (Nat.zero_le _)
  have hwh := append_where (P := P) w S.und hi hz hsz hby hzl S.pos (.slice p n c) n xs hown ⟨b, 0, none⟩ n' c' cs.toList (by simpa using hl) hnews h1 (by unfold maxLen; omega) hmax hr
  obtain ⟨q, c'', rfl⟩ : ∃ q c'', v' = .slice q (n + n') c'' := by
    rcases h2.2 with ⟨hv, h0⟩ | ⟨g, cap, cur, hv, _⟩
    · rw [h0]; exact ⟨_, _, hv⟩
    · exact ⟨_, _, hv⟩
  rw [run_bi hf hx hy hr]
  refine ⟨(q, c''), rfl, ?_⟩
  have hH : Holds w fp [sl e sz q (n + n') c'' (xs ++ cs.toList)] w' := by
    refine ⟨keep_grown h3 (fun i hi => by rw [hfp]; exact (ownBlock_blkOf p n c i).2 hi), blkOf q, ⟨blkOf q, [], by simp, ⟨rfl, h2⟩, rfl, by simp⟩, fun i hi hl => ?_⟩
    have h5 := (ownBlock_blkOf q (n + n') c'' i).1 hi
    rw [hfp]
    rcases hwh i h5 with h | h
    · exact (ownBlock_blkOf p n c i).2 h
    · omega
  exact (hsp _ w' hH).ent (Ent.sub (r2 := r) hp2)
theorem WP_store {pm : List HP} {b i : Nat} {T : TypeId} {cs : Array Value} {zv : Value} [S : OneT P t zv] (hk : ops[k]? = some ⟨none, .store t x y, ty, pos, aft, g⟩) (hso : soleB .any ops listed k = true) (hx : opv ρ x = some (.pointer (some ⟨b, i, none⟩))) (hy : opv ρ y = some v) (h1 : v.oneCell' = true) (hp : Pick m (blk b T cs) r) (hr : Ent r (pm ++ m0)) (hi : Nat.blt i cs.toList.length = true)
    (hg : guardB ops g ρ = some true) (hn : guardN K.N ops g = true) (k' : WP P K E ops L m0 rest (listed.setIfInBounds k true) ρ (blk b T (cs.setIfInBounds i v) :: r)) :
    WP P K E ops L m0 (k :: rest) listed ρ m := by
  refine ⟨fun a hf => ?_⟩
  unfold wpHeadP
  rw [hk]
  simp only
  unfold headP
  rw [if_pos (guard_wanted hf hg (guardN_spec hn))]
  have hi := blt_lt hi
  refine .inr ⟨hso, Unit, fun _ => undef, fun _ => Holds K.w0 K.F (blk b T (cs.setIfInBounds i v) :: r), fun _ => Holds.closed _ _ _, fun _ W hW => ((Holds.drop (m1 := [blk b T (cs.setIfInBounds i v)]) hW).ent hr).drop, fun w hm => ?_, fun _ => k'.run _ (hf.put_none _)⟩
  have hb := hm.blk hp
  have h2 := run_store1 (P := P) (t := t) (w := w) (a := ⟨b, i, none⟩) (v := v) (u := cs[i]'(by simpa using hi)) (S.size w) h1 (by simp [World.cell?, hb]) (by simp [World.frozen?, hb])
  have h3 : (execOp a.eval ⟨none, .store t x y, ty, pos, aft, g⟩).run P w = .ok .skip (w.setCell ⟨b, i, none⟩ v) := by
    simp only [execOp, hf.eval hx, hf.eval hy]
    simp [h2]
  rw [h3]
  exact ⟨rfl, (), hm.set hp i v⟩
/-- a call with some of the caller's things that grows what may be read; it may panic -/
theorem WP_callG {f : FuncId} [S : FnT P f] {xs : List Operand} {ats : Array TypeId} {vs : List Value} {m1 : List HP} (hk : ops[k]? = some ⟨some d, .call ⟨.value (.func f), xs.toArray, ats⟩, ty, pos, aft, g⟩) (e : Ent m (ro K.w0 K.F G :: (m1 ++ r))) (hso : soleB .any ops listed k = true) (hx : opvs ρ xs = some vs)
    (hg : guardB ops g ρ = some true) (hn : (guardN K.N ops g && Nat.blt d K.N) = true) {X Y : Type} {V : X → Value} {Gx : X → Rd} {M : X → List HP} {I : X → Prop} {C : Y → List PanicEntry} {Gy : Y → Rd} {MP : Y → List HP} {J : Y → Prop}
    (hc : ∀ w fp, Holds K.w0 K.F (ro K.w0 K.F G :: (m1 ++ r)) w → Own m1 fp w → Rd.sub G fp w → (∀ i ∈ fp, i < K.w0.heap.size → i ∈ K.F) → Calls P f vs.toArray w fun e w' => (∃ x, I x ∧ e = .returned (V x) ∧ Rd.grow w G (Gx x) ∧ Holds w fp (ro w fp (Gx x) :: M x) w') ∨ (∃ y, J y ∧ e = .panicked (C y) ∧ Rd.grow w G (Gy y) ∧ Holds w fp (ro w fp (Gy y) :: MP y) w'))
    (hr : ∀ x, I x → ∃ pm, Ent (ro K.w0 K.F (Gx x) :: (M x ++ r)) (pm ++ m0))
    (k' : ∀ x, I x → Rd.grow K.w0 G (Gx x) → WP P K (PanE K ρp Q) ops L m0 rest (listed.setIfInBounds k true) ((d, V x) :: ρ) (ro K.w0 K.F (Gx x) :: (M x ++ r)))
    (kp : ∀ y, J y → Rd.grow K.w0 G (Gy y) → EX K Q (.panic (C y)) ρp (ro K.w0 K.F (Gy y) :: (MP y ++ r))) :
    WP P K (PanE K ρp Q) ops L m0 (k :: rest) listed ρ m := by
  refine ⟨fun a hf => ?_⟩
  simp only [Bool.and_eq_true] at hn
  unfold wpHeadP
  rw [hk]
  simp only
  unfold headP
  rw [if_pos (guard_wanted hf hg (guardN_spec hn.1))]
  refine .inr ⟨hso, { x : X // I x ∧ Rd.grow K.w0 G (Gx x) }, fun x => V x.1, fun x => Holds K.w0 K.F (ro K.w0 K.F (Gx x.1) :: (M x.1 ++ r)), fun _ => Holds.closed _ _ _, fun x W hW => ?_, fun W hW => ?_, fun x => (k' x.1 x.2.1 x.2.2).run _ (hf.put (blt_lt hn.2) _)⟩
  · obtain ⟨pm, hpm⟩ := hr x.1 x.2.1
    exact (hW.ent hpm).drop
  rw [run_enter hf hx]
  have hm' := hW.ent e
  obtain ⟨fp, h1, h2, h3, hsp⟩ := hm'.callR
  refine (hc W fp hm' h1 h2 h3).mono fun e w' hr => ?_
  rcases hr with ⟨z, hz, rfl, hgr, hh⟩ | ⟨z, hz, rfl, hgr, hh⟩
  · exact .inl ⟨⟨z, hz, Rd.grow_up hm'.size hgr⟩, rfl, hsp _ _ _ hgr hh⟩
  · exact .inr ⟨C z, rfl, fun a' ha' => (kp z hz (Rd.grow_up hm'.size hgr)).run _ _ ha' (hsp _ _ _ hgr hh)⟩
end rules
end Go.Proofs.YtdnkapfcnapadaaGreatDoor

namespace Go.Proofs.YtdnkapfcnapadaaGreatDoor
open Go.RowKit

theorem ref_isDigit (b : UInt8) (w : World) : Calls Tryz.prog 140 #[.int .u8 (b.toNat : Int)] w fun e w' => e = .returned (.bool (isDigitB b)) ∧ Below w.heap.size w w' := by
  refine enter (args := [_]) (m := []) (F := []) Tryz.func140 rfl Tryz.ntmps140 (by simp) rfl ?_
  (repeat' (first|refine zza ?_|refine zc9 ?_|refine zzb fun w hw => ?_|refine zzh fun _ => ?_|refine zzi fun _ _ => ?_|refine zzj (fun _ => ?_) fun _ => ?_))
  all_goals (refine ⟨congrArg (fun b => Ending.returned (.bool b)) ?_, hw.below⟩; rw [Bool.eq_iff_iff]; simp [isDigitB]; try omega)
theorem ref_isLetter (b : UInt8) (w : World) : Calls Tryz.prog 110 #[.int .u8 (b.toNat : Int)] w fun e w' => e = .returned (.bool (isLetterB b)) ∧ Below w.heap.size w w' := by
  refine enter (args := [_]) (m := []) (F := []) Tryz.func110 rfl Tryz.ntmps110 (by simp) rfl ?_
  (repeat' (first|refine zza ?_|refine zc9 ?_|refine zzb fun w hw => ?_|refine zzh fun _ => ?_|refine zzi fun _ _ => ?_|refine zzj (fun _ => ?_) fun _ => ?_))
  all_goals (refine ⟨congrArg (fun b => Ending.returned (.bool b)) ?_, hw.below⟩; rw [Bool.eq_iff_iff]; simp [isLetterB]; try omega)
theorem ref_isPart (b : UInt8) (w : World) : Calls Tryz.prog 111 #[.int .u8 (b.toNat : Int)] w fun e w' => e = .returned (.bool (isPartB b)) ∧ Below w.heap.size w w' := by
  refine enter (args := [_]) (m := []) (F := []) Tryz.func111 rfl Tryz.ntmps111 (by simp) rfl ?_
  (repeat' (first|refine zza ?_|refine zc9 ?_|refine zzb fun w hw => ?_|refine zzh fun _ => ?_|refine zzi fun _ _ => ?_|refine zzj (fun _ => ?_) fun _ => ?_))
  (apply WL_callV; rfl; rfl; rfl; (intro W hW; exact ref_isLetter b W))
  cases hl : isLetterB b with
  | true =>
    (repeat' (first|refine zza ?_|refine zc9 ?_|refine zzb fun w hw => ?_|refine zzh fun _ => ?_|refine zzi fun _ _ => ?_|refine zzj (fun _ => ?_) fun _ => ?_))
    exact ⟨by simp [isPartB, hl], hw.below⟩
  | false =>
    (repeat' (first|refine zza ?_|refine zc9 ?_|refine zzb fun w hw => ?_|refine zzh fun _ => ?_|refine zzi fun _ _ => ?_|refine zzj (fun _ => ?_) fun _ => ?_))
    (apply WL_callV; rfl; rfl; rfl; (intro W hW; exact ref_isDigit b W))
    cases hd : isDigitB b with
    | true =>
      (repeat' (first|refine zza ?_|refine zc9 ?_|refine zzb fun w hw => ?_|refine zzh fun _ => ?_|refine zzi fun _ _ => ?_|refine zzj (fun _ => ?_) fun _ => ?_))
      exact ⟨by simp [isPartB, hl, hd], hw.below⟩
    | false =>
      (repeat' (first|refine zza ?_|refine zc9 ?_|refine zzb fun w hw => ?_|refine zzh fun _ => ?_|refine zzi fun _ _ => ?_|refine zzj (fun _ => ?_) fun _ => ?_))
      refine ⟨congrArg (fun b => Ending.returned (.bool b)) ?_, hw.below⟩; rw [Bool.eq_iff_iff]; simp [isPartB, hl, hd]; try omega

theorem ref_NameFault (s : List UInt8) (hl : s.length ≤ 4294967280) (w : World) : Calls Tryz.prog 68 #[.string ⟨s.toArray⟩] w fun e w' => e = .returned (.int .i64 (nameF s)) ∧ Below w.heap.size w w' := by
  by_cases h0 : s = []
  · subst h0
    refine enter (args := [_]) (m := []) (F := []) Tryz.func68 rfl Tryz.ntmps68 (by simp) rfl ?_
    (repeat' (first|refine zza ?_|refine zc9 ?_|refine zzb fun w hw => ?_|refine zzh fun _ => ?_|refine zzi fun _ _ => ?_|refine zzj (fun _ => ?_) fun _ => ?_))
    exact ⟨rfl, hw.below⟩
  have hpos : 0 < s.length := List.length_pos_iff.2 h0
  refine enter (args := [_]) (m := []) (F := []) Tryz.func68 rfl Tryz.ntmps68 (by simp) rfl ?_
  (repeat' (first|refine zza ?_|refine zc9 ?_|refine zzb fun w hw => ?_|refine zzh fun _ => ?_|refine zzi fun _ _ => ?_|refine zzj (fun _ => ?_) fun _ => ?_))
  (apply WL_callV; rfl; rfl; rfl; (intro W hW; exact ref_isLetter _ W))
  cases hL : isLetterB (s.getD 0 0) with
  | false =>
    (repeat' (first|refine zza ?_|refine zc9 ?_|refine zzb fun w hw => ?_|refine zzh fun _ => ?_|refine zzi fun _ _ => ?_|refine zzj (fun _ => ?_) fun _ => ?_))
    exact ⟨by unfold nameF; rw [if_pos (.inr (by rw [hL]; simp))], hw.below⟩
  | true =>
    have hn : nameF s = if s.all isPartB = false then 1 else if 12 < s.length then 7 else 0 := by unfold nameF; rw [if_neg (fun h => h.elim h0 fun k => k hL)]
    (repeat' (first|refine zza ?_|refine zc9 ?_|refine zzb fun w hw => ?_|refine zzh fun _ => ?_|refine zzi fun _ _ => ?_|refine zzj (fun _ => ?_) fun _ => ?_))
    refine CW_loopP [(0,_)] zcov (fun x : Nat => [(3, .int .i64 x)]) (fun x => x ≤ s.length ∧ s.all isPartB = (s.drop x).all isPartB) (fun x => s.length - x) 0 ⟨Nat.zero_le _, rfl⟩ zcov ?_
    rintro k ⟨hk, hz⟩
    by_cases hlt : k < s.length
    · rw [drop_cons (get_some hlt 0), List.all_cons] at hz
      (repeat' (first|refine zza ?_|refine zc9 ?_|refine zzb fun w hw => ?_|refine zzh fun _ => ?_|refine zzi fun _ _ => ?_|refine zzj (fun _ => ?_) fun _ => ?_))
      (apply WL_callV; rfl; rfl; rfl; (intro W hW; exact ref_isPart _ W))
      cases hp : isPartB (s.getD k 0) with
      | false =>
        rw [hp] at hz
        (repeat' (first|refine zza ?_|refine zc9 ?_|refine zzb fun w hw => ?_|refine zzh fun _ => ?_|refine zzi fun _ _ => ?_|refine zzj (fun _ => ?_) fun _ => ?_))
        exact ⟨by rw [hn, if_pos (by simpa using hz)], hw.below⟩
      | true =>
        rw [hp, Bool.true_and] at hz
        (repeat' (first|refine zza ?_|refine zc9 ?_|refine zzb fun w hw => ?_|refine zzh fun _ => ?_|refine zzi fun _ _ => ?_|refine zzj (fun _ => ?_) fun _ => ?_))
        (refine EX_loop' (k + 1) ?_; (repeat' (first | exact Cov.nil | exact Ent.refl | (apply And.intro) | (apply Cov.cons; rfl) | exact Ent.nil | refine zn1 ?_ | trivial | rfl | assumption | omega | (congr 1; omega))))
    · have hkl : k = s.length := by omega
      subst hkl
      rw [List.drop_length, List.all_nil] at hz
      rw [if_neg (by rw [hz]; simp)] at hn
      by_cases hb : 12 < s.length
      · rw [if_pos hb] at hn
        (repeat' (first|refine zza ?_|refine zc9 ?_|refine zzb fun w hw => ?_|refine zzh fun _ => ?_|refine zzi fun _ _ => ?_|refine zzj (fun _ => ?_) fun _ => ?_))
        exact ⟨by rw [hn], hw.below⟩
      · rw [if_neg hb] at hn
        (repeat' (first|refine zza ?_|refine zc9 ?_|refine zzb fun w hw => ?_|refine zzh fun _ => ?_|refine zzi fun _ _ => ?_|refine zzj (fun _ => ?_) fun _ => ?_))
        exact ⟨by rw [hn], hw.below⟩

end Go.Proofs.YtdnkapfcnapadaaGreatDoor

namespace Go.Proofs.YtdnkapfcnapadaaGreatDoor
open Go.RowKit

theorem write_ok {us : List Bnd} (h : spaceF us = 0) : writeF us = (0, bodyB us ++ le4 (sumF (bodyB us))) := by unfold writeF; rw [if_neg (fun hh => hh h)]
theorem write_bad {us : List Bnd} (h : ¬ spaceF us = 0) : writeF us = (spaceF us, []) := by unfold writeF; rw [if_pos h]
theorem write_nil : writeF [] = (0, [0, 141, 239, 2, 210]) := by
  have e : bodyB [] = [0] := by unfold bodyB; rw [List.length_nil, cntB_small (by decide)]; rfl
  rw [write_ok (by decide), e]
  have : le4 (sumF [0]) = [141, 239, 2, 210] := by decide +kernel
  rw [this]
  rfl
theorem sum_fact : ((sumF [49, 50, 51, 52, 53, 54, 55, 56, 57]).toNat : Int) = 3421780262 := by decide +kernel

set_option maxHeartbeats 4000000 in
set_option maxRecDepth 100000 in
theorem law_saved (w : World) (hG : GlobA w) : Calls Tryz.prog 9 #[] w fun e w' => e = .returned (.bool true) ∧ Below w.heap.size w w' := by
  refine enterR (G := w.cell?) (args := []) (m := []) (Rd.sub_cell w) rfl Tryz.func9 rfl Tryz.ntmps9 (by simp) ?_
  (repeat' (first|refine zza ?_|refine zc9 ?_|refine zzb fun w hw => ?_|refine zzh fun _ => ?_|refine zzi fun _ _ => ?_|refine zzj (fun _ => ?_) fun _ => ?_))
  (apply WL_callV; rfl; rfl; rfl; (intro W hW; exact save_Write none 0 [] W (Row.nil _ _ _) (by simp) (hG.below hW.below)))
  rw [List.map_nil, write_nil]
  dsimp only
  (repeat' (first|refine zza ?_|refine zc9 ?_|refine zzb fun w hw => ?_|refine zzh fun _ => ?_|refine zzi fun _ _ => ?_|refine zzj (fun _ => ?_) fun _ => ?_))
  all_goals (first | ((apply WL_callV; rfl; rfl; rfl; (intro W hW; exact save_Sum [49, 50, 51, 52, 53, 54, 55, 56, 57] W (by decide))); rw [sum_fact]; (repeat' (first|refine zza ?_|refine zc9 ?_|refine zzb fun w hw => ?_|refine zzh fun _ => ?_|refine zzi fun _ _ => ?_|refine zzj (fun _ => ?_) fun _ => ?_)); exact ⟨rfl, hw.below⟩) | (rename_i h; exact absurd (by decide) h))
theorem bindG_of {w : World} {B : Nat} {b : BindM} (h : BindS w B b) (hB : B ≤ 1048576) : BindG w.cell? b := ⟨by have := h.1; omega, h.2.1.row, h.2.2.row, h.2.1.each, h.2.2.each⟩
end Go.Proofs.YtdnkapfcnapadaaGreatDoor

namespace Go.Proofs.YtdnkapfcnapadaaGreatDoor
open Go.RowKit

/-! ## the plain laws -/
theorem loadF_le4 (body : List UInt8) (s : BitVec 32) : loadF (body ++ le4 s) = (if le4 (sumF body) ≠ le4 s then (6, []) else match bodyP body with
    | none => (1, [])
    | some ws => (0, ws) : Int × List Bnd) := loadF_app body _ _ _ _
theorem load_written {us : List Bnd} (h : spaceF us = 0) (hn : ∀ b ∈ us, ∀ n ∈ b.data, I64 n) : loadF (bodyB us ++ le4 (sumF (bodyB us))) = (0, us) := by
  rw [loadF_le4, if_neg (fun h => h rfl), body_enc h hn]
theorem load_ok {l : List UInt8} {us : List Bnd} (h : loadF l = (0, us)) : l = bodyB us ++ le4 (sumF (bodyB us)) ∧ spaceF us = 0 := by
  unfold loadF at h
  split at h
  · cases h
  · split at h
    · cases h
    · rename_i h1
      cases hb : bodyP (l.take (l.length - 4)) with
      | none => rw [hb] at h; cases h
      | some ws =>
        rw [hb] at h
        simp only [Prod.mk.injEq, true_and] at h
        subst h
        obtain ⟨e1, e2, _⟩ := body_dec hb
        refine ⟨?_, e2⟩
        have h2 : le4 (sumF (l.take (l.length - 4))) = l.drop (l.length - 4) := Decidable.of_not_not h1
        rw [← e1, h2, List.take_append_drop]
/-- an answer that is an error -/
def BadF (l : List UInt8) : Prop := ∃ x, loadF l = (x, []) ∧ x ≠ 0
theorem bad_of {l : List UInt8} (h : 4 ≤ l.length → bodyP (l.take (l.length - 4)) = none) : BadF l := by
  unfold BadF loadF
  by_cases h4 : l.length < 4
  · exact ⟨4, by rw [if_pos h4], by decide⟩
  · rw [if_neg h4]
    by_cases hs : le4 (sumF (l.take (l.length - 4))) ≠ l.drop (l.length - 4)
    · exact ⟨6, by rw [if_pos hs], by decide⟩
    · rw [if_neg hs, h (by omega)]
      exact ⟨1, rfl, by decide⟩
theorem load_less {us : List Bnd} (h : spaceF us = 0) (hn : ∀ b ∈ us, ∀ n ∈ b.data, I64 n) {n : Nat} (hlt : n < (bodyB us ++ le4 (sumF (bodyB us))).length) : BadF ((bodyB us ++ le4 (sumF (bodyB us))).take n) := by
  have hl : (bodyB us ++ le4 (sumF (bodyB us))).length = (bodyB us).length + 4 := by simp [le4]
  generalize le4 (sumF (bodyB us)) = t at hlt hl ⊢
  refine bad_of fun h4 => ?_
  rw [List.length_take] at h4 ⊢
  have e : min n (bodyB us ++ t).length = n := Nat.min_eq_left (by omega)
  rw [e] at h4 ⊢
  rw [List.take_take, Nat.min_eq_left (by omega), List.take_append_of_le_length (by omega)]
  exact body_less h hn (t := (bodyB us).drop (n - 4)) (List.take_append_drop _ _).symm (fun hd => by
    have := congrArg List.length hd
    rw [List.length_drop, List.length_nil] at this
    omega)
theorem load_more {us : List Bnd} (h : spaceF us = 0) (hn : ∀ b ∈ us, ∀ n ∈ b.data, I64 n) {more : List UInt8} (hm : more ≠ []) : BadF (bodyB us ++ le4 (sumF (bodyB us)) ++ more) := by
  have hml : 0 < more.length := List.length_pos_iff.2 hm
  have hl : (le4 (sumF (bodyB us))).length = 4 := rfl
  generalize le4 (sumF (bodyB us)) = t at hl ⊢
  refine bad_of fun h4 => ?_
  have e : (bodyB us ++ t ++ more).length - 4 = (bodyB us).length + more.length := by simp [hl]; omega
  rw [e, List.append_assoc, List.take_length_add_append]
  exact body_more h hn (fun hd => by
    have := congrArg List.length hd
    rw [List.length_take, List.length_append, List.length_nil] at this
    omega)
/-! ## the walks -/
theorem read_N (l : List UInt8) (hl : l.length ≤ 1099511627776) (w : World) (hG : GlobA w) : Calls Tryz.prog 16 #[.string ⟨l.toArray⟩] w fun e w' => ∃ x : Option Addr × Nat × List BindM, e = .returned (.tuple #[.slice x.1 x.2.2.length x.2.1, errV 25 (loadF l).1]) ∧ Below w.heap.size w w' ∧ (x.2.2.map BindM.bnd = (loadF l).2 ∧ Row bindE 4 w'.cell? x.1 x.2.1 x.2.2 ∧ ∀ b ∈ x.2.2, BindG w'.cell? b) :=
  (save_Read l w hl hG).mono fun _ _ ⟨p, c, ws, h1, h2, h3, h4, h5⟩ => ⟨(p, c, ws), h2, h5, h1, h3, h4⟩
theorem read_any (l : List UInt8) {x : Int} (h : loadF l = (x, [])) (hx : x ≠ 0) (hl : l.length ≤ 1099511627776) (w : World) (hG : GlobA w) : Calls Tryz.prog 16 #[.string ⟨l.toArray⟩] w fun e w' => ∃ z : Option Addr × Nat, True ∧ e = .returned (.tuple #[.slice z.1 0 z.2, .iface 25 (.int .i64 x)]) ∧ Holds w [] [] w' :=
  (save_Read l w hl hG).mono fun _ _ ⟨p, c, ws, h1, h2, h3, h4, h5⟩ => ⟨(p, c), trivial, by
    rw [h] at h1 h2
    have : ws = [] := by simpa using h1
    subst this
    rw [h2, errV_ne hx]; rfl, Holds.nil w [] |>.grow h5⟩
end Go.Proofs.YtdnkapfcnapadaaGreatDoor

namespace Go.Proofs.YtdnkapfcnapadaaGreatDoor
open Go.RowKit

theorem rd_rowS {K : Cx} {m r : List HP} {G : Rd} {α : Type} {enc : α → List Value} {sz c i off : Nat} {p : Option Addr} {xs : List α} {u : α} (cs : List Value) (hR : Row enc sz G p c xs) (hp : Pick m (ro K.w0 K.F G) r) (hu : xs[i]? = some u) (hc : ∀ j v, cs[j]? = some v → (enc u)[off + j]? = some v) : RdC K m ((addrAt p (i * sz)).add off) cs :=
  rd_G hp fun j v hj => by
    rw [Go.Deep.add_add]
    exact hR.cell i u hu (off + j) v (hc j v hj)
set_option maxRecDepth 100000 in
theorem same_Array (ch : Bool) (s d s' d' : SlV Int) (w : World) (hs : Row encI 1 w.cell? s.p s.c s.xs) (hd : Row encI 1 w.cell? d.p d.c d.xs) (hs' : Row encI 1 w.cell? s'.p s'.c s'.xs) (hd' : Row encI 1 w.cell? d'.p d'.c d'.xs) (e1 : s'.xs = s.xs) (e2 : d'.xs = d.xs) :
    Calls Tryz.prog 45 #[.agg #[.bool ch, .slice s.p s.xs.length s.c, .slice d.p d.xs.length d.c], .agg #[.bool ch, .slice s'.p s'.xs.length s'.c, .slice d'.p d'.xs.length d'.c]] w fun e w' => e = .returned (.bool true) ∧ Below w.heap.size w w' := by
  rw [e1] at hs'
  rw [e2] at hd'
  rw [e1, e2]
  have hnn : ¬ ch ≠ ch := fun h => h rfl
  refine enterR (G := w.cell?) (args := [_, _]) (m := []) (Rd.sub_cell w) rfl Tryz.func45 rfl Tryz.ntmps45 (by simp) ?_
  (repeat' (first|refine zza ?_|refine zc9 ?_|refine zzb fun w hw => ?_|refine zzh fun _ => ?_|refine zzi fun _ _ => ?_|refine zzj (fun _ => ?_) fun _ => ?_))
  (apply WL_callV; rfl; rfl; rfl; (intro W hW; exact same_Ints s.p s'.p s.c s'.c s.xs.length s.xs rfl W (hs.mono (hW.le (.there (.there .here)))) (hs'.mono (hW.le (.there (.there .here))))))
  (repeat' (first|refine zza ?_|refine zc9 ?_|refine zzb fun w hw => ?_|refine zzh fun _ => ?_|refine zzi fun _ _ => ?_|refine zzj (fun _ => ?_) fun _ => ?_))
  (apply WL_callV; rfl; rfl; rfl; (intro W hW; exact same_Ints d.p d'.p d.c d'.c d.xs.length d.xs rfl W (hd.mono (hW.le (.there (.there .here)))) (hd'.mono (hW.le (.there (.there .here))))))
  (repeat' (first|refine zza ?_|refine zc9 ?_|refine zzb fun w hw => ?_|refine zzh fun _ => ?_|refine zzi fun _ _ => ?_|refine zzj (fun _ => ?_) fun _ => ?_))
  exact ⟨rfl, hw.below⟩
theorem bnd_eq {x y : BindM} (h : x.bnd = y.bnd) : x.name = y.name ∧ x.char = y.char ∧ x.shape.xs = y.shape.xs ∧ x.data.xs = y.data.xs := by
  unfold BindM.bnd at h
  simp only [Bnd.mk.injEq] at h
  exact h
set_option maxRecDepth 100000 in
theorem same_Space (p q : Option Addr) (c c2 : Nat) (xs ys : List BindM) (n : Nat) (hn : xs.length = n) (w : World) (hx : Row bindE 4 w.cell? p c xs) (hy : Row bindE 4 w.cell? q c2 ys) (hX : ∀ b ∈ xs, BindG w.cell? b) (hY : ∀ b ∈ ys, BindG w.cell? b) (he : xs.map BindM.bnd = ys.map BindM.bnd) :
    Calls Tryz.prog 17 #[.slice p xs.length c, .slice q n c2] w fun e w' => e = .returned (.bool true) ∧ Below w.heap.size w w' := by
  subst hn
  have hlen := hx.len
  have hl : xs.length = ys.length := by have := congrArg List.length he; simpa using this
  refine enterR (G := w.cell?) (args := [_, _]) (m := []) (Rd.sub_cell w) rfl Tryz.func17 rfl Tryz.ntmps17 (by simp) ?_
  (repeat' (first|refine zza ?_|refine zc9 ?_|refine zzb fun w hw => ?_|refine zzh fun _ => ?_|refine zzi fun _ _ => ?_|refine zzj (fun _ => ?_) fun _ => ?_))
  refine CW_loopK [(0,_),(1,_)] zcov (fun x : Nat => [(5, .int .i64 x)]) (fun _ => [ro w [] w.cell?]) (fun x => x ≤ xs.length) (fun x => xs.length - x) 0 (Nat.zero_le _) zcov zent ?_
  rintro k hk
  by_cases hlt : k < xs.length
  · obtain ⟨u, hu⟩ : ∃ u, xs[k]? = some u := ⟨xs[k], by simp [hlt]⟩
    have hlt2 : k < ys.length := by omega
    obtain ⟨v, hv⟩ : ∃ v, ys[k]? = some v := ⟨ys[k], by simp [hlt2]⟩
    have hq : u.bnd = v.bnd := by
      have := congrArg (fun l : List Bnd => l[k]?) he
      simp only [List.getElem?_map, hu, hv] at this
      simpa using this
    obtain ⟨q1, q2, q3, q4⟩ := bnd_eq hq
    have hbu := hX u (List.mem_of_getElem? hu)
    have hbv := hY v (List.mem_of_getElem? hv)
    (repeat' (first|refine zza ?_|refine zc9 ?_|refine zzb fun w hw => ?_|refine zzh fun _ => ?_|refine zzi fun _ _ => ?_|refine zzj (fun _ => ?_) fun _ => ?_))
    refine WQ_op rfl rfl (y_loadA (zs := [.bool false, .slice none 0 0, .slice none 0 0]) rfl (rd_rowS (off := 1) [.bool u.char, .slice u.shape.p u.shape.xs.length u.shape.c, .slice u.data.p u.data.xs.length u.data.c] hx zpk hu (fun j x h => by rw [Nat.add_comm]; exact h)) rfl) ?_
    (repeat' (first|refine zza ?_|refine zc9 ?_|refine zzb fun w hw => ?_|refine zzh fun _ => ?_|refine zzi fun _ _ => ?_|refine zzj (fun _ => ?_) fun _ => ?_))
    refine WQ_op rfl rfl (y_loadA (zs := [.bool false, .slice none 0 0, .slice none 0 0]) rfl (rd_rowS (off := 1) [.bool v.char, .slice v.shape.p v.shape.xs.length v.shape.c, .slice v.data.p v.data.xs.length v.data.c] hy zpk hv (fun j x h => by rw [Nat.add_comm]; exact h)) rfl) ?_
    rw [← q2]
    (apply WQ_callV; rfl; rfl; rfl; (intro W hW; exact same_Array u.char u.shape u.data v.shape v.data W (hbu.shape.mono (hW.le .here)) (hbu.data.mono (hW.le .here)) (hbv.shape.mono (hW.le .here)) (hbv.data.mono (hW.le .here)) q3.symm q4.symm))
    have hnn : ¬ u.name ≠ v.name := fun h => h q1
    (repeat' (first|refine zza ?_|refine zc9 ?_|refine zzb fun w hw => ?_|refine zzh fun _ => ?_|refine zzi fun _ _ => ?_|refine zzj (fun _ => ?_) fun _ => ?_))
    exact EX_loop' (k + 1) ⟨zcov, zent, by omega, by omega⟩
  · have hkl : k = xs.length := by omega
    subst hkl
    (repeat' (first|refine zza ?_|refine zc9 ?_|refine zzb fun w hw => ?_|refine zzh fun _ => ?_|refine zzi fun _ _ => ?_|refine zzj (fun _ => ?_) fun _ => ?_))
    exact ⟨rfl, hw.below⟩
end Go.Proofs.YtdnkapfcnapadaaGreatDoor

namespace Go.Proofs.YtdnkapfcnapadaaGreatDoor
open Go.RowKit

theorem xor_two (x y : Nat) : (x ^^^ y) % 2 = (x + y) % 2 := by
  have h := Nat.xor_mod_two_pow (a := x) (b := y) (n := 1)
  rw [Nat.pow_one] at h
  rw [h]
  rcases Nat.mod_two_eq_zero_or_one x with hx | hx <;> rcases Nat.mod_two_eq_zero_or_one y with hy | hy <;> rw [hx, hy] <;> simp <;> omega
theorem xor_step (a b i : Nat) : (a ^^^ b) % 2 ^ (i + 1) = (a ^^^ b) % 2 ^ i + (if a / 2 ^ i % 2 ≠ b / 2 ^ i % 2 then 2 ^ i else 0) := by
  have h1 : (a ^^^ b) / 2 ^ i % 2 = (a / 2 ^ i + b / 2 ^ i) % 2 := by
    rw [← Nat.shiftRight_eq_div_pow, ← Nat.shiftRight_eq_div_pow, ← Nat.shiftRight_eq_div_pow, Nat.shiftRight_xor_distrib, xor_two]
  rw [Nat.mod_pow_succ, h1]
  by_cases h : a / 2 ^ i % 2 ≠ b / 2 ^ i % 2
  · rw [if_pos h, show (a / 2 ^ i + b / 2 ^ i) % 2 = 1 by omega, Nat.mul_one]
  · rw [if_neg h, show (a / 2 ^ i + b / 2 ^ i) % 2 = 0 by omega, Nat.mul_zero]
set_option maxRecDepth 100000 in
theorem ref_unlike (a b : Nat) (ha : a < 4294967296) (hb : b < 4294967296) (w : World) :
    Calls Tryz.prog 30 #[.int .i64 (a : Int), .int .i64 (b : Int)] w fun e w' => e = .returned (.int .i64 ((a ^^^ b : Nat) : Int)) ∧ Below w.heap.size w w' := by
  refine enter (args := [_, _]) (m := []) (F := []) Tryz.func30 rfl Tryz.ntmps30 (by simp) rfl ?_
  (repeat' (first|refine zza ?_|refine zc9 ?_|refine zzb fun w hw => ?_|refine zzh fun _ => ?_|refine zzi fun _ _ => ?_|refine zzj (fun _ => ?_) fun _ => ?_))
  refine CW_loopK [] zcov (fun i : Nat => [(0, .int .i64 ((a / 2 ^ i : Nat) : Int)), (1, .int .i64 ((b / 2 ^ i : Nat) : Int)), (5, .int .i64 (((a ^^^ b) % 2 ^ i : Nat) : Int)), (6, .int .i64 ((2 ^ i : Nat) : Int)), (7, .int .i64 (i : Int))]) (fun _ => []) (fun i => i ≤ 32) (fun i => 32 - i) 0 (Nat.zero_le _) (by rw [Nat.pow_zero, Nat.div_one, Nat.div_one, Nat.mod_one]; exact zcov) zent ?_
  intro i hi
  by_cases h32 : i < 32
  · have hst := xor_step a b i
    have ha2 : a / 2 ^ (i + 1) = a / 2 ^ i / 2 := by rw [Nat.pow_succ, Nat.div_div_eq_div_mul]
    have hb2 : b / 2 ^ (i + 1) = b / 2 ^ i / 2 := by rw [Nat.pow_succ, Nat.div_div_eq_div_mul]
    have hp2 : 2 ^ (i + 1) = 2 ^ i * 2 := Nat.pow_succ 2 i
    have hp : 2 ^ i ≤ 2 ^ 31 := Nat.pow_le_pow_right (by omega) (by omega)
    have hp0 : 0 < 2 ^ i := Nat.two_pow_pos i
    have hal : a / 2 ^ i ≤ a := Nat.div_le_self _ _
    have hbl : b / 2 ^ i ≤ b := Nat.div_le_self _ _
    have hol : (a ^^^ b) % 2 ^ i < 2 ^ i := Nat.mod_lt _ hp0
    generalize a / 2 ^ i = u at ha2 hal hst ⊢
    generalize b / 2 ^ i = v at hb2 hbl hst ⊢
    generalize (a ^^^ b) % 2 ^ i = o at hol hst ⊢
    generalize hq : 2 ^ i = q at hp hp0 hol hst hp2 ⊢
    by_cases hd : u % 2 ≠ v % 2
    · rw [if_pos hd] at hst
      (repeat' (first|refine zza ?_|refine zc9 ?_|refine zzb fun w hw => ?_|refine zzh fun _ => ?_|refine zzi fun _ _ => ?_|refine zzj (fun _ => ?_) fun _ => ?_))
      refine CW_seq ?_
      (repeat' (first|refine zza ?_|refine zc9 ?_|refine zzb fun w hw => ?_|refine zzh fun _ => ?_|refine zzi fun _ _ => ?_|refine zzj (fun _ => ?_) fun _ => ?_))
      refine EX_loop' (i + 1) ⟨?_, zent, by omega, by omega⟩
      rw [ha2, hb2, hst, hp2]
      exact zcov
    · rw [if_neg hd] at hst
      (repeat' (first|refine zza ?_|refine zc9 ?_|refine zzb fun w hw => ?_|refine zzh fun _ => ?_|refine zzi fun _ _ => ?_|refine zzj (fun _ => ?_) fun _ => ?_))
      refine CW_seq ?_
      (repeat' (first|refine zza ?_|refine zc9 ?_|refine zzb fun w hw => ?_|refine zzh fun _ => ?_|refine zzi fun _ _ => ?_|refine zzj (fun _ => ?_) fun _ => ?_))
      refine EX_loop' (i + 1) ⟨?_, zent, by omega, by omega⟩
      rw [ha2, hb2, hst, hp2]
      exact zcov
  · have : i = 32 := by omega
    subst this
    have hx : (a ^^^ b) % 2 ^ 32 = a ^^^ b := Nat.mod_eq_of_lt (Nat.xor_lt_two_pow (n := 32) (by omega) (by omega))
    rw [hx]
    (repeat' (first|refine zza ?_|refine zc9 ?_|refine zzb fun w hw => ?_|refine zzh fun _ => ?_|refine zzi fun _ _ => ?_|refine zzj (fun _ => ?_) fun _ => ?_))
    exact ⟨rfl, hw.below⟩
theorem crc_step (c : BitVec 32) (b : Nat) (hb : b < 256) : crcBit (c ^^^ BitVec.ofNat 32 b) = (if (c.toNat + b) % 2 = 1 then (c >>> 1) ^^^ 3988292384#32 else c >>> 1) ^^^ BitVec.ofNat 32 (b / 2) := by
  have h0 : (c ^^^ BitVec.ofNat 32 b).getLsbD 0 = decide ((c.toNat + b) % 2 = 1) := by
    rw [BitVec.getLsbD, Nat.testBit_zero, BitVec.toNat_xor, BitVec.toNat_ofNat, Nat.mod_eq_of_lt (by omega : b < 2 ^ 32), xor_two]
  have h1 : BitVec.ofNat 32 b >>> 1 = BitVec.ofNat 32 (b / 2) := by
    apply BitVec.eq_of_toNat_eq
    rw [BitVec.toNat_ushiftRight, BitVec.toNat_ofNat, BitVec.toNat_ofNat, Nat.shiftRight_eq_div_pow, Nat.mod_eq_of_lt (by omega), Nat.mod_eq_of_lt (by omega)]
  unfold crcBit
  rw [h0, BitVec.ushiftRight_xor_distrib, h1]
  by_cases h : (c.toNat + b) % 2 = 1
  · rw [decide_eq_true h, if_pos rfl, if_pos h, BitVec.xor_assoc, BitVec.xor_comm (BitVec.ofNat 32 (b / 2)), ← BitVec.xor_assoc]
  · rw [decide_eq_false h, if_neg (by simp), if_neg h]
set_option maxRecDepth 100000 in
theorem ref_Checked (l : List UInt8) (w : World) (hl : l.length ≤ 1099511627776) :
    Calls Tryz.prog 11 #[.string ⟨l.toArray⟩] w fun e w' => e = .returned (.int .i64 ((sumF l).toNat : Int)) ∧ Below w.heap.size w w' := by
  refine enter (args := [_]) (m := []) (F := []) Tryz.func11 rfl Tryz.ntmps11 (by simp) rfl ?_
  (repeat' (first|refine zza ?_|refine zc9 ?_|refine zzb fun w hw => ?_|refine zzh fun _ => ?_|refine zzi fun _ _ => ?_|refine zzj (fun _ => ?_) fun _ => ?_))
  refine CW_loopK [(0,_)] zcov (fun x : Nat => [(4, .int .i64 x), (3, .int .i64 ((crcF 4294967295#32 (l.take x)).toNat : Int))]) (fun _ => []) (fun x => x ≤ l.length) (fun x => l.length - x) 0 (Nat.zero_le _) zcov zent ?_
  intro k hk
  by_cases hlt : k < l.length
  · have hc := crcF_take (get_some hlt (0 : UInt8)) 4294967295#32
    generalize crcF 4294967295#32 (l.take k) = c at hc ⊢
    have hc32 := c.isLt
    have hb := (l.getD k 0).toNat_lt
    obtain ⟨B, hB⟩ : ∃ B, (l.getD k 0).toNat = B := ⟨_, rfl⟩
    rw [hB] at hb
    obtain ⟨F, hF⟩ : ∃ F, crcByte c (l.getD k 0) = F := ⟨_, rfl⟩
    have hF' : crcN 8 (c ^^^ BitVec.ofNat 32 B) = F := by rw [← hF, ← hB]; rfl
    rw [hF] at hc
    (repeat' (first|refine zza ?_|refine zc9 ?_|refine zzb fun w hw => ?_|refine zzh fun _ => ?_|refine zzi fun _ _ => ?_|refine zzj (fun _ => ?_) fun _ => ?_))
    rw [hB]
    clear hB hF
    refine CW_loopK [(0,_),(4,_)] zcov (fun x : Nat × BitVec 32 × Nat => [(6, .int .i64 (x.1 : Int)), (3, .int .i64 (x.2.1.toNat : Int)), (5, .int .i64 (x.2.2 : Int))]) (fun _ => []) (fun x => x.1 ≤ 8 ∧ crcN (8 - x.1) (x.2.1 ^^^ BitVec.ofNat 32 x.2.2) = F ∧ x.2.2 < 2 ^ (8 - x.1)) (fun x => 8 - x.1) (0, c, B) ⟨Nat.zero_le _, hF', by simpa using hb⟩ zcov zent ?_
    rintro ⟨r, d, v⟩ ⟨hr, hd, hv⟩
    dsimp only at hr hd hv ⊢
    have hd32 := d.isLt
    by_cases hr8 : r < 8
    · have hp : 2 ^ (8 - r) ≤ 2 ^ 8 := Nat.pow_le_pow_right (by omega) (by omega)
      have hst := crc_step d v (by omega)
      rw [show 8 - r = (8 - (r + 1)) + 1 by omega, crcN, hst] at hd
      have hv2 : v / 2 < 2 ^ (8 - (r + 1)) := by
        rw [show 8 - r = (8 - (r + 1)) + 1 by omega, Nat.pow_succ] at hv
        omega
      have hd2 : (d >>> 1).toNat = d.toNat / 2 := by rw [BitVec.toNat_ushiftRight, Nat.shiftRight_eq_div_pow]
      have hcast : (d.toNat : Int) / 2 = ((d.toNat / 2 : Nat) : Int) := by omega
      by_cases hbit : (d.toNat + v) % 2 = 1
      · rw [if_pos hbit] at hd
        have hx : (d >>> 1 ^^^ 3988292384#32).toNat = (d.toNat / 2) ^^^ 3988292384 := by rw [BitVec.toNat_xor, hd2]; rfl
        (repeat' (first|refine zza ?_|refine zc9 ?_|refine zzb fun w hw => ?_|refine zzh fun _ => ?_|refine zzi fun _ _ => ?_|refine zzj (fun _ => ?_) fun _ => ?_))
        rw [hcast]
        (apply WL_callV; rfl; rfl; rfl; (intro W hW; exact ref_unlike (d.toNat / 2) 3988292384 (by omega) (by decide) W))
        rw [← hx]
        (repeat' (first|refine zza ?_|refine zc9 ?_|refine zzb fun w hw => ?_|refine zzh fun _ => ?_|refine zzi fun _ _ => ?_|refine zzj (fun _ => ?_) fun _ => ?_))
        exact EX_loop' (r + 1, d >>> 1 ^^^ 3988292384#32, v / 2) ⟨zcov, zent, by dsimp only; omega, by dsimp only; omega, hd, hv2⟩
      · rw [if_neg hbit] at hd
        (repeat' (first|refine zza ?_|refine zc9 ?_|refine zzb fun w hw => ?_|refine zzh fun _ => ?_|refine zzi fun _ _ => ?_|refine zzj (fun _ => ?_) fun _ => ?_))
        rw [hcast, ← hd2]
        exact EX_loop' (r + 1, d >>> 1, v / 2) ⟨zcov, zent, by dsimp only; omega, by dsimp only; omega, hd, hv2⟩
    · have : r = 8 := by omega
      subst this
      have hv0 : v = 0 := by simpa using hv
      subst hv0
      have hdF : d = F := by rw [← hd]; show d = d ^^^ BitVec.ofNat 32 0; simp
      subst hdF
      (repeat' (first|refine zza ?_|refine zc9 ?_|refine zzb fun w hw => ?_|refine zzh fun _ => ?_|refine zzi fun _ _ => ?_|refine zzj (fun _ => ?_) fun _ => ?_))
      refine EX_loop' (k + 1) ⟨?_, zent, by omega, by omega⟩
      rw [hc]
      exact zcov
  · have hkl : k = l.length := by omega
    subst hkl
    rw [List.take_length]
    have h32 := (crcF 4294967295#32 l).isLt
    have hS : 4294967295 - (crcF 4294967295#32 l).toNat = (sumF l).toNat := by
      unfold sumF; rw [BitVec.toNat_not]
    have hS2 : (4294967295 : Int) - ((crcF 4294967295#32 l).toNat : Int) = ((sumF l).toNat : Int) := by rw [← hS]; omega
    (repeat' (first|refine zza ?_|refine zc9 ?_|refine zzb fun w hw => ?_|refine zzh fun _ => ?_|refine zzi fun _ _ => ?_|refine zzj (fun _ => ?_) fun _ => ?_))
    rw [hS2] at *
    exact ⟨rfl, hw.below⟩
end Go.Proofs.YtdnkapfcnapadaaGreatDoor

namespace Go.Proofs.YtdnkapfcnapadaaGreatDoor
open Go.RowKit

set_option maxHeartbeats 4000000 in
set_option maxRecDepth 100000 in
theorem ref_SpaceFault (p : Option Addr) (c : Nat) (ws : List BindM) (w : World) (hR : Row bindE 4 w.cell? p c ws) (hB : ∀ b ∈ ws, BindG w.cell? b) :
    Calls Tryz.prog 31 #[.slice p ws.length c] w fun e w' => e = .returned (.int .i64 (spaceF (ws.map BindM.bnd))) ∧ Below w.heap.size w w' := by
  have hlen := hR.len
  refine enterR (G := w.cell?) (args := [_]) (m := []) (Rd.sub_cell w) rfl Tryz.func31 rfl Tryz.ntmps31 (by simp) ?_
  by_cases h20 : (20 : Int) < (ws.length : Int)
  · have hs : spaceF (ws.map BindM.bnd) = 7 := by unfold spaceF; rw [if_pos (by simp; omega)]
    rw [hs]
    (repeat' (first|refine zza ?_|refine zc9 ?_|refine zzb fun w hw => ?_|refine zzh fun _ => ?_|refine zzi fun _ _ => ?_|refine zzj (fun _ => ?_) fun _ => ?_))
    exact ⟨rfl, hw.below⟩
  have hs : spaceF (ws.map BindM.bnd) = spaceG [] (ws.map BindM.bnd) := by unfold spaceF; rw [if_neg (by simp; omega)]
  rw [hs]
  clear hs
  obtain ⟨Z, hZ⟩ : ∃ Z, spaceG [] (ws.map BindM.bnd) = Z := ⟨_, rfl⟩
  rw [hZ]
  (repeat' (first|refine zza ?_|refine zc9 ?_|refine zzb fun w hw => ?_|refine zzh fun _ => ?_|refine zzi fun _ _ => ?_|refine zzj (fun _ => ?_) fun _ => ?_))
  refine CW_loopK [(0,_)] zcov (fun x : Nat => [(3, .int .i64 x)]) (fun _ => [ro w [] w.cell?]) (fun x => x ≤ ws.length ∧ spaceG ((ws.take x).map (·.name)) ((ws.drop x).map BindM.bnd) = Z) (fun x => ws.length - x) 0 ⟨Nat.zero_le _, hZ⟩ zcov zent ?_
  rintro k ⟨hk, hz⟩
  by_cases hlt : k < ws.length
  · obtain ⟨x, hx⟩ : ∃ x, ws[k]? = some x := ⟨ws[k], by simp [hlt]⟩
    rw [space_step hx] at hz
    have hb := hB x (List.mem_of_getElem? hx)
    clear hZ
    (repeat' (first|refine zza ?_|refine zc9 ?_|refine zzb fun w hw => ?_|refine zzh fun _ => ?_|refine zzi fun _ _ => ?_|refine zzj (fun _ => ?_) fun _ => ?_))
    (apply WL_callV; rfl; rfl; rfl; (intro W hW; exact ref_NameFault x.name hb.name W))
    by_cases hn : nameF x.name = 0
    · rw [if_neg (fun h => h hn)] at hz
      rw [hn]
      (repeat' (first|refine zza ?_|refine zc9 ?_|refine zzb fun w hw => ?_|refine zzh fun _ => ?_|refine zzi fun _ _ => ?_|refine zzj (fun _ => ?_) fun _ => ?_))
      refine CW_loopK [(0,_),(3,_)] zcov (fun j : Nat => [(5, .int .i64 j)]) (fun _ => [ro w [] w.cell?]) (fun j => j ≤ k ∧ ∀ y ∈ (ws.take j).map (·.name), y ≠ x.name) (fun j => k - j) 0 ⟨Nat.zero_le _, by simp⟩ zcov zent ?_
      rintro j ⟨hj, hno⟩
      by_cases hjk : j < k
      · obtain ⟨u, hu⟩ : ∃ u, ws[j]? = some u := ⟨ws[j], by simp⟩
        have htk : (ws.take (j + 1)).map (·.name) = (ws.take j).map (·.name) ++ [u.name] := by rw [List.take_add_one, hu]; simp
        by_cases he : u.name = x.name
        · have hmem : x.name ∈ (ws.take k).map (·.name) := by
            refine List.mem_map.2 ⟨u, ?_, he⟩
            exact List.mem_of_getElem? (i := j) (by rw [List.getElem?_take, if_pos hjk]; exact hu)
          rw [if_pos hmem] at hz
          subst hz
          (repeat' (first|refine zza ?_|refine zc9 ?_|refine zzb fun w hw => ?_|refine zzh fun _ => ?_|refine zzi fun _ _ => ?_|refine zzj (fun _ => ?_) fun _ => ?_))
          exact ⟨rfl, hw.below⟩
        · (repeat' (first|refine zza ?_|refine zc9 ?_|refine zzb fun w hw => ?_|refine zzh fun _ => ?_|refine zzi fun _ _ => ?_|refine zzj (fun _ => ?_) fun _ => ?_))
          refine EX_loop' (j + 1) ⟨zcov, zent, by omega, by omega, ?_⟩
          intro y hy
          rw [htk] at hy
          rcases List.mem_append.1 hy with h | h
          · exact hno y h
          · rw [List.mem_singleton.1 h]; exact he
      · have hjk' : j = k := by omega
        subst hjk'
        rw [if_neg (fun h => hno _ h rfl)] at hz
        (repeat' (first|refine zza ?_|refine zc9 ?_|refine zzb fun w hw => ?_|refine zzh fun _ => ?_|refine zzi fun _ _ => ?_|refine zzj (fun _ => ?_) fun _ => ?_))
        refine WL_op rfl rfl (y_loadA (zs := [.bool false, .slice none 0 0, .slice none 0 0]) rfl (rd_rowS (off := 1) [.bool x.char, .slice x.shape.p x.shape.xs.length x.shape.c, .slice x.data.p x.data.xs.length x.data.c] hR zpk hx (fun j x h => by rw [Nat.add_comm]; exact h)) rfl) ?_
        (apply WL_callV; rfl; rfl; rfl; (intro W hW; exact ref_Flaw x.char x.shape.p x.data.p x.shape.c x.data.c x.shape.xs x.data.xs W (ints_row (hb.shape.mono (hW.le .here)) hb.shapeR) (ints_row (hb.data.mono (hW.le .here)) hb.dataR)))
        by_cases hc : checkF x.char x.shape.xs x.data.xs = 0
        · rw [if_neg (fun h => h hc)] at hz
          rw [hc]
          (repeat' (first|refine zza ?_|refine zc9 ?_|refine zzb fun w hw => ?_|refine zzh fun _ => ?_|refine zzi fun _ _ => ?_|refine zzj (fun _ => ?_) fun _ => ?_))
          exact EX_loop' (j + 1) ⟨zcov, zent, by omega, by omega, hz⟩
        · rw [if_pos hc] at hz
          subst hz
          (repeat' (first|refine zza ?_|refine zc9 ?_|refine zzb fun w hw => ?_|refine zzh fun _ => ?_|refine zzi fun _ _ => ?_|refine zzj (fun _ => ?_) fun _ => ?_))
          exact ⟨rfl, hw.below⟩
    · rw [if_pos hn] at hz
      subst hz
      (repeat' (first|refine zza ?_|refine zc9 ?_|refine zzb fun w hw => ?_|refine zzh fun _ => ?_|refine zzi fun _ _ => ?_|refine zzj (fun _ => ?_) fun _ => ?_))
      exact ⟨rfl, hw.below⟩
  · have hkl : k = ws.length := by omega
    subst hkl
    rw [List.drop_length] at hz
    have hz0 : Z = 0 := hz.symm
    subst hz0
    (repeat' (first|refine zza ?_|refine zc9 ?_|refine zzb fun w hw => ?_|refine zzh fun _ => ?_|refine zzi fun _ _ => ?_|refine zzj (fun _ => ?_) fun _ => ?_))
    exact ⟨rfl, hw.below⟩
end Go.Proofs.YtdnkapfcnapadaaGreatDoor

namespace Go.Proofs.YtdnkapfcnapadaaGreatDoor
open Go.RowKit

set_option maxRecDepth 100000 in
theorem ref_Tail (s : BitVec 32) (w : World) : Calls Tryz.prog 33 #[.int .i64 (s.toNat : Int)] w fun e w' => e = .returned (.string ⟨(le4 s).toArray⟩) ∧ Below w.heap.size w w' := by
  have h32 := s.isLt
  have e0 : (s.toNat : Int) % 256 = ((UInt8.ofNat s.toNat).toNat : Int) := by rw [UInt8.toNat_ofNat']; omega
  have e1 : (s.toNat : Int) / 256 % 256 = ((UInt8.ofNat (s.toNat / 256)).toNat : Int) := by rw [UInt8.toNat_ofNat']; omega
  have e2 : (s.toNat : Int) / 65536 % 256 = ((UInt8.ofNat (s.toNat / 65536)).toNat : Int) := by rw [UInt8.toNat_ofNat']; omega
  have e3 : (s.toNat : Int) / 16777216 = ((UInt8.ofNat (s.toNat / 16777216)).toNat : Int) := by rw [UInt8.toNat_ofNat']; omega
  refine enter (args := [_]) (m := []) (F := []) Tryz.func33 rfl Tryz.ntmps33 (by simp) rfl ?_
  (repeat' (first|refine zza ?_|refine zc9 ?_|refine zzb fun w hw => ?_|refine zzh fun _ => ?_|refine zzi fun _ _ => ?_|refine zzj (fun _ => ?_) fun _ => ?_))
  rw [e0, e1, e2, e3]
  apply WL_op rfl rfl (y_fromBlk (le4 s) rfl zpk rfl (by rfl))
  (repeat' (first|refine zza ?_|refine zc9 ?_|refine zzb fun w hw => ?_|refine zzh fun _ => ?_|refine zzi fun _ _ => ?_|refine zzj (fun _ => ?_) fun _ => ?_))
  exact ⟨rfl, hw.below⟩
end Go.Proofs.YtdnkapfcnapadaaGreatDoor
