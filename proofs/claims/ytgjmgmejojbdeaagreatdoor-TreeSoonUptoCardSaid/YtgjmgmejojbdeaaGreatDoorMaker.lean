/-
  The logic of walks: a region that draws its order, of which the first operations yield one value whatever comes first, the last of these may make things, and the others come in one order: it may be walked in the order of the text. Of no program.
-/
import Derived.Test.YtgjmgmejojbdeaaGreatDoorStruct
import Derived.StillTail
namespace Go.Proofs.YtgjmgmejojbdeaaGreatDoor
open Go.RowKit

abbrev Cl := World → Prop
def Cl.Closed (C : Cl) : Prop := ∀ W W', C W → Below W.heap.size W W' → C W'

section
variable {P : Program} {ops : Array Oper} {md : Region.Mode}

/-- one value, and nothing that was there has turned -/
def bUpon (P : Program) (w : World) (v : Value) : Result Next → Prop
  | .ok (.value u) w' => w' = w ∧ u = v
  | .ok (.enter f args) w' => w' = w ∧ Calls P f args w (fun e w'' => e = .returned v ∧ Below w.heap.size w w'')
  | _ => False
def bAt (P : Program) (o : Oper) (a : Act) (w : World) (v : Value) : Prop := bUpon P w v ((execOp a.eval o).run P w)
def mUpon (P : Program) {X : Type} (V : X → Value) (M : X → Cl) : Result Next → Prop
  | .ok (.value u) w' => ∃ x, u = V x ∧ M x w'
  | .ok (.enter f args) w' => Calls P f args w' (fun e w'' => ∃ x, e = .returned (V x) ∧ M x w'')
  | _ => False
/-- it makes things: what is known behind it is M x -/
def bMake (P : Program) (o : Oper) (a : Act) (C : Cl) (K : Act → Cl → Prop) : Prop :=
  ∃ (X : Type) (V : X → Value) (M : X → Cl), (∀ x, (M x).Closed) ∧ (∀ x W, M x W → C W) ∧
    (∀ W, C W → mUpon P V M ((execOp a.eval o).run P W)) ∧ ∀ x, K (a.put o.dst (V x)) (M x)
def mOp (P : Program) (ops : Array Oper) (C : Cl) (i : Nat) (K : Act → Cl → Prop) (a : Act) : Prop :=
  match ops[i]? with
  | none => K a C
  | some o => if Region.wanted o (yielded ops a.tmps) then (∃ v, (∀ w, C w → bAt P o a w v) ∧ K (a.put o.dst v) C) ∨ bMake P o a C K else K (a.put o.dst undef) C
theorem mOp_mono {C : Cl} {i : Nat} {a : Act} {K K' : Act → Cl → Prop} (h : ∀ a C, K a C → K' a C) (hh : mOp P ops C i K a) : mOp P ops C i K' a := by
  unfold mOp at *
  split
  · exact h _ _ (by simpa [*] using hh)
  · rename_i o ho
    simp only [ho] at hh
    split
    · rename_i hw
      simp only [hw, if_true] at hh
      rcases hh with ⟨v, h1, h2⟩ | ⟨X, V, M, h1, h2, h3, h4⟩
      · exact .inl ⟨v, h1, h _ _ h2⟩
      · exact .inr ⟨X, V, M, h1, h2, h3, fun x => h _ _ (h4 x)⟩
    · rename_i hw; simp only [hw] at hh; exact h _ _ hh

def wpAnyM (P : Program) (md : Region.Mode) (ops : Array Oper) (n : Nat) (L : Array Bool → Act → Cl → Prop) : Nat → Array Bool → Act → Cl → Prop
  | 0, listed, a, C => L listed a C
  | f + 1, listed, a, C => Region.ready md ops listed ≠ [] ∧ ∀ i ∈ Region.ready md ops listed, i < n ∧ mOp P ops C i (fun a' C' => wpAnyM P md ops n L f (listed.setIfInBounds i true) a' C') a

theorem wpOp_of_mOp {C : Cl} {i : Nat} {a : Act} {K : Act → Cl → Prop} {K' : Act → World → Prop} {Q' : Exit → Act → World → Prop} {w : World} (hcl : C.Closed) (hC : C w) (h : ∀ a w' (C' : Cl), C'.Closed → C' w' → K a C' → K' a w') (hh : mOp P ops C i K a) : wpOp P ops Q' i K' a w := by
  unfold mOp at hh
  unfold wpOp
  split
  · rename_i ho; simp only [ho] at hh; exact h _ _ _ hcl hC hh
  · rename_i o ho
    simp only [ho] at hh
    split
    · rename_i hw
      simp only [hw, if_true] at hh
      refine .inl ?_
      rcases hh with ⟨v, h1, h2⟩ | ⟨X, V, M, h1, h2, h3, h4⟩
      · have h3 := h1 w hC
        unfold bAt at h3
        unfold Oper.wp
        generalize (execOp a.eval o).run P w = r at *
        cases r with
        | ok nx w' =>
          cases nx <;> simp only [bUpon] at h3 <;> simp only [Oper.upon]
          case value u =>
            obtain ⟨e1, e2⟩ := h3
            rw [e1, e2]
            exact h _ _ _ hcl hC h2
          case enter f args =>
            obtain ⟨e1, hc⟩ := h3
            rw [e1]
            exact hc.mono fun e w'' ⟨he, hw''⟩ => by subst he; exact h _ _ _ hcl (hcl _ _ hC hw'') h2
        | halt x w' => simp only [bUpon] at h3
      · have h5 := h3 w hC
        unfold Oper.wp
        generalize (execOp a.eval o).run P w = r at *
        cases r with
        | ok nx w' =>
          cases nx <;> simp only [mUpon] at h5 <;> simp only [Oper.upon]
          case value u =>
            obtain ⟨x, he, hm⟩ := h5
            rw [he]; exact h _ _ _ (h1 x) hm (h4 x)
          case enter f args =>
            exact h5.mono fun e w'' ⟨x, he, hm⟩ => by subst he; exact h _ _ _ (h1 x) hm (h4 x)
        | halt x w' => simp only [mUpon] at h5
    · rename_i hw; simp only [hw] at hh; exact h _ _ _ hcl hC hh

theorem wpAny_of_M {n g : Nat} {L : Array Bool → Act → Cl → Prop} {Q' : Exit → Act → World → Prop} (hL : ∀ listed a w (C : Cl), C w → L listed a C → wpAny P md ops Q' g listed a w) :
    ∀ (f : Nat) (listed : Array Bool) (a : Act) (w : World) (C : Cl), C.Closed → C w → wpAnyM P md ops n L f listed a C → wpAny P md ops Q' (f + g) listed a w
  | 0, listed, a, w, C, _, hw, h => by rw [Nat.zero_add]; exact hL _ _ _ _ hw h
  | f + 1, listed, a, w, C, hcl, hw, h => by
    rw [show f + 1 + g = (f + g) + 1 by omega]
    exact ⟨fun h0 => absurd h0 h.1, fun i hi => wpOp_of_mOp hcl hw (fun a' w' C' hc' hw' h' => wpAny_of_M hL f _ a' w' C' hc' hw' h') (h.2 i hi).2⟩

def YieldsB (P : Program) (ops : Array Oper) (C : Cl) (o : Oper) (v : Value) (a : Act) : Prop :=
  (Region.wanted o (yielded ops a.tmps) = true ∧ ∀ w, C w → bAt P o a w v) ∨ (Region.wanted o (yielded ops a.tmps) = false ∧ v = undef)
theorem YieldsB.mOp {C : Cl} {i : Nat} {o : Oper} {v : Value} {a : Act} (hi : ops[i]? = some o) (hy : YieldsB P ops C o v a) {K : Act → Cl → Prop} (h : K (a.put o.dst v) C) : mOp P ops C i K a := by
  unfold Go.Proofs.YtgjmgmejojbdeaaGreatDoor.mOp
  simp only [hi]
  rcases hy with ⟨hw, hv⟩ | ⟨hw, rfl⟩
  · simp only [hw, if_true]; exact .inl ⟨v, hv, h⟩
  · simp only [hw, Bool.false_eq_true, if_false]; exact h
theorem YieldsB.of_same {C : Cl} {o : Oper} {v : Value} {a a' : Act} (hy : YieldsB P ops C o v a) (he : execOp a'.eval o = execOp a.eval o)
    (hw : Region.wanted o (yielded ops a'.tmps) = Region.wanted o (yielded ops a.tmps)) : YieldsB P ops C o v a' := by
  unfold YieldsB bAt at *
  rw [he, hw]
  exact hy
theorem YieldsB.sub {C C' : Cl} {o : Oper} {v : Value} {a : Act} (hy : YieldsB P ops C o v a) (h : ∀ W, C' W → C W) : YieldsB P ops C' o v a := by
  rcases hy with ⟨h1, h2⟩ | h1
  · exact .inl ⟨h1, fun w hw => h2 w (h w hw)⟩
  · exact .inr h1
theorem mOp_put {C : Cl} {j : Nat} {oi oj : Oper} {v : Value} (hj : ops[j]? = some oj) (hap : oi.apart ops oj = true)
    (hsi : ∀ cs b, oi.op ≠ .select cs b) (hsj : ∀ cs b, oj.op ≠ .select cs b) {K : Act → Cl → Prop} {a : Act}
    (hy : YieldsB P ops C oi v a) (h : mOp P ops C j K (a.put oi.dst v)) :
    mOp P ops C j (fun a' C' => YieldsB P ops C' oi v a' ∧ K (a'.put oi.dst v) C') a := by
  obtain ⟨h1, h2, h3⟩ := Oper.apart_spec hap
  have keep : ∀ (a : Act), YieldsB P ops C oi v a → ∀ u, YieldsB P ops C oi v (a.put oj.dst u) := fun a hy u =>
    hy.of_same (execOp_put oi hsi a oj.dst u h3) (wanted_put oi a oj.dst u h3)
  unfold mOp at *
  simp only [hj] at *
  rw [wanted_put oj a oi.dst v h1] at h
  split
  · rename_i hw
    simp only [hw, if_true] at h
    rcases h with ⟨u, hu, hn⟩ | ⟨X, V, M, m1, m2, m3, m4⟩
    · refine .inl ⟨u, fun w hw' => ?_, keep a hy u, by rw [← Act.put_comm a v u h2]; exact hn⟩
      have := hu w hw'
      unfold bAt at *
      rwa [execOp_put oj hsj a oi.dst v h1] at this
    · refine .inr ⟨X, V, M, m1, m2, fun W hW => ?_, fun x => ⟨(keep a hy _).sub (m2 x), by rw [← Act.put_comm a v (V x) h2]; exact m4 x⟩⟩
      have := m3 W hW
      rwa [execOp_put oj hsj a oi.dst v h1] at this
  · rename_i hw
    simp only [hw] at h
    exact ⟨keep a hy _, by rw [← Act.put_comm a v undef h2]; exact h⟩

theorem wpAnyM_first {n i : Nat} {oi : Oper} {v : Value} {L : Array Bool → Act → Cl → Prop} (hi : ops[i]? = some oi) (hsel : ∀ (j : Nat) (o : Oper) cs b, ops[j]? = some o → o.op ≠ .select cs b)
    (hs : Region.sinkB md ops n = true) (hc : Region.chainB md ops n = true) (hn : n < ops.size) (hin : i < n)
    (hdone : ∀ listed a C, L listed a C → ∀ j ∈ Region.ready md ops listed, n ≤ j) :
    ∀ (f : Nat) (listed : Array Bool) (a : Act) (C : Cl), HeadInv md ops n listed →
      (∀ j oj, ops[j]? = some oj → j ≠ i → listed.getD j true = false → (∀ e ∈ oj.after, Region.binds md e = true → e.on ≠ i) → oi.apart ops oj = true) →
      i ∈ Region.ready md ops listed → YieldsB P ops C oi v a →
      wpAnyM P md ops n L f (listed.setIfInBounds i true) (a.put oi.dst v) C → wpAnyM P md ops n L (f + 1) listed a C := by
  intro f
  induction f with
  | zero =>
    intro listed a C inv _ hr hy H
    have hun := (mem_ready.1 hr).1
    refine ⟨fun h => (by rw [h] at hr; cases hr), fun j hj => ?_⟩
    have hjn : j < n := by
      rcases Nat.lt_or_ge j n with h | h
      · exact h
      · exact absurd hj (tail_waits hs hc hn inv _ i rfl hin hun j h)
    refine ⟨hjn, ?_⟩
    by_cases hji : j = i
    · subst hji; exact hy.mOp hi H
    · have := hdone _ _ _ H j (ready_mono hj hji)
      omega
  | succ f ih =>
    intro listed a C inv hfree hr hy H
    have hun := (mem_ready.1 hr).1
    refine ⟨fun h => (by rw [h] at hr; cases hr), fun j hj => ?_⟩
    have hjn : j < n := by
      rcases Nat.lt_or_ge j n with h | h
      · exact h
      · exact absurd hj (tail_waits hs hc hn inv _ i rfl hin hun j h)
    refine ⟨hjn, ?_⟩
    by_cases hji : j = i
    · subst hji; exact hy.mOp hi H
    · have h1 := (H.2 j (ready_mono hj hji)).2
      obtain ⟨hjun, oj, hoj, hall⟩ := mem_ready.1 hj
      have hnot : ∀ e ∈ oj.after, Region.binds md e = true → e.on ≠ i := fun e he hb heq => by
        have h1 := hall e he hb
        rw [heq, getD_both hun] at h1
        cases h1
      have h2 := mOp_put hoj (hfree j oj hoj hji hjun hnot) (fun cs b => hsel i oi cs b hi) (fun cs b => hsel j oj cs b hoj) hy h1
      have hfree' : ∀ k ok, ops[k]? = some ok → k ≠ i → (listed.setIfInBounds j true).getD k true = false →
          (∀ e ∈ ok.after, Region.binds md e = true → e.on ≠ i) → oi.apart ops ok = true := fun k ok hk hki hun hno => by
        refine hfree k ok hk hki ?_ hno
        by_cases hjk : j = k
        · subst hjk; exact hjun
        · rw [getD_set_ne true hjk] at hun; exact hun
      refine mOp_mono (fun a' C' h3 => ih (listed.setIfInBounds j true) a' C' (inv.set hj hjn) hfree' (ready_mono hr (Ne.symm hji)) h3.1 ?_) h2
      rw [Array.setIfInBounds_comm _ _ hji]
      exact h3.2

/-- the walk in the order of the text: the last of these operations may make things -/
def wpHead (P : Program) (ops : Array Oper) (L : Act → Cl → Prop) : List Oper → Act → Cl → Prop
  | [], a, C => L a C
  | o :: rest, a, C => if Region.wanted o (yielded ops a.tmps) then (∃ v, (∀ w, C w → bAt P o a w v) ∧ wpHead P ops L rest (a.put o.dst v) C) ∨ (rest = [] ∧ bMake P o a C L) else wpHead P ops L rest (a.put o.dst undef) C

theorem wpAnyM_lex {n g : Nat} {Lq : Act → Cl → Prop} (hsel : Region.noSelect ops = true) (hs : Region.sinkB md ops n = true) (hc : Region.chainB md ops n = true) (hn : n < ops.size) :
    ∀ (l : List Oper) (k : Nat) (listed : Array Bool) (a : Act) (C : Cl), (∀ j, j < l.length → l[j]? = ops[k + j]?) → k + l.length = n → HeadInv md ops n listed →
    Region.lexHead md ops g l.length k listed = true → wpHead P ops Lq l a C →
    wpAnyM P md ops n (fun listed' a' C' => Region.seqB md ops g n listed' = true ∧ Lq a' C') l.length listed a C
  | [], k, listed, a, C, _, hk, _, hB, h => by
    have : k = n := by simpa using hk
    subst this
    exact ⟨by simpa [Region.lexHead] using hB, h⟩
  | o :: l, k, listed, a, C, hl, hk, inv, hB, h => by
    have h0 : ops[k]? = some o := by simpa using (hl 0 (by simp)).symm
    simp only [List.length_cons, Region.lexHead, Bool.and_eq_true] at hB
    obtain ⟨⟨hr, hf⟩, hB'⟩ := hB
    have hkn : k < n := by simp only [List.length_cons] at hk; omega
    have hr' : k ∈ Region.ready md ops listed := by simpa using hr
    have step : ∀ v, YieldsB P ops C o v a → wpHead P ops Lq l (a.put o.dst v) C → wpAnyM P md ops n (fun listed' a' C' => Region.seqB md ops g n listed' = true ∧ Lq a' C') (o :: l).length listed a C := fun v hy hK =>
      wpAnyM_first h0 (Region.noSelect_spec hsel) hs hc hn hkn (fun listed' a' C' hL => seqB_ready hL.1) l.length listed a C inv (Region.free_spec h0 hf) hr' hy
        (wpAnyM_lex hsel hs hc hn l (k + 1) _ _ C (fun j hj => by have := hl (j + 1) (by simp; omega); simpa [Nat.add_assoc, Nat.add_comm 1 j] using this) (by simp only [List.length_cons] at hk; omega) (inv.set hr' hkn) hB' hK)
    unfold wpHead at h
    by_cases hw : Region.wanted o (yielded ops a.tmps) = true
    · rw [if_pos hw] at h
      rcases h with ⟨v, h1, h2⟩ | ⟨rfl, hm⟩
      · exact step v (.inl ⟨hw, h1⟩) h2
      · have hkn' : k + 1 = n := by simpa using hk
        have hsq : Region.seqB md ops g n (listed.setIfInBounds k true) = true := by
          simp only [List.length_nil, Region.lexHead] at hB'
          rw [← hkn']; exact hB'
        have hun := (mem_ready.1 hr').1
        refine ⟨fun h => (by rw [h] at hr'; cases hr'), fun j hj => ?_⟩
        have hjn : j < n := by
          rcases Nat.lt_or_ge j n with h | h
          · exact h
          · exact absurd hj (tail_waits hs hc hn inv _ k rfl hkn hun j h)
        refine ⟨hjn, ?_⟩
        by_cases hji : j = k
        · subst hji
          unfold mOp
          simp only [h0, hw, if_true]
          obtain ⟨X, V, M, m1, m2, m3, m4⟩ := hm
          exact .inr ⟨X, V, M, m1, m2, m3, fun x => ⟨hsq, m4 x⟩⟩
        · have := seqB_ready hsq j (ready_mono hj hji)
          omega
    · rw [if_neg hw] at h
      exact step undef (.inr ⟨by simpa using hw, rfl⟩) h

/-- the theorem -/
theorem wp_region_mk {id : Nat} {Q : Exit → Act → World → Prop} {a : Act} {w : World} {l : List Oper} (C : Cl) (n : Nat) (hm : P.follows .mixedOrders = true) (hB : Region.lexTailB .any l.toArray n = true)
    (hcl : C.Closed) (hC : C w.drew)
    (h : wpHead P l.toArray (fun a' C' => ∀ w', C' w' → wpList P l.toArray Q (l.drop n) a' w') (l.take n) a C) : (Code.region id l.toArray true).wp P Q a w := by
  simp only [Region.lexTailB, Bool.and_eq_true, decide_eq_true_eq] at hB
  obtain ⟨⟨⟨⟨hsel, hn⟩, hs⟩, hc⟩, hlex⟩ := hB
  have hn' : n < l.length := by simpa using hn
  have htl : (l.take n).length = n := by simp; omega
  have hdl : (l.drop n).length = l.toArray.size - n := by simp
  have inv0 : HeadInv .any l.toArray n (Array.replicate l.toArray.size false) :=
    ⟨by simp, fun j oj _ hl => (by rw [getD_replicate_false] at hl; cases hl), fun t _ ht => getD_in (by simpa using ht) (getD_replicate_false _ _)⟩
  have H := wpAnyM_lex (md := .any) (g := l.toArray.size - n) hsel hs hc hn (l.take n) 0 _ a C (fun j hj => by
    have hj' : j < n := by rw [htl] at hj; exact hj
    simp [hj']) (by simpa using htl) inv0 (by rw [htl]; exact hlex) h
  refine wp_region_any hm ?_
  have := wpAny_of_M (Q' := Q) (g := l.toArray.size - n) (fun listed a' w' C' hw' hL => by
    have := wpAny_of_seq (md := .any) (Q' := Q) (l.drop n) n listed a' w' (fun j => by simp [List.getElem?_drop]) (by rw [hdl]; exact hL.1) (hL.2 w' hw')
    rwa [hdl] at this) _ _ _ _ C hcl hC H
  rw [htl, show n + (l.toArray.size - n) = l.toArray.size by omega] at this
  exact this
end

/-! ## the logic's rules -/
def LT (P : Program) (ops : Array Oper) (Q : Exit → Act → World → Prop) (l : List Oper) : Act → Cl → Prop := fun a C => ∀ w, C w → wpList P ops Q l a w
structure WB (P : Program) (K : Cx) (ops : Array Oper) (L : Act → Cl → Prop) (l : List Oper) (ρ : Env) (m : List HP) : Prop where
  run : ∀ a, Fits K.N K.D a ρ → wpHead P ops L l a (Holds K.w0 K.F m)
theorem Holds.closed (w0 : World) (F : List Nat) (m : List HP) : Cl.Closed (Holds w0 F m) := fun _ _ h hb => h.grow hb
theorem Holds.drop {w0 w : World} {F : List Nat} {m1 m : List HP} (h : Holds w0 F (m1 ++ m) w) : Holds w0 F m w := by
  obtain ⟨fp, ho, hF⟩ := h.own
  have key : ∀ (m1 : List HP) (fp : List Nat), Own (m1 ++ m) fp w → ∃ fp', Own m fp' w ∧ ∀ i ∈ fp', i ∈ fp := by
    intro m1
    induction m1 with
    | nil => intro fp h; exact ⟨fp, h, fun _ h => h⟩
    | cons x m1 ih =>
      rintro fp ⟨f1, f2, rfl, h1, h2, hd⟩
      obtain ⟨fp', h3, h4⟩ := ih f2 h2
      exact ⟨fp', h3, fun i hi => List.mem_append.2 (.inr (h4 i hi))⟩
  obtain ⟨fp', h1, h2⟩ := key m1 fp ho
  exact ⟨h.keep, fp', h1, fun i hi => hF i (h2 i hi)⟩

section rules
variable {P : Program} {K : Cx} {ρ : Env} {m r : List HP} {dst : Option Nat} {ty t t' : TypeId} {pos : String} {aft : Array Edge} {g : Option (Nat × Bool)} {v : Value} {x y z : Operand} {ops : Array Oper} {Q : Exit → Act → World → Prop} {rest tl : List Oper} {d : Nat} {op : Op} {L : Act → Cl → Prop}
  {e : TypeId} {sz n c bytes : Nat} {zs xs : List Value}

theorem CW_mk (n : Nat) {id : Nat} {l : List Oper} (hM : P.follows .mixedOrders = true) (hB : Region.lexTailB .any l.toArray n = true) (h : WB P K l.toArray (LT P l.toArray Q (l.drop n)) (l.take n) ρ m) : CW P K Q (.region id l.toArray true) ρ m :=
  ⟨fun a _ hf hm => wp_region_mk (Holds K.w0 K.F m) n hM hB (Holds.closed _ _ _) hm.drew (h.run a hf)⟩
theorem WB_end (h : WL P K ops Q tl ρ m) : WB P K ops (LT P ops Q tl) [] ρ m := ⟨fun a hf w hw => h.run a w hf hw⟩
theorem WB_op (hg : guardB ops g ρ = some true) (hn : (guardN K.N ops g && Nat.blt d K.N) = true) (h : Yi P K ρ m ⟨some d, op, ty, pos, aft, g⟩ v) (k : WB P K ops L rest ((d, v) :: ρ) m) :
    WB P K ops L (⟨some d, op, ty, pos, aft, g⟩ :: rest) ρ m := by
  refine ⟨fun a hf => ?_⟩
  simp only [Bool.and_eq_true] at hn
  unfold wpHead
  rw [if_pos (guard_wanted hf hg (guardN_spec hn.1))]
  refine .inl ⟨v, fun w hw => ?_, k.run _ (hf.put (blt_lt hn.2) v)⟩
  unfold bAt
  rw [h.run a w hf hw]
  exact ⟨rfl, rfl⟩
theorem WB_no (hg : guardB ops g ρ = some false) (hn : (guardN K.N ops g && Nat.blt d K.N) = true) (k : WB P K ops L rest ((d, undef) :: ρ) m) :
    WB P K ops L (⟨some d, op, ty, pos, aft, g⟩ :: rest) ρ m := by
  refine ⟨fun a hf => ?_⟩
  simp only [Bool.and_eq_true] at hn
  unfold wpHead
  rw [if_neg (by rw [guard_wanted hf hg (guardN_spec hn.1)]; simp)]
  exact k.run _ (hf.put (blt_lt hn.2) undef)
theorem WB_callV {f : FuncId} [S : FnT P f] {xs : List Operand} {ats : Array TypeId} {vs : List Value} (hx : opvs ρ xs = some vs) (hg : guardB ops g ρ = some true)
    (hn : (guardN K.N ops g && Nat.blt d K.N) = true) (hc : ∀ w, Holds K.w0 K.F m w → Calls P f vs.toArray w fun e w' => e = .returned v ∧ Below w.heap.size w w')
    (k : WB P K ops L rest ((d, v) :: ρ) m) : WB P K ops L (⟨some d, .call ⟨.value (.func f), xs.toArray, ats⟩, ty, pos, aft, g⟩ :: rest) ρ m := by
  refine ⟨fun a hf => ?_⟩
  simp only [Bool.and_eq_true] at hn
  unfold wpHead
  rw [if_pos (guard_wanted hf hg (guardN_spec hn.1))]
  refine .inl ⟨v, fun w hw => ?_, k.run _ (hf.put (blt_lt hn.2) v)⟩
  unfold bAt
  rw [run_enter hf hx]
  exact ⟨rfl, hc w hw⟩
theorem WB_callX {f : FuncId} [S : FnT P f] {xs : List Operand} {ats : Array TypeId} {vs : List Value} (hx : opvs ρ xs = some vs) (hg : guardB ops g ρ = some true)
    (hn : (guardN K.N ops g && Nat.blt d K.N) = true) {X : Type} {V : X → Value} {M : X → List HP} {I : X → Prop}
    (hc : ∀ w, Holds K.w0 K.F m w → Calls P f vs.toArray w fun e w' => ∃ x, I x ∧ e = .returned (V x) ∧ Holds w [] (M x) w')
    (k : ∀ x, I x → WL P K ops Q tl ((d, V x) :: ρ) (M x ++ m)) : WB P K ops (LT P ops Q tl) [⟨some d, .call ⟨.value (.func f), xs.toArray, ats⟩, ty, pos, aft, g⟩] ρ m := by
  refine ⟨fun a hf => ?_⟩
  simp only [Bool.and_eq_true] at hn
  unfold wpHead
  rw [if_pos (guard_wanted hf hg (guardN_spec hn.1))]
  refine .inr ⟨rfl, {x : X // I x}, fun x => V x.1, fun x => Holds K.w0 K.F (M x.1 ++ m), fun x => Holds.closed _ _ _, fun x W hW => hW.drop, fun W hW => ?_, fun x w hw => (k x.1 x.2).run _ _ (hf.put (blt_lt hn.2) _) hw⟩
  rw [run_enter hf hx]
  exact (hc W hW).mono fun _ _ ⟨x, hx, he, hh⟩ => ⟨⟨x, hx⟩, he, hW.add hh⟩
theorem run_bslice [S : ElT P t e sz zs bytes] {len : Nat} {parts : List (Nat × Operand)} {pvs : List (Nat × Value)} {cs : List Value} (hx : partsV ρ parts = some pvs) (hl : Nat.beq pvs.length len = true) (hc : bsl sz 0 pvs = some cs) (hs : Nat.ble (len * sz) 16777216 = true) (h0 : Nat.blt 0 len = true)
    {a : Act} {w : World} (hf : Fits K.N K.D a ρ) : (execOp a.eval ⟨some d, .buildSlice t len parts.toArray, ty, pos, aft, g⟩).run P w = .ok (.value (.slice (some ⟨w.heap.size, 0, none⟩) len len)) (w.alloc (.cells cs.toArray e)) := by
  obtain ⟨i, z, hi, hz, hsz, hby, hzs⟩ := S.info
  have hl := Nat.eq_of_beq_eq_true hl
  have hs := Nat.le_of_ble_eq_true hs
  have h0 := Nat.le_of_ble_eq_true h0
  have hpv := partsV_eval hf hx
  have hne : ¬ len * sz = 0 := by have := Nat.mul_pos (show 0 < len by omega) S.pos; omega
  have hfl := fill_bsl (sz := sz) pvs 0 ((Array.range (len * sz)).map (z.cells[· % z.cells.size]!)) cs hc (by simp [hl])
  simp only [Nat.zero_mul, List.take_zero, List.nil_append] at hfl
  simp only [execOp, List.map_toArray, hpv, Instr.buildSlice]
  subst hsz
  simp [run_underlying S.und, sizeOf, typeInfo, hi, zeroValue, hz, newRow, go_sem]
  rw [if_neg (by omega), if_neg hne]
  unfold Value.cells at hfl
  rw [hfl]
  simp [go_sem]
theorem WB_bslice [S : ElT P t e sz zs bytes] {len : Nat} {parts : List (Nat × Operand)} {pvs : List (Nat × Value)} {cs : List Value} (hx : partsV ρ parts = some pvs) (hl : Nat.beq pvs.length len = true) (hc : bsl sz 0 pvs = some cs) (hs : Nat.ble (len * sz) 16777216 = true) (h0 : Nat.blt 0 len = true)
    (hg : guardB ops g ρ = some true) (hn : (guardN K.N ops g && Nat.blt d K.N) = true) (k : ∀ b, WL P K ops Q tl ((d, .slice (some ⟨b, 0, none⟩) len len) :: ρ) (blk b e cs.toArray :: m)) :
    WB P K ops (LT P ops Q tl) [⟨some d, .buildSlice t len parts.toArray, ty, pos, aft, g⟩] ρ m := by
  refine ⟨fun a hf => ?_⟩
  simp only [Bool.and_eq_true] at hn
  unfold wpHead
  rw [if_pos (guard_wanted hf hg (guardN_spec hn.1))]
  refine .inr ⟨rfl, Nat, fun b => .slice (some ⟨b, 0, none⟩) len len, fun b => Holds K.w0 K.F (blk b e cs.toArray :: m), fun x => Holds.closed _ _ _, fun x W hW => Holds.drop (m1 := [blk x e cs.toArray]) hW, fun W hW => ?_, fun x w hw => (k x).run _ _ (hf.put (blt_lt hn.2) _) hw⟩
  rw [run_bslice hx hl hc hs h0 hf]
  exact ⟨W.heap.size, rfl, hW.new e cs.toArray⟩
/-- not, of what is decided -/
theorem y_notD {p : Prop} [Decidable p] (hx : opv ρ x = some (.bool (decide p))) : Yi P K ρ m ⟨dst, .unOp .not t x, ty, pos, aft, g⟩ (.bool (decide (¬ p))) := by
  have := y_not (P := P) (K := K) (m := m) (dst := dst) (ty := ty) (t := t) (pos := pos) (aft := aft) (g := g) hx
  rwa [← decide_not] at this
/-- does it make or write memory? -/
def effOp : Op → Bool
  | .store .. | .buildSlice .. | .alloc .. | .box .. | .makeSlice .. | .insert .. | .mapUpdate .. | .entryStore .. | .makeMap .. | .defer .. => true
  | .call c => match c.callee with | .builtin .append => true | .builtin .copy => true | _ => false
  | _ => false
def effs (l : List Oper) : Bool := l.any fun o => effOp o.op
theorem CW_mkE (n : Nat) {id : Nat} {l : List Oper} (_ : effs l = true) (hM : P.follows .mixedOrders = true) (hB : Region.lexTailB .any l.toArray n = true) (h : WB P K l.toArray (LT P l.toArray Q (l.drop n)) (l.take n) ρ m) : CW P K Q (.region id l.toArray true) ρ m := CW_mk n hM hB h
theorem CW_quietE {id : Nat} {l : List Oper} (_ : effs l = false) (hM : P.follows .mixedOrders = true) (hB : Region.lexB .any l.toArray = true) (h : WQ P K l.toArray (fun a => ∀ w, Holds K.w0 K.F m w → Q .normal a w) l ρ m) : CW P K Q (.region id l.toArray true) ρ m := CW_quiet hM hB h
end rules
end Go.Proofs.YtgjmgmejojbdeaaGreatDoor
