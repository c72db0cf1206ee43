/-
  Code that is made of a tree is sound. Of no program.
  The law SoundLines.
-/
import Derived.Test.YtdmapiaejcnibaaDoorCodePlain
import Derived.Test.YtdmapiaejcnibaaDoorGo
import Derived.Test.YtdmapiaejcnibaaDoorCode8
import Derived.Test.YtdmapiaejcnibaaDoorLaidN
import Derived.Test.YtdmapiaejcnibaaDoorSound3
import Derived.Test.YtdmapiaejcnibaaDoorSoundRun
import Derived.Test.YtdmapiaejcnibaaDoorSameInts
namespace Go.Proofs.YtdmapiaejcnibaaDoor

/-- how many there are behind it -/
def dnext (x : Ins) (d : Int) : Int := if x.op = 11 then 0 else d - takesF x + laysF x
/-- how many there are at each place -/
def depI : Int → List Ins → List Int
  | _, [] => []
  | d, x :: r => d :: depI (dnext x d) r
def endI : Int → List Ins → Int
  | d, [] => d
  | d, x :: r => endI (dnext x d) r
def FitAt (x : Ins) (d : Int) : Prop := 0 ≤ d ∧ takesF x ≤ d ∧ 0 ≤ takesF x ∧ (x.op = 11 ∨ x.op = 9 → d = 1)
def fitI : Int → List Ins → Prop
  | _, [] => True
  | d, x :: r => FitAt x d ∧ fitI (dnext x d) r
theorem endI_app : ∀ (a b : List Ins) (d : Int), endI d (a ++ b) = endI (endI d a) b
  | [], _, _ => rfl
  | x :: a, b, d => endI_app a b (dnext x d)
theorem fitI_app : ∀ (a b : List Ins) (d : Int), fitI d a → fitI (endI d a) b → fitI d (a ++ b)
  | [], _, _, _, h => h
  | _ :: a, b, _, h, k => ⟨h.1, fitI_app a b _ h.2 k⟩
theorem depI_len : ∀ (c : List Ins) (d : Int), (depI d c).length = c.length
  | [], _ => rfl
  | _ :: c, _ => by simp [depI, depI_len c]
theorem depI_get : ∀ (c : List Ins) (d : Int) (i : Nat) (x : Ins), fitI d c → c[i]? = some x → ∃ k, (depI d c)[i]? = some k ∧ FitAt x k ∧ (i + 1 < c.length → (depI d c)[i + 1]? = some (dnext x k))
  | [], _, _, _, _, h => by simp at h
  | x :: c, d, 0, y, h, hx => by
    simp at hx
    subst hx
    refine ⟨d, rfl, h.1, fun hl => ?_⟩
    cases c with
    | nil => simp at hl
    | cons z c => rfl
  | x :: c, d, i + 1, y, h, hx => by
    obtain ⟨k, h1, h2, h3⟩ := depI_get c _ i y h.2 hx
    exact ⟨k, h1, h2, fun hl => h3 (by simp at hl; omega)⟩
theorem fitI_patch : ∀ (c : List Ins) (d : Int) (k : Nat) (t : Int), fitI d c → fitI d (patch c k t)
  | [], _, k, _, _ => by cases k <;> trivial
  | x :: c, d, 0, t, h => h
  | x :: c, d, k + 1, t, h => ⟨h.1, fitI_patch c _ k t h.2⟩
theorem endI_patch : ∀ (c : List Ins) (d : Int) (k : Nat) (t : Int), endI d (patch c k t) = endI d c
  | [], _, k, _ => by cases k <;> rfl
  | x :: c, d, 0, t => rfl
  | x :: c, d, k + 1, t => endI_patch c _ k t
theorem fit_leaf {n : Nod} {d : Nat} {s : Int} (h : n.op = 1 ∨ n.op = 2 ∨ n.op = 3 ∨ ((n.op = 4 ∨ n.op = 5) ∧ 0 < d)) (hs : 0 ≤ s) : fitI s [leafI n] ∧ endI s [leafI n] = s + 1 := by
  have ho : (leafI n).op = n.op := by
    unfold leafI
    split
    · rename_i h1; exact h1.symm
    split
    · rename_i h1; exact h1.symm
    split
    · rename_i h1; exact h1.symm
    · rfl
  have ht : takesF (leafI n) = 0 := by unfold takesF; rw [if_pos (by rw [ho]; omega)]
  have hl : laysF (leafI n) = 1 := by unfold laysF; rw [if_neg (by rw [ho]; omega)]
  refine ⟨⟨⟨hs, by omega, by omega, fun h => by omega⟩, trivial⟩, ?_⟩
  show dnext _ _ = _
  unfold dnext
  rw [if_neg (by omega), ht, hl]
  omega
theorem actI_fit {h : Int} {n : Nod} {g : Int} (hg : g = 1 ∨ g = 2) : takesF (actI h n g) = g ∧ (actI h n g).op ≠ 11 ∧ (actI h n g).op ≠ 9 := by
  unfold actI
  split
  · exact ⟨rfl, by simp [callI], by simp [callI]⟩
  split
  · exact ⟨rfl, by simp [callI], by simp [callI]⟩
  · rcases hg with rfl | rfl
    · exact ⟨rfl, by simp, by simp⟩
    · exact ⟨rfl, by simp, by simp⟩
theorem fit_act {h : Int} {n : Nod} {g s : Int} (hg : g = 1 ∨ g = 2) (hs : g ≤ s) : fitI s [actI h n g] ∧ endI s [actI h n g] = s - g + 1 := by
  obtain ⟨h1, h2, h3⟩ := actI_fit (h := h) (n := n) hg
  have hl : laysF (actI h n g) = 1 := by unfold laysF; rw [if_neg (by omega)]
  refine ⟨⟨⟨by omega, by omega, by omega, fun h => by omega⟩, trivial⟩, ?_⟩
  show dnext _ _ = _
  unfold dnext
  rw [if_neg h2, h1, hl]
mutual
theorem Ex.fit : ∀ (e : Ex) (h : Int) (d : Nat) (s : Int), e.ok d → 0 ≤ s → fitI s (e.code h) ∧ endI s (e.code h) = s + 1
  | .leaf n, h, d, s, hk, hs => fit_leaf hk.2 hs
  | .one n b r, h, d, s, hk, hs => by
    obtain ⟨_, _, h5⟩ := hk
    obtain ⟨i1, i2⟩ := Ex.fit r h d s h5 hs
    obtain ⟨j1, j2⟩ := fit_act (h := h) (n := n) (g := 1) (s := s + 1) (.inl rfl) (by omega)
    refine ⟨fitI_app _ _ _ i1 (by rw [i2]; exact j1), ?_⟩
    show endI s (r.code h ++ _) = _
    rw [endI_app, i2, j2]; omega
  | .two n l b r, h, d, s, hk, hs => by
    obtain ⟨_, h6, _, h5⟩ := hk
    obtain ⟨i1, i2⟩ := Ex.fit r h d s h5 hs
    obtain ⟨k1, k2⟩ := Ex.fit l h d (s + 1) h6 (by omega)
    obtain ⟨j1, j2⟩ := fit_act (h := h) (n := n) (g := 2) (s := s + 1 + 1) (.inr rfl) (by omega)
    refine ⟨fitI_app _ _ _ i1 (by rw [i2]; exact fitI_app _ _ _ k1 (by rw [k2]; exact j1)), ?_⟩
    show endI s (r.code h ++ _) = _
    rw [endI_app, i2, endI_app, k2, j2]; omega
  | .pick n o b, h, d, s, hk, hs => by
    obtain ⟨⟨h1, h2, h3⟩, h6, h4⟩ := hk
    have hn := right_n h1
    obtain ⟨i1, i2⟩ := Exs.fitR b h d s h4 hs
    obtain ⟨k1, k2⟩ := Ex.fit o h d (s + b.len) h6 (by omega)
    have ht : takesF (pickI n.n) = n.n + 1 := rfl
    refine ⟨fitI_app _ _ _ i1 (by rw [i2]; exact fitI_app _ _ _ k1 (by rw [k2]; exact ⟨⟨by omega, by omega, by omega, fun h => by simp [pickI] at h⟩, trivial⟩)), ?_⟩
    show endI s (b.codeR h ++ _) = _
    rw [endI_app, i2, endI_app, k2]
    show dnext (pickI n.n) (s + b.len + 1) = _
    unfold dnext
    rw [if_neg (by simp [pickI]), ht]
    show _ + (1 : Int) = _
    omega
theorem Exs.fitR : ∀ (b : Exs) (h : Int) (d : Nat) (s : Int), b.ok d → 0 ≤ s → fitI s (b.codeR h) ∧ endI s (b.codeR h) = s + b.len
  | .nil, _, _, s, _, _ => ⟨trivial, by show s = s + ((0 : Nat) : Int); omega⟩
  | .cons e r, h, d, s, hk, hs => by
    obtain ⟨i1, i2⟩ := Exs.fitR r h d s hk.2 hs
    obtain ⟨k1, k2⟩ := Ex.fit e h d (s + r.len) hk.1 (by omega)
    refine ⟨fitI_app _ _ _ i1 (by rw [i2]; exact k1), ?_⟩
    show endI s (r.codeR h ++ _) = _
    rw [endI_app, i2, k2]
    simp only [Exs.len]
    omega
end
theorem fit_ret : fitI 1 [retI] ∧ endI 1 [retI] = 0 := ⟨⟨⟨by omega, by show (1 : Int) ≤ 1; omega, by show (0 : Int) ≤ 1; omega, fun _ => rfl⟩, trivial⟩, rfl⟩
theorem Exs.fit_func : ∀ (b : Exs) (h : Int) (d o : Nat), b.ok d → b.len % 2 = 1 → fitI 0 (b.func h o) ∧ endI 0 (b.func h o) = 0
  | .nil, _, _, _, _, hl => by simp [Exs.len] at hl
  | .cons e .nil, h, d, o, hk, _ => by
    obtain ⟨i1, i2⟩ := Ex.fit e h d 0 hk.1 (by omega)
    refine ⟨fitI_app _ _ _ i1 (by rw [i2]; exact fit_ret.1), ?_⟩
    show endI 0 (e.code h ++ _) = _
    rw [endI_app, i2]; exact fit_ret.2
  | .cons c (.cons v r), h, d, o, hk, hl => by
    obtain ⟨i1, i2⟩ := Ex.fit c h d 0 hk.1 (by omega)
    obtain ⟨k1, k2⟩ := Ex.fit v h d 0 hk.2.1 (by omega)
    obtain ⟨r1, r2⟩ := Exs.fit_func r h d (o + (c.code 0).length + 1 + (v.code 0).length + 1) hk.2.2 (by simp only [Exs.len] at hl; omega)
    refine ⟨fitI_app _ _ _ i1 ?_, ?_⟩
    · rw [i2]
      refine ⟨⟨by omega, by show (1 : Int) ≤ _; omega, by show (0 : Int) ≤ 1; omega, fun _ => rfl⟩, ?_⟩
      show fitI 0 (v.code h ++ retI :: r.func h _)
      exact fitI_app _ _ _ k1 (by rw [k2]; exact ⟨fit_ret.1.1, r1⟩)
    · show endI 0 (c.code h ++ _) = _
      rw [endI_app, i2]
      show endI 0 (v.code h ++ _) = _
      rw [endI_app, k2]
      exact r2

/-! ## each instruction is formed -/
theorem leafI_formed {n : Nod} (h : rightN n = true) (ho : n.op = 1 ∨ n.op = 2 ∨ n.op = 3 ∨ n.op = 4 ∨ n.op = 5) : formedF (leafI n) = true ∧ (leafI n).op ≠ 11 := by
  unfold rightN at h
  simp only [Bool.and_eq_true] at h
  obtain ⟨⟨h1, h2⟩, _⟩ := h
  rcases ho with ho | ho | ho | ho | ho
  · have : leafI n = ⟨1, 0, 0, 0, 0, 0, n.nums, []⟩ := by unfold leafI; rw [if_pos ho]
    rw [this]
    simp [ho] at h1
    simp [formedF, h1]
  · have : leafI n = ⟨2, 0, 0, 0, 0, 0, [], n.text⟩ := by unfold leafI; rw [if_neg (by omega), if_pos ho]
    rw [this]
    rw [if_neg (by omega), if_pos ho] at h2
    simp [formedF, h2]
  · have : leafI n = ⟨3, 0, 0, 0, 0, 0, [], n.text⟩ := by unfold leafI; rw [if_neg (by omega), if_neg (by omega), if_pos ho]
    rw [this]
    rw [if_pos (.inl ho)] at h2
    simp [formedF, h2]
  · have : leafI n = ins0 4 := by unfold leafI; rw [if_neg (by omega), if_neg (by omega), if_neg (by omega), ho]
    rw [this]; exact ⟨rfl, by simp⟩
  · have : leafI n = ins0 5 := by unfold leafI; rw [if_neg (by omega), if_neg (by omega), if_neg (by omega), ho]
    rw [this]; exact ⟨rfl, by simp⟩
theorem actI_formed {h : Int} {n : Nod} {g : Int} (hg : g = 1 ∨ g = 2) : formedF (actI h n g) = true ∧ (actI h n g).op ≠ 11 := by
  refine ⟨?_, (actI_fit hg).2.1⟩
  unfold actI
  rcases hg with rfl | rfl <;> (split; · simp [formedF, callI]) <;> (split; · simp [formedF, callI]) <;> simp [formedF]
mutual
theorem Ex.formed : ∀ (e : Ex) (h : Int) (d : Nat), e.ok d → e.flat.length ≤ 2000 → ∀ x ∈ e.code h, formedF x = true ∧ x.op ≠ 11
  | .leaf n, h, d, hk, _, x, hx => by
    rw [List.mem_singleton.1 hx]
    exact leafI_formed hk.1 (by have := hk.2; omega)
  | .one n b r, h, d, hk, hl, x, hx => by
    obtain ⟨_, _, h5⟩ := hk
    simp only [Ex.flat, List.length_cons, List.length_append] at hl
    rcases List.mem_append.1 hx with hx | hx
    · exact Ex.formed r h d h5 (by omega) x hx
    · rw [List.mem_singleton.1 hx]; exact actI_formed (.inl rfl)
  | .two n l b r, h, d, hk, hl, x, hx => by
    obtain ⟨_, h6, _, h5⟩ := hk
    simp only [Ex.flat, List.length_cons, List.length_append] at hl
    rcases List.mem_append.1 hx with hx | hx
    · exact Ex.formed r h d h5 (by omega) x hx
    rcases List.mem_append.1 hx with hx | hx
    · exact Ex.formed l h d h6 (by omega) x hx
    · rw [List.mem_singleton.1 hx]; exact actI_formed (.inr rfl)
  | .pick n o b, h, d, hk, hl, x, hx => by
    obtain ⟨⟨h1, h2, h3⟩, h6, h4⟩ := hk
    simp only [Ex.flat, List.length_cons, List.length_append] at hl
    have hb := b.flat_len
    rcases List.mem_append.1 hx with hx | hx
    · exact Exs.formedR b h d h4 (by omega) x hx
    rcases List.mem_append.1 hx with hx | hx
    · exact Ex.formed o h d h6 (by omega) x hx
    · rw [List.mem_singleton.1 hx]
      refine ⟨?_, by simp [pickI]⟩
      have hn : 0 < n.n := by
        unfold rightN at h1
        simp only [Bool.and_eq_true] at h1
        have := h1.2
        rw [if_pos h2] at this
        exact (of_decide_eq_true this).1
      have : 1 ≤ n.n ∧ n.n ≤ 2000 := by omega
      simp [formedF, pickI, this]
theorem Exs.formedR : ∀ (b : Exs) (h : Int) (d : Nat), b.ok d → b.flat.length ≤ 2000 → ∀ x ∈ b.codeR h, formedF x = true ∧ x.op ≠ 11
  | .nil, _, _, _, _, x, hx => by cases hx
  | .cons e r, h, d, hk, hl, x, hx => by
    simp only [Exs.flat, List.length_append] at hl
    rcases List.mem_append.1 hx with hx | hx
    · exact Exs.formedR r h d hk.2 (by omega) x hx
    · exact Ex.formed e h d hk.1 (by omega) x hx
end
theorem test_formed (t : Int) : formedF (testI t) = true := by simp [formedF, testI]
theorem Exs.formed_func : ∀ (b : Exs) (h : Int) (d o : Nat), b.ok d → b.flat.length ≤ 2000 → ∀ x ∈ b.func h o, formedF x = true
  | .nil, _, _, _, _, _, x, hx => by cases hx
  | .cons e .nil, h, d, o, hk, hl, x, hx => by
    simp only [Exs.flat, List.length_append] at hl
    rcases List.mem_append.1 hx with hx | hx
    · exact (Ex.formed e h d hk.1 (by omega) x hx).1
    · rw [List.mem_singleton.1 hx]; rfl
  | .cons c (.cons v r), h, d, o, hk, hl, x, hx => by
    simp only [Exs.flat, List.length_append] at hl
    rcases List.mem_append.1 hx with hx | hx
    · exact (Ex.formed c h d hk.1 (by omega) x hx).1
    rcases List.mem_cons.1 hx with rfl | hx
    · exact test_formed _
    rcases List.mem_append.1 hx with hx | hx
    · exact (Ex.formed v h d hk.2.1 (by omega) x hx).1
    rcases List.mem_cons.1 hx with rfl | hx
    · rfl
    · exact Exs.formed_func r h d _ hk.2.2 (by omega) x hx
theorem preF_of {len : Int} : ∀ {c : List Ins}, (∀ x ∈ c, formedF x = true ∧ ((x.op = 9 ∨ x.op = 10) → 0 ≤ x.to ∧ x.to < len)) → preF len c = 0
  | [], _ => rfl
  | x :: c, h => by
    obtain ⟨h1, h2⟩ := h x (List.mem_cons_self ..)
    unfold preF
    rw [if_neg (by rw [h1]; simp), if_neg (fun ⟨a, b⟩ => by have := h2 a; omega)]
    exact preF_of fun y hy => h y (List.mem_cons_of_mem _ hy)

/-! ## those that wait: their Calls, one behind the other -/
def WC (o : Nat) (cs : List Ins) (ws : List Wt) : Prop := (ws.map Wt.call).Pairwise (· < ·) ∧ ∀ w ∈ ws, o ≤ w.call ∧ w.call < o + cs.length ∧ ∃ x, cs[w.call - o]? = some x ∧ x.op = 10
theorem WC.nil (o : Nat) (cs : List Ins) : WC o cs [] := ⟨List.Pairwise.nil, fun _ h => by cases h⟩
theorem WC.app {o o' : Nat} {a b : List Ins} {wa wb : List Wt} (ha : WC o a wa) (hb : WC o' b wb) (ho : o' = o + a.length) : WC o (a ++ b) (wa ++ wb) := by
  subst ho
  refine ⟨?_, fun w hw => ?_⟩
  · rw [List.map_append, List.pairwise_append]
    refine ⟨ha.1, hb.1, fun x hx y hy => ?_⟩
    obtain ⟨w, hw, rfl⟩ := List.mem_map.1 hx
    obtain ⟨v, hv, rfl⟩ := List.mem_map.1 hy
    have h1 := (ha.2 w hw).2.1
    have h2 := (hb.2 v hv).1
    omega
  · rw [List.length_append]
    rcases List.mem_append.1 hw with hw | hw
    · obtain ⟨h1, h2, x, h3, h4⟩ := ha.2 w hw
      exact ⟨h1, by omega, x, by rw [List.getElem?_append_left (by omega)]; exact h3, h4⟩
    · obtain ⟨h1, h2, x, h3, h4⟩ := hb.2 w hw
      refine ⟨by omega, by omega, x, ?_, h4⟩
      rw [List.getElem?_append_right (by omega), ← h3]
      congr 1
      omega
theorem wc_act {h : Int} {o pos : Nat} {n : Nod} {b : Exs} {g : Int} : WC o [actI h n g] (actW n b pos o) := by
  unfold actI actW
  split
  · refine ⟨by simp, fun w hw => ?_⟩
    rw [List.mem_singleton.1 hw]
    exact ⟨Nat.le_refl _, by simp, callI g 0, by simp, rfl⟩
  · exact WC.nil _ _
mutual
theorem Ex.wc : ∀ (e : Ex) (h : Int) (o p : Nat), WC o (e.code h) (e.waits o p)
  | .leaf n, h, o, p => WC.nil _ _
  | .one n b r, h, o, p => (Ex.wc r h o _).app wc_act (by rw [Ex.code_len h r])
  | .two n l b r, h, o, p => (Ex.wc r h o _).app ((Ex.wc l h _ _).app wc_act (by rw [Ex.code_len h l])) (by rw [Ex.code_len h r])
  | .pick n e b, h, o, p => (Exs.wcR b h o _).app (by
      have := (Ex.wc e h (o + (b.codeR 0).length) (p + 1)).app (WC.nil _ [pickI n.n]) rfl
      rwa [List.append_nil] at this) (by rw [Exs.codeR_len h b])
theorem Exs.wcR : ∀ (b : Exs) (h : Int) (o p : Nat), WC o (b.codeR h) (b.waitsR o p)
  | .nil, _, o, _ => WC.nil _ _
  | .cons e r, h, o, p => (Exs.wcR r h o _).app (Ex.wc e h _ _) (by rw [Exs.codeR_len h r])
end
theorem Exs.wc_func : ∀ (b : Exs) (h : Int) (o p : Nat), WC o (b.func h o) (b.funcW o p)
  | .nil, _, _, _ => WC.nil _ _
  | .cons e .nil, h, o, p => by
    have := (Ex.wc e h o p).app (WC.nil _ [retI]) rfl
    rwa [List.append_nil] at this
  | .cons c (.cons v r), h, o, p => by
    have hv := Ex.wc v h (o + (c.code 0).length + 1) (p + c.flat.length)
    have hr := Exs.wc_func r h (o + (c.code 0).length + 1 + (v.code 0).length + 1) (p + c.flat.length + v.flat.length)
    have h1 := (WC.nil (o + (c.code 0).length + 1 + (v.code 0).length) [retI]).app hr rfl
    have h2 := hv.app h1 (by rw [Ex.code_len h v])
    have h3 := (WC.nil (o + (c.code 0).length) [testI ((o + (c.code 0).length + 1 + (v.code 0).length + 1 : Nat) : Int)]).app h2 rfl
    exact (Ex.wc c h o p).app h3 (by rw [Ex.code_len h c])

/-! ## each place behind a Ret is gone to -/
/-- the Rets of a function, but for the last, have a Test ahead that goes behind them -/
def Bk (o : Nat) (cs : List Ins) : Prop := ∀ (i : Nat) (y : Ins), cs[i]? = some y → y.op = 11 → i + 1 < cs.length → ∃ (j : Nat) (x : Ins), j ≤ i ∧ cs[j]? = some x ∧ x.op = 9 ∧ x.to = ((o + i + 1 : Nat) : Int)
theorem Exs.bk : ∀ (b : Exs) (h : Int) (d o : Nat), b.ok d → b.flat.length ≤ 2000 → Bk o (b.func h o)
  | .nil, _, _, _, _, _ => fun i y hy => by simp [Exs.func] at hy
  | .cons e .nil, h, d, o, hk, hl => fun i y hy ho hi => by
    simp only [Exs.flat, List.length_append] at hl
    simp only [Exs.func] at hy hi
    rw [List.length_append, List.length_singleton] at hi
    rw [List.getElem?_append_left (by omega)] at hy
    exact absurd ho (Ex.formed e h d hk.1 (by omega) y (List.mem_of_getElem? hy)).2
  | .cons c (.cons v r), h, d, o, hk, hl => fun i y hy ho hi => by
    simp only [Exs.flat, List.length_append] at hl
    have hr := Exs.bk r h d (o + (c.code 0).length + 1 + (v.code 0).length + 1) hk.2.2 (by omega)
    have hc := Ex.formed c h d hk.1 (by omega)
    have hv := Ex.formed v h d hk.2.1 (by omega)
    have lc := Ex.code_len h c
    have lv := Ex.code_len h v
    simp only [Exs.func] at hy hi ⊢
    rw [← lc, ← lv] at hy hi hr ⊢
    clear lc lv
    generalize c.code h = cc at *
    generalize v.code h = vv at *
    generalize r.func h (o + cc.length + 1 + vv.length + 1) = rr at *
    by_cases h1 : i < cc.length
    · rw [List.getElem?_append_left h1] at hy
      exact absurd ho (hc y (List.mem_of_getElem? hy)).2
    rw [List.getElem?_append_right (by omega)] at hy
    obtain ⟨j, hj⟩ : ∃ j, i = cc.length + j := ⟨i - cc.length, by omega⟩
    subst hj
    rw [Nat.add_sub_cancel_left] at hy
    cases j with
    | zero => simp at hy; subst hy; simp [testI] at ho
    | succ j =>
      rw [List.getElem?_cons_succ] at hy
      by_cases h2 : j < vv.length
      · rw [List.getElem?_append_left h2] at hy
        exact absurd ho (hv y (List.mem_of_getElem? hy)).2
      rw [List.getElem?_append_right (by omega)] at hy
      obtain ⟨k, hk2⟩ : ∃ k, j = vv.length + k := ⟨j - vv.length, by omega⟩
      subst hk2
      rw [Nat.add_sub_cancel_left] at hy
      cases k with
      | zero =>
        refine ⟨cc.length, _, by omega, by rw [List.getElem?_append_right (Nat.le_refl _), Nat.sub_self]; rfl, rfl, ?_⟩
        show ((o + cc.length + 1 + vv.length + 1 : Nat) : Int) = _
        congr 1
        omega
      | succ k =>
        rw [List.getElem?_cons_succ] at hy
        simp at hi
        obtain ⟨j, x, e1, e2, e3, e4⟩ := hr k y hy ho (by omega)
        refine ⟨cc.length + 1 + vv.length + 1 + j, x, by omega, ?_, e3, by rw [e4]; congr 1; omega⟩
        rw [List.getElem?_append_right (by omega)]
        have : cc.length + 1 + vv.length + 1 + j - cc.length = (vv.length + (j + 1)) + 1 := by omega
        rw [this, List.getElem?_cons_succ, List.getElem?_append_right (by omega), Nat.add_sub_cancel_left, List.getElem?_cons_succ]
        exact e2

/-! ## code while it is made -/
theorem formed_setTo {y : Ins} (t : Int) (h : y.op = 10) : formedF (setTo t y) = formedF y := by
  obtain ⟨o, a, b, c, d, e, g, i⟩ := y
  dsimp only at h
  subst h
  unfold formedF setTo
  simp only [true_or, or_true, decide_true]
theorem patch_ne {c : List Ins} {k : Nat} {t : Int} {i : Nat} (h : k ≠ i) : (patch c k t)[i]? = c[i]? := by
  unfold patch
  rw [List.getElem?_modify]
  cases c[i]? with
  | none => rfl
  | some y => simp [h]
theorem patch_eq {c : List Ins} {k : Nat} {t : Int} {y : Ins} (h : c[k]? = some y) : (patch c k t)[k]? = some (setTo t y) := by
  unfold patch
  rw [List.getElem?_modify, h]
  simp
structure SInv (l : List Nod) (c : List Ins) (q : List Wt) : Prop where
  last : ∃ c', c = c' ++ [retI]
  fit : fitI 0 c
  formed : ∀ x ∈ c, formedF x = true
  back : ∀ (i : Nat) (y : Ins), c[i]? = some y → y.op = 11 → i + 1 < c.length → ∃ (j : Nat) (x : Ins), j ≤ i ∧ c[j]? = some x ∧ (x.op = 9 ∨ (x.op = 10 ∧ ∀ w ∈ q, w.call ≠ j)) ∧ x.to = ((i + 1 : Nat) : Int)
  wc : WC 0 c q
  wat : ∀ w ∈ q, WAt l c.length w
theorem SInv.step {l : List Nod} (hl : l.length ≤ 2000) {c : List Ins} {w : Wt} {q : List Wt} (h : SInv l c (w :: q)) : SInv l (stepC c w q).1 (stepC c w q).2 := by
  obtain ⟨⟨c0, hc0⟩, hfit, hformed, hback, ⟨hord, hwc⟩, hat⟩ := h
  obtain ⟨⟨⟨d, hd⟩, hn, hlen⟩, ⟨rest, hdrop⟩, hcall⟩ := hat w (List.mem_cons_self ..)
  have hodd : w.b.len % 2 = 1 := by omega
  have hbl : w.b.flat.length ≤ 2000 := by
    have := congrArg List.length hdrop
    rw [List.length_drop, List.length_append] at this
    omega
  obtain ⟨_, _, y0, hy0, hy0o⟩ := hwc w (List.mem_cons_self ..)
  rw [Nat.sub_zero] at hy0
  rw [List.map_cons, List.pairwise_cons] at hord
  have hend : endI 0 c = 0 := by rw [hc0, endI_app]; rfl
  obtain ⟨hf1, hf2⟩ := Exs.fit_func w.b (c.length : Int) (d + 1) c.length hd hodd
  have hwf := Exs.wc_func w.b (c.length : Int) c.length w.pos
  have hbk := Exs.bk w.b (c.length : Int) (d + 1) c.length hd hbl
  have hff := Exs.formed_func w.b (c.length : Int) (d + 1) c.length hd hbl
  obtain ⟨f', hf'⟩ := Exs.func_last (c.length : Int) w.b c.length hodd
  have hq : ∀ v ∈ q, w.call < v.call := fun v hv => hord.1 _ (List.mem_map_of_mem hv)
  simp only [stepC]
  refine ⟨⟨patch c w.call c.length ++ f', by rw [hf', List.append_assoc]⟩, fitI_app _ _ _ (fitI_patch _ _ _ _ hfit) (by rw [endI_patch, hend]; exact hf1), fun x hx => ?_, fun i y hy ho hi => ?_, ?_, fun v hv => ?_⟩
  · rcases List.mem_append.1 hx with hx | hx
    · obtain ⟨i, hi⟩ := List.getElem?_of_mem hx
      obtain ⟨y, hy, rfl | ⟨rfl, rfl⟩⟩ := patch_get hi
      · exact hformed x (List.mem_of_getElem? hy)
      · rw [hy0] at hy
        injection hy with hy
        subst hy
        rw [formed_setTo _ hy0o]
        exact hformed _ (List.mem_of_getElem? hy0)
    · exact hff x hx
  · by_cases h1 : i < c.length
    · rw [List.getElem?_append_left (by rw [patch_len]; exact h1)] at hy
      obtain ⟨y', hy', hyy⟩ := patch_get hy
      have ho' : y'.op = 11 := by
        rcases hyy with rfl | ⟨rfl, _⟩
        · exact ho
        · exact ho
      by_cases h2 : i + 1 < c.length
      · obtain ⟨j, x, e1, e2, e3, e4⟩ := hback i y' hy' ho' h2
        have hne : w.call ≠ j := by
          rcases e3 with e3 | ⟨_, e3⟩
          · intro e
            subst e
            rw [hy0] at e2
            injection e2 with e2
            subst e2
            omega
          · exact e3 w (List.mem_cons_self ..)
        refine ⟨j, x, e1, by rw [List.getElem?_append_left (by rw [patch_len]; omega), patch_ne hne]; exact e2, ?_, e4⟩
        rcases e3 with e3 | ⟨e3, e5⟩
        · exact .inl e3
        · refine .inr ⟨e3, fun v hv => ?_⟩
          rcases List.mem_append.1 hv with hv | hv
          · exact e5 v (List.mem_cons_of_mem _ hv)
          · have := (hwf.2 v hv).1
            omega
      · have hie : i + 1 = c.length := by omega
        refine ⟨w.call, setTo c.length y0, by omega, by rw [List.getElem?_append_left (by rw [patch_len]; omega)]; exact patch_eq hy0, .inr ⟨hy0o, fun v hv => ?_⟩, by rw [hie]; rfl⟩
        rcases List.mem_append.1 hv with hv | hv
        · have := hq v hv; omega
        · have := (hwf.2 v hv).1; omega
    · obtain ⟨k, rfl⟩ : ∃ k, i = c.length + k := ⟨i - c.length, by omega⟩
      rw [List.getElem?_append_right (by rw [patch_len]; omega), patch_len, Nat.add_sub_cancel_left] at hy
      rw [List.length_append, patch_len] at hi
      obtain ⟨j, x, e1, e2, e3, e4⟩ := hbk k y hy ho (by omega)
      refine ⟨c.length + j, x, by omega, ?_, .inl e3, e4⟩
      rw [List.getElem?_append_right (by rw [patch_len]; omega), patch_len, Nat.add_sub_cancel_left]
      exact e2
  · refine WC.app (o' := c.length) ⟨hord.2, fun v hv => ?_⟩ hwf (by rw [patch_len]; omega)
    obtain ⟨h1, h2, x, h3, h4⟩ := hwc v (List.mem_cons_of_mem _ hv)
    obtain ⟨z, hz, hzo⟩ := get_patch (k := w.call) (t := (c.length : Int)) h3
    exact ⟨h1, by rw [patch_len]; exact h2, z, hz, by rw [hzo, h4]⟩
  · rw [List.length_append, patch_len]
    rcases List.mem_append.1 hv with hv | hv
    · exact (hat v (List.mem_cons_of_mem _ hv)).mono (Nat.le_add_right _ _)
    · exact Exs.funcW_at (c.length : Int) w.b (d + 1) c.length w.pos rest hd hdrop v hv
theorem compC_sinv {e : Ex} (h : e.ok 0) (hl : e.flat.length ≤ 2000) : SInv e.flat (compC 0 e) [] := by
  refine compC_inv (I := SInv e.flat) (fun c w q h => h.step hl) 0 e ?_
  obtain ⟨i1, i2⟩ := Ex.fit e 0 0 0 h (by omega)
  have hf := Ex.formed e 0 0 h hl
  refine ⟨⟨_, rfl⟩, fitI_app _ _ _ i1 (by rw [i2]; exact fit_ret.1), fun x hx => ?_, fun i y hy ho hi => ?_, ?_, fun v hv => ?_⟩
  · rcases List.mem_append.1 hx with hx | hx
    · exact (hf x hx).1
    · rw [List.mem_singleton.1 hx]; rfl
  · rw [List.length_append, List.length_singleton] at hi
    rw [List.getElem?_append_left (by omega)] at hy
    exact absurd ho (hf y (List.mem_of_getElem? hy)).2
  · have := (Ex.wc e 0 0 0).app (WC.nil _ [retI]) rfl
    rwa [List.append_nil] at this
  · refine (Ex.waits_at (l := e.flat) e 0 0 0 [] h (by simp) v hv).mono ?_
    simp
/-- it is sound: each place of it is come to -/
theorem compC_sound {e : Ex} (p : Nat) (h : e.ok 0) (hl : e.flat.length ≤ 400) : (compC p e).length ≤ 2000 ∧ preF (compC p e).length (compC p e) = 0 ∧ DepthsF (compC p e) (depI 0 (compC p e)) ∧ ∀ d ∈ depI 0 (compC p e), 0 ≤ d := by
  rw [compC_pos p 0]
  have hlen := compC_len 0 e
  have htot := Ex.tot_le e 0 h
  have hc := compC_cinv (p := 0) h
  have hs := compC_sinv h (by omega)
  generalize compC 0 e = C at *
  have hA : ∀ (i : Nat) (x : Ins), C[i]? = some x → ∃ k, (depI 0 C)[i]? = some k ∧ FitAt x k ∧ (i + 1 < C.length → (depI 0 C)[i + 1]? = some (dnext x k)) := fun i x hx => depI_get C 0 i x hs.fit hx
  have hDl := depI_len C 0
  have hD0 : (depI 0 C)[0]? = some 0 := by
    cases hC : C with
    | nil => rw [hC] at hlen; simp at hlen
    | cons x r => rfl
  have hnx : ∀ (i : Nat) (x : Ins), C[i]? = some x → x.op ≠ 11 → i + 1 < C.length := fun i x hx ho => by
    obtain ⟨c', hc'⟩ := hc.last
    rw [hc'] at hx ⊢
    have hi := (List.getElem?_eq_some_iff.1 hx).1
    rw [List.length_append, List.length_singleton] at hi ⊢
    by_cases hie : i = c'.length
    · subst hie
      rw [List.getElem?_append_right (Nat.le_refl _), Nat.sub_self] at hx
      simp at hx
      subst hx
      exact absurd rfl ho
    · omega
  have hret : ∀ t, RetAt C t → 0 ≤ t ∧ t < (C.length : Int) ∧ (depI 0 C)[t.toNat]? = some 0 := fun t ⟨k, h1, h2, y, h3, h4⟩ => by
    obtain ⟨z, _, _, hz⟩ := hA k y h3
    refine ⟨by omega, by omega, ?_⟩
    have e1 : t.toNat = k + 1 := by omega
    rw [e1, hz h2]
    unfold dnext
    rw [if_pos h4]
  have hto : ∀ (i : Nat) (x : Ins), C[i]? = some x → x.op = 9 ∨ x.op = 10 → 0 ≤ x.to ∧ x.to < (C.length : Int) ∧ (depI 0 C)[x.to.toNat]? = some 0 := fun i x hx ho => by
    refine hret _ ?_
    rcases ho with ho | ho
    · exact (hc.test i x hx ho).1
    · rcases hc.call i x hx ho with h | ⟨w, hw, _⟩
      · exact h
      · cases hw
  have hDx : ∀ (i : Nat) (d : Int), (depI 0 C)[i]? = some d → ∃ x, C[i]? = some x ∧ FitAt x d ∧ (i + 1 < C.length → (depI 0 C)[i + 1]? = some (dnext x d)) := fun i d hd => by
    have hi : i < C.length := by rw [← hDl]; exact (List.getElem?_eq_some_iff.1 hd).1
    obtain ⟨k, h1, h2, h3⟩ := hA i C[i] (by simp [hi])
    rw [hd] at h1
    injection h1 with h1
    subst h1
    exact ⟨C[i], by simp [hi], h2, h3⟩
  have hpos : ∀ d ∈ depI 0 C, 0 ≤ d := fun d hd => by
    obtain ⟨i, hi⟩ := List.getElem?_of_mem hd
    obtain ⟨x, _, hf, _⟩ := hDx i d hi
    exact hf.1
  have hle : ∀ (i : Nat) (d : Int), (depI 0 C)[i]? = some d → d ≤ i := fun i => by
    induction i with
    | zero => intro d hd; rw [hD0] at hd; injection hd with hd; omega
    | succ i ih =>
      intro d hd
      have hi : i + 1 < C.length := by rw [← hDl]; exact (List.getElem?_eq_some_iff.1 hd).1
      obtain ⟨k, h1, h2, h3⟩ := hA i C[i] (by simp [show i < C.length by omega])
      have := ih k h1
      rw [h3 hi] at hd
      injection hd with hd
      rw [← hd]
      have h4 := h2.2.2.1
      unfold dnext laysF
      split
      · omega
      · split <;> omega
  have hgo : ∀ (i : Nat) (d : Int) (x : Ins), C[i]? = some x → FitAt x d → ∃ L, goesF x i d = some L ∧ (x.op ≠ 11 → ((i : Int) + 1, dnext x d) ∈ L) ∧ (x.op = 9 ∨ x.op = 10 → (x.to, 0) ∈ L) ∧ ∀ j e, (j, e) ∈ L → (x.op ≠ 11 ∧ j = (i : Int) + 1 ∧ e = dnext x d) ∨ ((x.op = 9 ∨ x.op = 10) ∧ j = x.to ∧ e = 0) := fun i d x hx ⟨f1, f2, f3, f4⟩ => by
    unfold goesF
    rw [if_neg (by intro hh; rcases hh with hh | ⟨h1, h2⟩; omega; exact h2 (f4 (.inl h1)))]
    by_cases h11 : x.op = 11
    · rw [if_pos h11]
      exact ⟨[], rfl, fun h => absurd h11 h, fun h => by omega, fun j e h => by cases h⟩
    rw [if_neg h11]
    by_cases h10 : x.op = 10
    · rw [if_pos h10]
      have hd : dnext x d = d - takesF x + 1 := by unfold dnext laysF; rw [if_neg h11, if_neg (by omega)]
      refine ⟨_, rfl, fun _ => by rw [hd]; simp, fun _ => by simp, fun j e h => ?_⟩
      simp only [List.mem_cons, Prod.mk.injEq, List.not_mem_nil, or_false] at h
      rcases h with ⟨h1, h2⟩ | ⟨h1, h2⟩
      · exact .inr ⟨.inr h10, h1, h2⟩
      · exact .inl ⟨h11, h1, by rw [hd]; exact h2⟩
    rw [if_neg h10]
    by_cases h9 : x.op = 9
    · rw [if_pos h9]
      have hd1 := f4 (.inr h9)
      have ht : takesF x = 1 := by unfold takesF; rw [if_neg (by omega), if_neg (by omega), if_neg (by omega), if_neg (by omega)]
      have hd : dnext x d = d - 1 := by unfold dnext laysF; rw [if_neg h11, if_pos (.inl h9), ht]; omega
      refine ⟨_, rfl, fun _ => by rw [hd]; simp, fun _ => by simp [hd1], fun j e h => ?_⟩
      simp only [List.mem_cons, Prod.mk.injEq, List.not_mem_nil, or_false] at h
      rcases h with ⟨h1, h2⟩ | ⟨h1, h2⟩
      · exact .inr ⟨.inl h9, h1, by omega⟩
      · exact .inl ⟨h11, h1, by rw [hd]; exact h2⟩
    rw [if_neg h9]
    have hd : dnext x d = d - takesF x + 1 := by unfold dnext laysF; rw [if_neg h11, if_neg (by omega)]
    refine ⟨_, rfl, fun _ => by rw [hd]; simp, fun h => by omega, fun j e h => ?_⟩
    simp only [List.mem_cons, Prod.mk.injEq, List.not_mem_nil, or_false] at h
    exact .inl ⟨h11, h.1, by rw [hd]; exact h.2⟩
  refine ⟨by omega, preF_of fun x hx => ?_, depths_of hDl hD0 (fun i d hd => .inl (hpos d (List.mem_of_getElem? hd))) (fun i d hd => ?_) (fun i d h0 hd => ?_) (fun i d x h0 hd hx => ?_), hpos⟩
  · obtain ⟨i, hi⟩ := List.getElem?_of_mem hx
    exact ⟨hs.formed x hx, fun ho => by obtain ⟨h1, h2, _⟩ := hto i x hi ho; exact ⟨h1, h2⟩⟩
  · have h1 := hle i d hd
    have h2 := (List.getElem?_eq_some_iff.1 hd).1
    omega
  · clear h0
    induction i using Nat.strongRecOn generalizing d with
    | ind i ih =>
      cases i with
      | zero => rw [hD0] at hd; injection hd with hd; subst hd; exact .start
      | succ i =>
        have hi : i + 1 < C.length := by rw [← hDl]; exact (List.getElem?_eq_some_iff.1 hd).1
        obtain ⟨k, h1, h2, h3⟩ := hA i C[i] (by simp [show i < C.length by omega])
        rw [h3 hi] at hd
        injection hd with hd
        have hx : C[i]? = some C[i] := by simp [show i < C.length by omega]
        generalize C[i] = x at *
        by_cases h11 : x.op = 11
        · obtain ⟨j, y, e1, e2, e3, e4⟩ := hs.back i x hx h11 hi
          obtain ⟨k', g1, g2, _⟩ := hA j y e2
          obtain ⟨L, hL, _, hL2, _⟩ := hgo j k' y e2 g2
          have e5 : y.op = 9 ∨ y.op = 10 := by
            rcases e3 with e | ⟨e, _⟩
            · exact .inl e
            · exact .inr e
          have hd0 : d = 0 := by rw [← hd]; unfold dnext; rw [if_pos h11]
          rw [hd0, ← e4]
          exact .step (ih j (by omega) k' g1) e2 hL (hL2 e5)
        · obtain ⟨L, hL, hL1, _, _⟩ := hgo i k x hx h2
          rw [← hd, show (((i + 1 : Nat)) : Int) = (i : Int) + 1 by omega]
          exact .step (ih i (by omega) k h1) hx hL (hL1 h11)
  · obtain ⟨x', hx', hf, hn⟩ := hDx i d hd
    rw [hx] at hx'
    injection hx' with hx'
    subst hx'
    obtain ⟨L, hL, _, _, hL3⟩ := hgo i d x hx hf
    refine ⟨L, hL, fun j e hm => ?_⟩
    rcases hL3 j e hm with ⟨h11, rfl, rfl⟩ | ⟨ho, rfl, rfl⟩
    · have h1 := hn (hnx i x hx h11)
      exact ⟨by omega, hpos _ (List.mem_of_getElem? h1), by rw [show ((i : Int) + 1).toNat = i + 1 by omega]; exact h1⟩
    · obtain ⟨h1, _, h3⟩ := hto i x hx ho
      exact ⟨h1, by omega, h3⟩
end Go.Proofs.YtdmapiaejcnibaaDoor

namespace Go.Proofs.YtdmapiaejcnibaaDoor
open Go.RowKit

theorem depths_told {code : List InsM} {D : List Int} (n : Nat) (hA : DepthsA (code.map InsM.ins) 0 D) (hn : D.length = n) (p : Option Addr) (c m : Nat) (hm : code.length = m) (w : World) (hR : Row insE 8 w.cell? p c code) (htx : ∀ x ∈ code, x.text.length ≤ 4294967280 ∧ x.nums.xs.length ≤ 4294967280) (hG : GlobA w) :
    Calls Tryd.prog 13 #[.slice p m c] w fun e w' => ∃ z : Option Addr × Nat, True ∧ e = .returned (.tuple #[.slice z.1 n z.2, .nilIface]) ∧ Holds w [] [sl 3 1 z.1 n z.2 (D.map (Value.int .i64))] w' := by
  subst hm hn
  refine (sound_Depths p c code w hR htx hG).mono ?_
  rintro e w' ⟨x, D', q, c', h1, h2, h3⟩
  obtain ⟨rfl, rfl⟩ := h1.eq hA
  exact ⟨(q, c'), trivial, by rw [h2, errV_zero], h3⟩
def factL : List InsM := [⟨5, 0, 0, 0, 0, 0, ⟨none, 0, []⟩, []⟩, ⟨11, 0, 0, 0, 0, 0, ⟨none, 0, []⟩, []⟩]
theorem factL_run : runF (factL.map InsM.ins) 10 ((List.replicate (factL.map InsM.ins).length (-1)).set 0 0) [0] = some [0, 1] := by decide +kernel
theorem factL_pre : preF (factL.map InsM.ins).length (factL.map InsM.ins) = 0 := by decide +kernel
set_option maxHeartbeats 8000000 in
set_option maxRecDepth 100000 in
theorem law_SoundLines (p : Option Addr) (c : Nat) (L : List NodM) (u0 : World) (hR : Row nodE 7 u0.cell? p c L) (hB : ∀ x ∈ L, NodG u0.cell? x) (hG : GlobA u0) :
    Calls Tryd.prog 6 #[.slice p L.length c] u0 fun e w' => e = .returned (.bool true) ∧ Below u0.heap.size u0 w' := by
  have hA2 := depths_run 10 (by decide +kernel) factL_pre (by decide +kernel) factL_run
  have hLl := hR.len
  refine enterR (G := u0.cell?) (args := [_]) (m := []) (F := []) (Rd.sub_cell u0) rfl Tryd.func6 rfl Tryd.ntmps6 (by simp) ?_
  (repeat' (first|refine zza ?_|refine zc9 ?_|refine zzb fun w hw => ?_|refine zzh fun _ => ?_|refine zzi fun _ _ => ?_|refine zv1 ?_|refine zv2 ?_|refine zzj (fun _ => ?_) fun _ => ?_))
  rename_i b1
  refine WL_ent (Ent.consK (b' := b1) (cs' := (factL.flatMap insE).toArray) (k := Ent.refl) .here) ?_
  (apply WL_callX; rfl; rfl; rfl; (intro W hW; exact depths_told 2 hA2 rfl _ _ 2 rfl W (row_blk (enc := insE) (xs := factL) hW .here (fun _ => rfl) (by decide +kernel)) (by decide +kernel) (hG.below hW.below)); intro _ _)
  rename_i z _
  obtain ⟨q1, d1⟩ := z
  dsimp only
  (repeat' (first|refine zza ?_|refine zc9 ?_|refine zzb fun w hw => ?_|refine zzh fun _ => ?_|refine zzi fun _ _ => ?_|refine zv1 ?_|refine zv2 ?_|refine zzj (fun _ => ?_) fun _ => ?_))
  rename_i b2
  (apply WL_callV; rfl; rfl; rfl; (intro W hW; exact same_Ints q1 _ d1 _ 2 [0, 1] rfl W (row_ints hW (.there .here)) (row_blk (enc := encI) (xs := [0, 1]) hW .here (fun _ => rfl) (by decide +kernel))))
  (repeat' (first|refine zza ?_|refine zc9 ?_|refine zzb fun w hw => ?_|refine zzh fun _ => ?_|refine zzi fun _ _ => ?_|refine zv1 ?_|refine zv2 ?_|refine zzj (fun _ => ?_) fun _ => ?_))
  refine WL_callA (X := Int × List InsM × Option Addr × Nat) (V := fun z => .tuple #[.slice z.2.2.1 z.2.1.length z.2.2.2, errV 51 z.1]) (Φ := fun z G => CompA L z G ∧ Rd.le u0.cell? G) rfl rfl rfl rfl (fun W hW => (comp_law p c L W (hR.mono (hW.le (.there (.there (.there .here))))) (fun x hx => (hB x hx).mono (hW.le (.there (.there (.there .here))))) (hG.below hW.below)).mono fun e w' ⟨z, h1, h2, h3, h4⟩ => ⟨z, h1, h2, h3, fun a v e => h4 a v (hW.rd (.there (.there (.there .here))) e)⟩) ?_
  rintro ⟨xx, cc, qq, kk⟩ G2 ⟨⟨hxx, hA⟩, hle2⟩
  dsimp only at hxx hA ⊢
  by_cases hx0 : xx = 0
  · subst hx0
    rw [errV_zero]
    obtain ⟨t, ht, hL4, hcm, hcG, hrow⟩ := hA rfl
    clear hA hxx
    obtain ⟨n, r, hnr, hok, hdr, hcase⟩ := treeG_some ht
    have hfl : t.2.flat.length ≤ 400 := by
      have := congrArg List.length hdr
      rw [List.length_drop, List.length_map] at this
      omega
    obtain ⟨s1, s2, s3, s4⟩ := compC_sound (startL t) hok hfl
    rw [← hcm] at s1 s2 s3 s4
    have hDA : DepthsA (cc.map InsM.ins) 0 (depI 0 (cc.map InsM.ins)) := by
      unfold DepthsA
      rw [if_neg (by omega), if_neg (fun k => k s2)]
      exact .inr ⟨rfl, s3⟩
    have hDl : (depI 0 (cc.map InsM.ins)).length = cc.length := by rw [depI_len, List.length_map]
    rw [List.length_map] at s1
    obtain ⟨D, hD⟩ : ∃ D, depI 0 (cc.map InsM.ins) = D := ⟨_, rfl⟩
    rw [hD] at hDA hDl s4
    have htx : ∀ x ∈ cc, x.text.length ≤ 4294967280 ∧ x.nums.xs.length ≤ 4294967280 := fun x hx => ⟨by have := (hcG x hx).text; omega, by have := (hcG x hx).numsL; omega⟩
    clear hD s2 s3 hcm hok hfl hdr hcase hnr ht hcG hA2
    (repeat' (first|refine zza ?_|refine zc9 ?_|refine zzb fun w hw => ?_|refine zzh fun _ => ?_|refine zzi fun _ _ => ?_|refine zv1 ?_|refine zv2 ?_|refine zzj (fun _ => ?_) fun _ => ?_))
    (apply WL_callX; rfl; rfl; rfl; (intro W hW; exact depths_told cc.length hDA hDl _ _ cc.length rfl W (hrow.mono (hW.le .here)) htx (hG.below hW.below)); intro _ _)
    rename_i z _
    obtain ⟨q3, d3⟩ := z
    dsimp only
    clear hDA htx hrow
    have hDp : ∀ (i : Nat) (d : Int), D[i]? = some d → 0 ≤ d := fun i d h => s4 d (List.mem_of_getElem? h)
    clear s4
    (repeat' (first|refine zza ?_|refine zc9 ?_|refine zzb fun w hw => ?_|refine zzh fun _ => ?_|refine zzi fun _ _ => ?_|refine zv1 ?_|refine zv2 ?_|refine zzj (fun _ => ?_) fun _ => ?_))
    refine CW_loopK [(0,_),(8,.slice q3 cc.length d3)] zcov (fun i : Nat => [(9, .int .i64 (i : Int))]) (fun _ => [sl 3 1 q3 cc.length d3 (D.map (Value.int .i64)), ro u0 [] G2]) (fun i => i ≤ cc.length) (fun i => cc.length - i) 0 (Nat.zero_le _) zcov zent ?_
    intro i hi
    by_cases hlt : i < cc.length
    · have hd0 : 0 ≤ D.getD i 0 := hDp i _ (some_gD (by omega))
      clear hDp
      (repeat' (first|refine zza ?_|refine zc9 ?_|refine zzb fun w hw => ?_|refine zzh fun _ => ?_|refine zzi fun _ _ => ?_|refine zv1 ?_|refine zv2 ?_|refine zzj (fun _ => ?_) fun _ => ?_))
      exact EX_loop' (i + 1) ⟨zcov, zent, by omega, by omega⟩
    · have : i = cc.length := by omega
      subst this
      clear hDp
      (repeat' (first|refine zza ?_|refine zc9 ?_|refine zzb fun w hw => ?_|refine zzh fun _ => ?_|refine zzi fun _ _ => ?_|refine zv1 ?_|refine zv2 ?_|refine zzj (fun _ => ?_) fun _ => ?_))
      exact ⟨rfl, hw.below⟩
  · rw [errV_ne hx0]
    clear hA
    refine zg1 ?_
    (repeat' (first|refine zza ?_|refine zc9 ?_|refine zzb fun w hw => ?_|refine zzh fun _ => ?_|refine zzi fun _ _ => ?_|refine zv1 ?_|refine zv2 ?_|refine zzj (fun _ => ?_) fun _ => ?_))
    exact ⟨rfl, hw.below⟩
theorem open_SoundLines (x : SlV NodM) (w : World) (s : SlS nodE 7 NodS w 1048576 x) (L : LaidG w) :
    Calls Tryd.prog 6 #[x.val] w fun e w' => e = .returned (.bool true) ∧ Below w.heap.size w w' :=
  law_SoundLines x.p x.c x.xs w s.row (fun i hi => nodG_of (s.each i hi) (Nat.le_refl _)) L.glob
end Go.Proofs.YtdmapiaejcnibaaDoor
