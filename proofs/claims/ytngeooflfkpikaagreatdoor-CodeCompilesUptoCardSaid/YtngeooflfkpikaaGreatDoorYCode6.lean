/-
  code: the code of parts at indices: the last one first.
  code: the code of every expression; of a function; of a line.
-/
import Derived.Test.YtngeooflfkpikaaGreatDoorYGo
import Derived.Test.YtngeooflfkpikaaGreatDoorYCells
import Derived.Test.YtngeooflfkpikaaGreatDoorYCode4
namespace Go.Proofs.YtngeooflfkpikaaGreatDoor
open Go.RowKit Go.Shelf
/-! ## the plain part: what comes, the last one first -/
/-- expressions with where they begin -/
def posP : Nat → List Ex → List (Ex × Nat)
  | _, [] => []
  | k, e :: r => (e, k) :: posP (k + e.flat.length) r
theorem posP_len : ∀ (k : Nat) (es : List Ex), (posP k es).length = es.length
  | _, [] => rfl
  | k, e :: r => by simp [posP, posP_len _ r]
theorem posP_get : ∀ (es : List Ex) (k i : Nat) (e : Ex), es[i]? = some e → (posP k es)[i]? = some (e, endL k (es.take i))
  | [], _, _, _, h => by simp at h
  | x :: es, k, 0, e, h => by
    simp at h
    subst h
    simp [posP, endL]
  | x :: es, k, i + 1, e, h => by
    simp only [posP, List.getElem?_cons_succ, List.take_succ_cons, endL_cons]
    exact posP_get es _ i e (by simpa using h)
theorem posP_I : ∀ (k : Nat) (es : List Ex), posI k es = (posP k es).map fun x => (x.2 : Int)
  | _, [] => rfl
  | k, e :: r => by
    have := posP_I (k + e.flat.length) r
    unfold posI at this ⊢
    simp [posP, posL, this]
/-- the code of expressions, one behind the other -/
def runC (h : Int) (l : List (Ex × Nat)) : List Ins := l.flatMap fun x => x.1.code h
/-- .. and those that wait -/
def runW : Nat → List (Ex × Nat) → List Wt
  | _, [] => []
  | o, x :: r => x.1.waits o x.2 ++ runW (o + (x.1.code 0).length) r
theorem runC_len (h : Int) : ∀ l : List (Ex × Nat), (runC h l).length = (runC 0 l).length
  | [] => rfl
  | x :: r => by
    have := runC_len h r
    unfold runC at this ⊢
    simp only [List.flatMap_cons, List.length_append, Ex.code_len h, this]
theorem runW_app : ∀ (a b : List (Ex × Nat)) (o : Nat), runW o (a ++ b) = runW o a ++ runW (o + (runC 0 a).length) b
  | [], b, o => by simp [runW, runC]
  | x :: a, b, o => by
    simp only [List.cons_append, runW, runW_app a b, List.append_assoc]
    congr 2
    simp [runC]; congr 1; omega
theorem Exs.codeR_run (h : Int) : ∀ (b : Exs) (p : Nat), b.codeR h = runC h (posP p b.list).reverse
  | .nil, _ => rfl
  | .cons e r, p => by
    have := Exs.codeR_run h r (p + e.flat.length)
    unfold runC at this ⊢
    simp [Exs.codeR, Exs.list, posP, this]
theorem Exs.waitsR_run : ∀ (b : Exs) (o p : Nat), b.waitsR o p = runW o (posP p b.list).reverse
  | .nil, _, _ => rfl
  | .cons e r, o, p => by
    simp only [Exs.waitsR, Exs.list, posP, List.reverse_cons, runW_app, ← Exs.codeR_run, ← Exs.waitsR_run r]
    simp [runW]
theorem flat_le2 : ∀ {es : List Ex} {e : Ex}, e ∈ es → e.flat.length + es.length ≤ (es.flatMap Ex.flat).length + 1
  | [], _, h => by cases h
  | x :: r, e, h => by
    have hx := x.flat_pos
    have hr : r.length ≤ (r.flatMap Ex.flat).length := by have := le_endL 0 r; unfold endL at this; omega
    simp only [List.flatMap_cons, List.length_append, List.length_cons]
    rcases List.mem_cons.1 h with rfl | h
    · omega
    · have := flat_le2 h; omega
/-- what comes at a place -/
def atP (M : Nat) (PL : List (Ex × Nat)) (i : Fin (M + 1)) : Ex × Nat := PL.getD i.val (.leaf default, 0)
theorem backL_all {M : Nat} {PL : List (Ex × Nat)} (h : PL.length = M + 1) : (backL M (M + 1)).map (atP M PL) = PL.reverse := by
  apply List.ext_getElem
  · simp [backL, h]
  · intro i h1 h2
    simp [backL] at h1
    simp only [backL, List.getElem_map, List.getElem_range, atP, List.getElem_reverse, h]
    rw [List.getD_eq_getElem?_getD, List.getElem?_eq_getElem (by omega)]
    simp
theorem runs_le {C : List (Ex × Nat)} {n : Nat} (h : ∀ x ∈ C, x.1.flat.length ≤ n) : ∀ o, (runC 0 C).length ≤ C.length * n ∧ (runW o C).length ≤ C.length * n := by
  induction C with
  | nil => intro o; simp [runC, runW]
  | cons x r ih =>
    intro o
    have h1 := h x (List.mem_cons_self ..)
    have h2 := x.1.code_le
    have h3 := x.1.waits_le o x.2
    have ih1 := ih (fun y hy => h y (List.mem_cons_of_mem _ hy)) (o + (x.1.code 0).length)
    simp only [List.length_cons, Nat.add_mul, Nat.one_mul, runW, List.length_append]
    have : (runC 0 (x :: r)).length = (x.1.code 0).length + (runC 0 r).length := by simp [runC]
    omega
/-! ## the walk -/
/-- a box for a value of one cell: a slice -/
theorem WL_boxS {P : Program} {K : Cx} {ρ : Env} {m : List HP} {t ty : TypeId} {pos : String} {aft : Array Edge} {g : Option (Nat × Bool)} {x : Operand} {ops : Array Oper} {Q : Exit → Act → World → Prop} {rest : List Oper} {d : Nat} {v : Option Addr} {n c : Nat} (hx : opv ρ x = some (.slice v n c)) (hg : guardB ops g ρ = some true) (hn : (guardN K.N ops g && Nat.blt d K.N) = true) (k : ∀ b : Nat, WL P K ops Q rest ((d, .pointer (some ⟨b, 0, none⟩)) :: ρ) (blk b t #[.slice v n c] :: m)) :
    WL P K ops Q (⟨some d, .box t x, ty, pos, aft, g⟩ :: rest) ρ m := by
  refine ⟨fun a w hf hm => ?_⟩
  simp only [Bool.and_eq_true] at hn
  unfold wpList
  rw [if_pos (guard_wanted hf hg (guardN_spec hn.1))]
  refine .inl ?_
  have h : (execOp a.eval ⟨some d, .box t x, ty, pos, aft, g⟩).run P w = .ok (.value (.pointer (some ⟨w.heap.size, 0, none⟩))) (w.alloc (.cells #[.slice v n c] t)) := by
    simp only [execOp, hf.eval hx]; simp [go_sem]
  unfold Oper.wp
  rw [h, Oper.upon_value]
  exact (k _).run _ _ (hf.put (blt_lt hn.2) _) (hm.new t #[.slice v n c])
set_option maxRecDepth 100000 in
theorem code_backward (a : Option Addr) (n c : Nat) (w : World) :
    Calls Tryz.prog 76 #[.slice a n c] w fun e w' => ∃ B : Nat, True ∧ e = .returned (.func (.func 171) #[] #[.pointer (some ⟨B, 0, none⟩)]) ∧ Holds w [] [blk B 42 #[.slice a n c]] w' := by
  refine enter (args := [_]) (m := []) (F := []) Tryz.func76 rfl Tryz.ntmps76 (by simp) rfl ?_
  (repeat' (first|refine zza ?_|refine zc9 ?_|refine zzb fun w hw => ?_|refine zzh fun _ => ?_|refine zzi fun _ _ => ?_|refine zv1 ?_|refine zv2 ?_|refine zzj (fun _ => ?_) fun _ => ?_))
  refine WL_boxS rfl rfl rfl fun B => ?_
  (repeat' (first|refine zza ?_|refine zc9 ?_|refine zzb fun w hw => ?_|refine zzh fun _ => ?_|refine zzi fun _ _ => ?_|refine zv1 ?_|refine zv2 ?_|refine zzj (fun _ => ?_) fun _ => ?_))
  apply WL_op rfl rfl (y_makeFunc rfl)
  (repeat' (first|refine zza ?_|refine zc9 ?_|refine zzb fun w hw => ?_|refine zzh fun _ => ?_|refine zzi fun _ _ => ?_|refine zv1 ?_|refine zv2 ?_|refine zzj (fun _ => ?_) fun _ => ?_))
  exact ⟨B, trivial, rfl, hw⟩
def cPt : List Nat → Code → Code
  | 0 :: r, .seq x _ => cPt r x
  | _ :: r, .seq _ y => cPt r y
  | 0 :: r, .cond _ x _ => cPt r x
  | _ :: r, .cond _ _ y => cPt r y
  | _ :: r, .loop x => cPt r x
  | _ :: r, .block _ x => cPt r x
  | _, c => c
theorem backward_stops (n : Nat) (hn : 1 ≤ n) (Bs g cap M : Nat) (zs : List Int) (hreach : M + 1 ≤ 100000) (w : World) (hBs : w.cell? ⟨Bs, 0, none⟩ = some (.slice (some ⟨g, 0, none⟩) (M + 1) cap)) (hc : ∀ j, j < M + 1 → w.cell? ⟨g, j, none⟩ = some (.int .i64 (zs[j]?.getD 0))) :
    SeqStopsK Fence.wide n Tryz.prog 171 #[.pointer (some ⟨Bs, 0, none⟩)] (fun x : Fin (M + 1) => #[.int .i64 (x.val : Int), .int .i64 (zs[x.val]?.getD 0)]) (KeepTwo g Bs) (fun ys => ys = backL M (M + 1)) (fun _ => True) (M + 1) w := fun l J Jx W hW _ _ hY h0 =>
  back1_in Fence.wide n trivial rfl hn l Bs g cap M zs hreach J Jx hY W ((hW.cell (p := ⟨Bs, 0, none⟩) (cell_lt hBs)).trans hBs) (fun j hj => (hW.cell (p := ⟨g, j, none⟩) (cell_lt (hc j hj))).trans (hc j hj)) h0
/-- what holds between two rounds -/
def RngI (b : Nat) (p : Option Addr) (n c : Nat) (h : Int) (xs : List InsM) (ws : List Wt) (R : List HP) (G : Rd) (w : World) (fp : List Nat) (C : List (Ex × Nat)) (W : World) : Prop :=
  ∃ z : Rd × List InsM × (Option Addr × Nat) × (Option Addr × Nat), (z.2.1.map InsM.ins = runC h C ∧ ∀ x ∈ z.2.1, InsG z.1 x) ∧ Rd.grow w G z.1 ∧ Holds w fp (ro w fp z.1 :: (mkS b p n c h z.2.2.1 (xs ++ z.2.1) z.2.2.2 (ws ++ runW xs.length C) ++ R)) W
theorem mkS_cel {b : Nat} {p : Option Addr} {n c : Nat} {h : Int} {o : Option Addr × Nat} {xs : List InsM} {q : Option Addr × Nat} {ws : List Wt} {R : List HP} (hR : ∀ x ∈ R, Cel x) {w0 : World} {F : List Nat} {G : Rd} : ∀ x ∈ ro w0 F G :: (mkS b p n c h o xs q ws ++ R), Cel x := fun x hx => by
  simp only [mkS, List.cons_append, List.nil_append, List.mem_cons] at hx
  rcases hx with rfl | rfl | rfl | rfl | hx
  · exact cel_ro _ _ _
  · exact cel_blk _ _ _
  · exact cel_sl _ _ _ _ _ _
  · exact cel_sq _ _ _ _ _ _
  · exact hR x hx
theorem foldl_two {α β γ : Type} (f : γ → α × β → γ) (t : γ) (a1 a2 : α) (b1 b2 : β) : Array.foldl f t ((#[a1, a2] : Array α).zip #[b1, b2]) = f (f t (a1, b1)) (a2, b2) := by
  simp
theorem own_mkS {b : Nat} {p : Option Addr} {n c : Nat} {h : Int} {o : Option Addr × Nat} {xs : List InsM} {q : Option Addr × Nat} {ws : List Wt} {f : List Nat} {W : World} (ho : Own (mkS b p n c h o xs q ws) f W) : f = [b] ++ (blkOf o.1 ++ (blkOf q.1 ++ [])) ∧ ∀ i ∈ f, ∃ u, W.heap[i]? = some u ∧ u.isCells = true := by
  obtain ⟨f1, f2, rfl, h1, ⟨f3, f4, rfl, h3, ⟨f5, f6, rfl, h5, h6, _⟩, _⟩, _⟩ := ho
  have e1 : f1 = [b] := h1.1
  have e3 : f3 = blkOf o.1 := h3.1
  have e5 : f5 = blkOf q.1 := h5.1
  have e6 : f6 = [] := h6
  subst e1 e3 e5 e6
  refine ⟨rfl, fun i hi => ?_⟩
  rcases List.mem_append.1 hi with hi | hi
  · obtain ⟨f', hs, hp, hcl⟩ := cel_blk _ _ _ W _ h1
    have : f' = [b] := hp.1
    exact hcl i (this ▸ hi)
  rcases List.mem_append.1 hi with hi | hi
  · obtain ⟨f', hs, hp, hcl⟩ := cel_sl _ _ _ _ _ _ W _ h3
    have : f' = blkOf o.1 := hp.1
    exact hcl i (this ▸ hi)
  rcases List.mem_append.1 hi with hi | hi
  · obtain ⟨f', hs, hp, hcl⟩ := cel_sq _ _ _ _ _ _ W _ h5
    have : f' = blkOf q.1 := hp.1
    exact hcl i (this ▸ hi)
  · cases hi
theorem Pick.mem_fp {m r : List HP} {x : HP} (hp : Pick m x r) {f : List Nat} {w : World} (ho : Own m f w) {i : Nat} (hi : ∀ f1, x.p w f1 → i ∈ f1) : i ∈ f := by
  obtain ⟨f1, f2, he, h1, _⟩ := hp.own ho
  exact (he i).2 (.inl (hi f1 h1))
set_option maxHeartbeats 4000000 in
set_option maxRecDepth 100000 in
theorem code_range (M : Nat) (PL : List (Ex × Nat)) (hPL : PL.length = M + 1) (hM : M + 1 ≤ 400) (p : Option Addr) (n c : Nat) (b B g cap bm : Nat) (h : Int) (xs : List InsM) (ws : List Wt) (R r1 r2 r3 : List HP) (hR : ∀ x ∈ R, Cel x)
    (hRB : Pick R (blk B 42 #[.slice (some ⟨g, 0, none⟩) (M + 1) cap]) r1) (hRg : Pick R (sl 3 1 (some ⟨g, 0, none⟩) (M + 1) cap ((PL.map fun x => (x.2 : Int)).map (Value.int .i64))) r2) (hRm : Pick R (blk bm 77 #[.pointer (some ⟨b, 0, none⟩)]) r3)
    (G : Rd) (w : World) (fp : List Nat)
    (hcall : ∀ (C : List (Ex × Nat)) (x : Ex × Nat), C.length < M + 1 → (∀ y ∈ C, y ∈ PL) → x ∈ PL → ∀ (G1 : Rd) (zs : List InsM) (o q : Option Addr × Nat) (W : World) (f1 : List Nat), zs.length = (runC 0 C).length → Rd.le G G1 → Own (mkS b p n c h o (xs ++ zs) q (ws ++ runW xs.length C)) f1 W → Rd.sub G1 f1 W →
      Calls Tryz.prog 26 #[.pointer (some ⟨b, 0, none⟩), .int .i64 (x.2 : Int)] W fun en w' => ∃ z : Rd × List InsM × (Option Addr × Nat) × (Option Addr × Nat), (z.2.1.map InsM.ins = x.1.code h ∧ ∀ y ∈ z.2.1, InsG z.1 y) ∧ en = .returned (.tuple #[]) ∧ Rd.grow W G1 z.1 ∧
        Holds W f1 (ro W f1 z.1 :: mkS b p n c h z.2.2.1 ((xs ++ zs) ++ z.2.1) z.2.2.2 ((ws ++ runW xs.length C) ++ x.1.waits (xs ++ zs).length x.2)) w')
    (Q : Exit → Act → World → Prop) (a : Act) (W0 : World) (ρ : Env) (hf : Fits 71 [] a ρ) (h2 : ρ.find 2 = some (.pointer (some ⟨bm, 0, none⟩))) (h60 : ρ.find 60 = some (.func (.func 171) #[] #[.pointer (some ⟨B, 0, none⟩)]))
    (h0 : RngI b p n c h xs ws R G w fp [] W0)
    (hdone : ∀ (D : Nat) (W : World), w.heap.size ≤ D → W.heap[D]? = some (.deferred (some [])) → RngI b p n c h xs ws R G w fp PL.reverse W → Q .normal { a with defers := [⟨.collected D, #[]⟩] } W) :
    (cPt [1,1,1,0,1,1,1,1,1,1,1,1,1,1,1,0,0,1,0] ((Tryz.f26.body).getD .skip)).wpIn Fence.wide 20 Tryz.prog Q a W0 := by
  conv => pattern cPt _ _; whnf
  obtain ⟨z0, h01, h02, hm0⟩ := h0
  have hsz := hm0.size
  have hB0 : W0.cell? ⟨B, 0, none⟩ = some (.slice (some ⟨g, 0, none⟩) (M + 1) cap) := cell_blk hm0 (.there (.there (.there (.there hRB)))) rfl
  obtain ⟨zs, hzs⟩ : ∃ zs, zs = PL.map fun x => (x.2 : Int) := ⟨_, rfl⟩
  have hzl : zs.length = M + 1 := by rw [hzs, List.length_map, hPL]
  have hat : ∀ x : Fin (M + 1), zs[x.val]?.getD 0 = ((atP M PL x).2 : Int) := fun x => by
    have hx : x.val < PL.length := by omega
    rw [hzs]; simp [atP, List.getD_eq_getElem?_getD, List.getElem?_eq_getElem hx]
  have hatm : ∀ x : Fin (M + 1), atP M PL x ∈ PL := fun x => by
    have hx : x.val < PL.length := by omega
    simp only [atP, List.getD_eq_getElem?_getD, List.getElem?_eq_getElem hx, Option.getD_some]
    exact List.getElem_mem _
  have hg0 : ∀ j, j < M + 1 → W0.cell? ⟨g, j, none⟩ = some (.int .i64 (zs[j]?.getD 0)) := fun j hj => by
    have := rd_slI (K := ⟨71, [], w, fp⟩) (m := ro w fp z0.1 :: (mkS b p n c h z0.2.2.1 (xs ++ z0.2.1) z0.2.2.2 (ws ++ runW xs.length []) ++ R)) (i := j) (.there (.there (.there (.there (hzs ▸ hRg))))) (by omega) W0 hm0 0 _ rfl
    rw [List.getD_eq_getElem?_getD] at this
    rw [← this]
    congr 1
    unfold addrAt
    show _ = ((⟨g, 0, none⟩ : Addr).add j).add 0
    rw [add_at, add_at]
    simp
  have hBlt : B < W0.heap.size := cell_lt hB0
  have hglt : g < W0.heap.size := cell_lt (hg0 0 (by omega))
  have hfa : Fits 71 [] (⟨a.tmps, []⟩ : Act) ρ := ⟨hf.size, rfl, hf.get⟩
  refine wpIn_rangeFunc_ownF (F := Fence.wide) (n := 20) (P := Tryz.prog) (ps := #[61, 62]) (encs := fun x : Fin (M + 1) => #[.int .i64 (x.val : Int), .int .i64 (zs[x.val]?.getD 0)]) (α := Fin (M + 1)) (w0 := W0) (Kp := KeepTwo g B) (S := fun ys => ys = backL M (M + 1)) (Sp := fun _ => True) (N := M + 1) rfl (by omega) (gf := 171) (lb := #[.pointer (some ⟨B, 0, none⟩)]) (hf.eval (x := .tmp 60) h60) trivial (enters_of Tryz.func171 (by kernel_rfl) rfl)
    (backward_stops 19 (by omega) B g cap M zs (by omega) W0 hB0 hg0) (fun h k => h.trans k) ?hKb (Below.refl _ _) (fun _ => rfl) (fun pre W => RngI b p n c h xs ws R G w fp (pre.map (atP M PL)) W) (fun _ _ _ => False) ?hI (fun _ _ _ _ _ h _ _ => h) ⟨z0, h01, h02, hm0⟩
    (fun x => (((⟨a.tmps, []⟩ : Act).put (some 61) (.int .i64 (x.val : Int))).put (some 62) (.int .i64 (zs[x.val]?.getD 0))).put (some 6) (.int .i64 (zs[x.val]?.getD 0))) ?assign ?body ?done (fun _ _ _ _ _ _ h _ => h.elim)
  case hKb =>
    intro W l u u' hl hW _ _
    have hlt : l < W.heap.size := (Array.getElem?_eq_some_iff.1 hW).1
    have hg := grownBy_putObj' W l u'
    exact ⟨hg.block g (by omega) (by intro e; cases e; omega), hg.block B (by omega) (by intro e; cases e; omega)⟩
  case hI =>
    rintro s W W' row ⟨z, k1, k2, k3⟩ hg hr
    exact ⟨z, k1, k2, k3.put (mkS_cel hR) hg fun r e => ⟨Nat.le_trans hsz (hr r e).1, (hr r e).2⟩⟩
  case assign =>
    intro l x W K hK
    rw [foldl_two]
    change Code.wpIn _ _ _ _ _ (((⟨a.tmps, []⟩ : Act).put (some 61) (.int .i64 (x.val : Int))).put (some 62) (.int .i64 (zs[x.val]?.getD 0))) W
    refine wpIn_region_lit (l := [_]) ?_
    refine rnd_y0 (K := ⟨71, [], W, []⟩) (ρ := (62, .int .i64 (zs[x.val]?.getD 0)) :: (61, .int .i64 (x.val : Int)) :: ρ) (m := []) (by intro c h; cases h) ((hfa.put (by decide) _).put (by decide) _) (Holds.nil W []) zyi ?_
    exact wpListIn_nil hK
  case body =>
    rintro l pre x W ⟨⟨G1, zs1, o1, q1⟩, ⟨hz, hzG⟩, hg1, hW⟩ hlt
    dsimp only at hz hzG hg1 hW
    refine wpIn_block (wpIn_region_lit (l := [_, _, _]) ?_)
    rw [hat x]
    have hfx := ((hfa.put (d := 61) (by decide) (.int .i64 (x.val : Int))).put (d := 62) (by decide) (.int .i64 ((atP M PL x).2 : Int))).put (d := 6) (by decide) (.int .i64 ((atP M PL x).2 : Int))
    refine rnd_y (K := ⟨71, [], w, fp⟩) (by intro c h; cases h) (show 63 < 71 by decide) hfx hW (y_load (a := ⟨bm, 0, none⟩) (v := .pointer (some ⟨b, 0, none⟩)) h2 (rd_blk (.there (.there (.there (.there hRm)))) rfl)) fun a1 hf1 => ?_
    refine rnd_y (K := ⟨71, [], w, fp⟩) (v := .int .i64 ((atP M PL x).2 : Int)) (by intro c h; cases h) (show 64 < 71 by decide) hf1 hW zyi fun a2 hf2 => ?_
    obtain ⟨f1, ho1, hs1, hF1, hback⟩ := hW.callR
    obtain ⟨hfe, hfc⟩ := own_mkS ho1
    have hnot : ∀ i, (i = g ∨ i = B) → i ∉ f1 := fun i hi hif => by
      obtain ⟨fp0, ⟨fG, f12, rfl, hG, ho, hd⟩, _⟩ := hW.own
      obtain ⟨k1, k2, rfl, ho2, hoR, hd2⟩ := Own.split ho
      have e1 := (own_mkS ho2).1
      rw [← hfe] at e1
      refine hd2 i (e1 ▸ hif) ?_
      rcases hi with rfl | rfl
      · exact hRg.mem_fp hoR fun f h => by have := h.1; subst this; simp [blkOf]
      · exact hRB.mem_fp hoR fun f h => by have := h.1; subst this; simp
    refine rnd_call (K := ⟨71, [], w, fp⟩) (vs := [.pointer (some ⟨b, 0, none⟩), .int .i64 ((atP M PL x).2 : Int)]) rfl (show 65 < 71 by decide) hf2 (hcall (pre.map (atP M PL)) (atP M PL x) (by rw [List.length_map]; exact hlt) (fun y hy => by obtain ⟨i, _, rfl⟩ := List.mem_map.1 hy; exact hatm i) (hatm x) G1 zs1 o1 q1 W f1 (by rw [← runC_len h, ← hz, List.length_map]) hg1.1 ho1 hs1) ?_
    rintro en w' ⟨⟨G2, zs2, o2, q2⟩, ⟨hz2, hzG2⟩, rfl, hg2, hh⟩
    dsimp only at hz2 hzG2 hg2 hh
    refine ⟨_, rfl, fun a3 _ => wpListIn_nil ?_⟩
    have hk := hh.keep
    have hBlt' : B < W.heap.size := cell_lt (a := ⟨B, 0, none⟩) (cell_blk hW (.there (.there (.there (.there hRB)))) rfl)
    have hglt' : g < W.heap.size := by
      have := rd_slI (K := ⟨71, [], w, fp⟩) (i := 0) (.there (.there (.there (.there (hzs ▸ hRg))))) (by omega) W hW 0 _ rfl
      have := cell_lt this
      rwa [addr_block] at this
    refine ⟨⟨hk.size, fun k u hu hnc => ?_⟩, ⟨hk.block g hglt' (hnot g (.inl rfl)), hk.block B hBlt' (hnot B (.inr rfl))⟩, ⟨(G2, zs1 ++ zs2, o2, q2), ⟨?_, ?_⟩, ?_, ?_⟩⟩
    · cases hif : decide (k ∈ f1) with
      | true =>
        obtain ⟨u', hu', hc'⟩ := hfc k (of_decide_eq_true hif)
        rw [hu] at hu'; cases hu'
        rw [hnc] at hc'; cases hc'
      | false => rw [hk.block k (Array.getElem?_eq_some_iff.1 hu).1 (of_decide_eq_false hif)]; exact hu
    · dsimp only
      rw [List.map_append, hz, hz2, List.map_append, List.map_cons, List.map_nil]
      unfold runC
      rw [List.flatMap_append]
      simp
    · intro y hy
      rcases List.mem_append.1 hy with hy | hy
      · exact (hzG y hy).mono hg2.1
      · exact hzG2 y hy
    · exact Rd.grow_trans hW.size hg1 hg2
    · have := hback G2 _ w' hg2 hh
      dsimp only
      rw [List.map_append, List.map_cons, List.map_nil, runW_app, ← List.append_assoc xs, ← List.append_assoc ws]
      have e1 : (runC 0 (pre.map (atP M PL))).length = zs1.length := by rw [← runC_len h, ← hz, List.length_map]
      rw [e1, ← List.length_append, show runW (xs ++ zs1).length [atP M PL x] = (atP M PL x).1.waits (xs ++ zs1).length (atP M PL x).2 from List.append_nil _]
      exact this
  case done =>
    rintro D ys W hD rfl hI hDD
    rw [hf.defs]
    rw [backL_all hPL] at hI
    exact hdone D W (Nat.le_trans hsz hD) hDD hI
/-- a function that ranges over a function -/
theorem enterM {P : Program} {G : Rd} {m : List HP} {f : FuncId} {fn : Func} {c : Code} {args : List Value} {w : World} {F : List Nat} {R : Ending → World → Prop} {N : Nat} (hs : Rd.sub G F w) (hm : Own m F w) (hf : P.funcs[f]? = some fn) (hb : fn.body = some c) (hN : fn.ntmps = N) (hl : args.length ≤ N)
    (h : CW P ⟨N, [], w, F⟩ (bodyPostM Fence.wide 20 P fn R) c (argEnv 0 args) (ro w F G :: m)) : Calls P f args.toArray w R := by
  refine (callsIn_wide (n := 20)).1 (callsIn_of_wp_marks hf hb trivial (wpIn_wide.2 (h.run _ _ ⟨by simp; omega, rfl, fun n v hv => ?_⟩ (Holds.start ⟨[], F, rfl, ⟨by simp, fun a v e => .inr ⟨cell_lt (hs a v e).1, (hs a v e).2, (hs a v e).1⟩⟩, hm, by simp⟩))) rfl)
  obtain ⟨_, h2⟩ := find_argEnv _ _ _ _ hv
  have hlt : n < args.length := by simpa using (List.getElem?_eq_some_iff.1 h2).1
  rw [Array.getD_eq_getD_getElem?, Array.getElem?_append_left (by simpa using hlt)]
  simp at h2
  simp [h2]
set_option maxHeartbeats 4000000 in
set_option maxRecDepth 100000 in
theorem code_pick (m : Nat) (p : Option Addr) (c : Nat) (L : List NodM) (h400 : L.length ≤ 400) (ih : ExC m p c L) (x : Nod) (e0 : Ex) (bs : Exs) (k d b : Nat) (rest : List Nod) (h : Int) (o q : Option Addr × Nat) (xs : List InsM) (ws : List Wt) (G : Rd) (w : World) (fp : List Nat)
    (hm : (Ex.pick x e0 bs).flat.length ≤ m + 1) (hok : (Ex.pick x e0 bs).ok d) (hL : (L.drop k).map NodM.nod = (Ex.pick x e0 bs).flat ++ rest) (hR : Row nodE 7 G p c L) (hB : ∀ x ∈ L, NodG G x) (hO : Own (mkS b p L.length c h o xs q ws) fp w) (hS : Rd.sub G fp w) (hxs : Bnd xs.length (Ex.pick x e0 bs).flat.length) (hws : Bnd ws.length (Ex.pick x e0 bs).flat.length) :
    Calls Tryz.prog 26 #[.pointer (some ⟨b, 0, none⟩), .int .i64 (k : Int)] w (GotC b p c L h (.pick x e0 bs) k xs ws G w fp) := by
  have hn : ∀ x ∈ L, I64 x.n := fun x hx => (hB x hx).n
  obtain ⟨y, hx, hxn, hL1⟩ := nodsAt hL
  have hkL : k < L.length := (List.getElem?_eq_some_iff.1 hx).1
  have hle := nodsLe hL (Ex.flat_pos _)
  obtain ⟨op, aop, af, ag, n, nums, text⟩ := y
  obtain ⟨⟨h1, h2, h3⟩, h6, h4⟩ := hok
  subst hxn
  have hn0 := right_n h1
  dsimp only [NodM.nod] at h1 h2 h3 hn0
  obtain ⟨N, rfl⟩ := Int.eq_ofNat_of_zero_le hn0
  have hbN : bs.len = N := h3
  have hbl := bs.flat_len
  have hfl : (Ex.pick (NodM.nod ⟨op, aop, af, ag, (N : Int), nums, text⟩) e0 bs).flat.length = e0.flat.length + bs.flat.length + 1 := by simp [Ex.flat]
  have hel := e0.flat_pos
  rw [hfl] at hm hxs hws hle
  clear hfl hL
  obtain ⟨S, hS1⟩ : ∃ S, S = e0 :: bs.list := ⟨_, rfl⟩
  have hSl : S.length = N + 1 := by rw [hS1]; simp [Exs.list_len, hbN]
  have hSf : S.flatMap Ex.flat = e0.flat ++ bs.flat := by rw [hS1]; simp [Exs.list_flat]
  have hSok : ∀ s ∈ S, ∃ d, s.ok d := fun s hs => by
    rw [hS1] at hs
    rcases List.mem_cons.1 hs with rfl | hs
    · exact ⟨_, h6⟩
    · exact ⟨_, Exs.list_ok bs _ h4 s hs⟩
  replace hL1 : (L.drop (k + 1)).map NodM.nod = S.flatMap Ex.flat ++ rest := by rw [hSf]; exact hL1
  have hSfl : (S.flatMap Ex.flat).length = e0.flat.length + bs.flat.length := by rw [hSf, List.length_append]
  refine enterM (G := G) (args := [_, _]) hS hO Tryz.func26 rfl Tryz.ntmps26 (by simp) ?_
  clear hS hO
  obtain ⟨hh2, _⟩ : ∃ _ : Unit → op = 8, True := ⟨fun _ => h2, trivial⟩
  clear h2
  (repeat' (first|refine zza ?_|refine zc9 ?_|refine zzb fun w hw => ?_|refine zzh fun _ => ?_|refine zzi fun _ _ => ?_))
  refine WL_box1 rfl rfl rfl fun bm => ?_
  (repeat' (first|refine zza ?_|refine zc9 ?_|refine zzb fun w hw => ?_|refine zzh fun _ => ?_|refine zzi fun _ _ => ?_))
  rename_i b4
  refine CW_ent (m' := [ro w fp G, mkr b p L.length c (o.1, xs.length, o.2) (q.1, ws.length, q.2) h, outS (o.1, xs.length, o.2) xs, queS q ws, blk b4 44 #[.int .i64 op, .int .i64 aop, .int .i64 af, .int .i64 ag, .int .i64 (N : Int), .slice nums.p nums.xs.length nums.c, .string ⟨text.toArray⟩], blk bm 77 #[.pointer (some ⟨b, 0, none⟩)]]) (Ent.cons zpk (Ent.cons zpk (Ent.cons zpk (Ent.cons zpk (Ent.consK (k := Ent.cons .here Ent.nil) .here))))) ?_
  have h2 := hh2 ()
  clear hh2
  subst h2
  (repeat' (first|refine zza ?_|refine zc9 ?_|refine zzb fun w hw => ?_|refine zzh fun _ => ?_|refine zzi fun _ _ => ?_|refine zv1 ?_|refine zv2 ?_|refine zzj (fun _ => ?_) fun _ => ?_))
  rw [show (k : Int) + 1 = ((k + 1 : Nat) : Int) from rfl, show ((N : Int) + 1) = (S.length : Int) by omega]
  (apply WL_callX; rfl; rfl; rfl; (intro W hW; exact code_parts p c L h400 hn S (k + 1) b rest W hSok hL1 (cell_blk hW (.there .here) rfl) (hR.mono (hW.le .here))); intro _ _)
  rename_i zp _
  (repeat' (first|refine zza ?_|refine zc9 ?_|refine zzb fun w hw => ?_|refine zzh fun _ => ?_|refine zzi fun _ _ => ?_|refine zv1 ?_|refine zv2 ?_|refine zzj (fun _ => ?_) fun _ => ?_))
  (apply WL_callX; rfl; rfl; rfl; (intro W hW; exact code_backward zp.1 S.length zp.2 W); intro _ _)
  rename_i B _
  (repeat' (first|refine zza ?_|refine zc9 ?_|refine zzb fun w hw => ?_|refine zzh fun _ => ?_|refine zzi fun _ _ => ?_|refine zv1 ?_|refine zv2 ?_|refine zzj (fun _ => ?_) fun _ => ?_))
  obtain ⟨PL, hPL⟩ : ∃ PL, PL = posP (k + 1) S := ⟨_, rfl⟩
  have hPLl : PL.length = N + 1 := by rw [hPL, posP_len, hSl]
  rw [posP_I, ← hPL, hSl]
  have hc400 : N + 1 ≤ 400 := by omega
  have hcall : ∀ (C : List (Ex × Nat)) (x : Ex × Nat), C.length < N + 1 → (∀ y ∈ C, y ∈ PL) → x ∈ PL → ∀ (G1 : Rd) (zs : List InsM) (o q : Option Addr × Nat) (W : World) (f1 : List Nat), zs.length = (runC 0 C).length → Rd.le G G1 → Own (mkS b p L.length c h o (xs ++ zs) q (ws ++ runW xs.length C)) f1 W → Rd.sub G1 f1 W →
      Calls Tryz.prog 26 #[.pointer (some ⟨b, 0, none⟩), .int .i64 (x.2 : Int)] W (GotC b p c L h x.1 x.2 (xs ++ zs) (ws ++ runW xs.length C) G1 W f1) := by
    intro C x hC hCm hx G1 zs o q W f1 hzl hle1 ho hs
    have hmem : ∀ y ∈ PL, ∃ i e, S[i]? = some e ∧ y = (e, endL (k + 1) (S.take i)) := fun y hy => by
      obtain ⟨i, hi⟩ := List.mem_iff_getElem?.1 hy
      have hil : i < S.length := by rw [hSl, ← hPLl]; exact (List.getElem?_eq_some_iff.1 hi).1
      have h1 : S[i]? = some S[i] := by simp [hil]
      have h2 := posP_get S (k + 1) i _ h1
      rw [← hPL, hi] at h2
      exact ⟨i, _, h1, by injection h2⟩
    obtain ⟨i, e, hSe, rfl⟩ := hmem x hx
    have hse := List.mem_of_getElem? hSe
    obtain ⟨d', hd'⟩ := hSok _ hse
    have hf2 := flat_le2 hse
    have hfC : ∀ y ∈ C, y.1.flat.length ≤ 400 := fun y hy => by
      obtain ⟨j, e', hj, rfl⟩ := hmem y (hCm y hy)
      have := flat_le (List.mem_of_getElem? hj)
      dsimp only; omega
    obtain ⟨r1, r2⟩ := runs_le hfC xs.length
    have hCN : C.length * 400 ≤ N * 400 := Nat.mul_le_mul_right _ (by omega)
    have b1 := hxs.h
    have b2 := hws.h
    exact ih e (endL (k + 1) (S.take i)) d' b _ h o q (xs ++ zs) (ws ++ runW xs.length C) G1 W f1 (by omega) hd' (nodsSub hL1 hSe) (hR.mono hle1) (fun x hx => (hB x hx).mono hle1) ho hs ⟨by rw [List.length_append]; omega⟩ ⟨by rw [List.length_append]; omega⟩
  refine ⟨fun a W0 hf hm0 => ?_⟩
  rw [← wpIn_wide (n := 20)]
  obtain ⟨zp1, zp2⟩ := zp
  dsimp only at hf hm0
  obtain ⟨g, rfl⟩ : ∃ g, zp1 = some ⟨g, 0, none⟩ := by
    rcases (hm0.slR zpk).2 with ⟨hv, h0⟩ | ⟨g, cap, cur, hv, _⟩
    · omega
    · simp only [Value.slice.injEq] at hv; exact ⟨g, hv.1⟩
  have hcel : ∀ x ∈ [blk B 42 #[.slice (some ⟨g, 0, none⟩) (N + 1) zp2], sl 3 1 (some ⟨g, 0, none⟩) (N + 1) zp2 ((PL.map fun x => (x.2 : Int)).map (Value.int .i64)), blk b4 44 #[.int .i64 8, .int .i64 aop, .int .i64 af, .int .i64 ag, .int .i64 (N : Int), .slice nums.p nums.xs.length nums.c, .string ⟨text.toArray⟩], blk bm 77 #[.pointer (some ⟨b, 0, none⟩)]], Cel x := fun x hx => by
    simp only [List.mem_cons, List.not_mem_nil, or_false] at hx
    rcases hx with rfl | rfl | rfl | rfl
    · exact cel_blk _ _ _
    · exact cel_sl _ _ _ _ _ _
    · exact cel_blk _ _ _
    · exact cel_blk _ _ _
  refine code_range N PL hPLl hc400 p L.length c b B g zp2 bm h xs ws _ _ _ _ hcel .here (.there .here) (.there (.there (.there .here))) G w fp hcall _ a W0 _ hf rfl rfl ⟨(G, [], o, q), ⟨rfl, by simp⟩, Rd.grow_refl _ _, hm0.ent ?_⟩ ?_
  · simp only [List.append_nil, runW]
    exact zent
  have hf1 : Fits 71 [] a [(2, .pointer (some ⟨bm, 0, none⟩)), (4, .pointer (some ⟨b4, 0, none⟩))] := hf.cov zcov
  rintro D W hD hDD ⟨⟨G1, zs, o1, q1⟩, ⟨hz, hzG⟩, hg1, hW⟩
  dsimp only at hz hzG hg1 hW
  have hPr : PL.reverse = (posP (k + 1 + e0.flat.length) bs.list).reverse ++ [(e0, k + 1)] := by rw [hPL, hS1]; simp [posP]
  have hlz : zs.length = (bs.codeR 0).length + (e0.code 0).length := by
    have := congrArg List.length hz
    rw [List.length_map, runC_len, hPr] at this
    rw [this, Exs.codeR_run 0 bs (k + 1 + e0.flat.length)]
    simp [runC]
  have hcode : (zs ++ [(⟨8, 0, 0, 0, (N : Int), 0, ⟨none, 0, []⟩, []⟩ : InsM)]).map InsM.ins = (Ex.pick (NodM.nod ⟨8, aop, af, ag, (N : Int), nums, text⟩) e0 bs).code h := by
    rw [List.map_append, hz, hPr]
    show _ = bs.codeR h ++ (e0.code h ++ [pickI (N : Int)])
    rw [Exs.codeR_run h bs (k + 1 + e0.flat.length), ← List.append_assoc]
    unfold runC
    rw [List.flatMap_append]
    simp [pickI, InsM.ins]
  obtain ⟨wq, hwq⟩ : ∃ wq, wq = ws ++ runW xs.length PL.reverse := ⟨_, rfl⟩
  have hwt : ws ++ (Ex.pick (NodM.nod ⟨8, aop, af, ag, (N : Int), nums, text⟩) e0 bs).waits xs.length k = wq := by
    rw [hwq, hPr, runW_app, ← Exs.waitsR_run, ← Exs.codeR_run]
    show ws ++ (bs.waitsR xs.length (k + 1 + e0.flat.length) ++ e0.waits (xs.length + (bs.codeR 0).length) (k + 1)) = _
    rw [show runW (xs.length + (bs.codeR 0).length) [(e0, k + 1)] = e0.waits (xs.length + (bs.codeR 0).length) (k + 1) from List.append_nil _]
  have hbc := bs.codeR_le
  have hec := e0.code_le
  have hb1 := hxs.h
  have hxz : (xs ++ zs).length ≤ 1000000000 := by rw [List.length_append]; omega
  rw [← hwq] at hW
  obtain ⟨fpC, hown, hcl, hth⟩ := hW.allC (mkS_cel hcel)
  have hDn : D ∉ fpC := fun hm => by
    obtain ⟨u, hu, hc⟩ := hcl D hm
    rw [hDD] at hu; cases hu; cases hc
  have hDlt : D < W.heap.size := (Array.getElem?_eq_some_iff.1 hDD).1
  have hstay : ∀ {m : List HP} {w' : World}, Holds W fpC m w' → w'.heap[D]? = some (.deferred (some [])) := fun hh => (hh.keep.block D hDlt hDn).trans hDD
  clear hb1 hxs hws hcall hPL hPLl hPr hL1 hm0 hf hle hm hec hbc hlz
  refine (CW.run (P := Tryz.prog) (K := ⟨71, [⟨.collected D, #[]⟩], W, fpC⟩) (ρ := [(2, .pointer (some ⟨bm, 0, none⟩)), (4, .pointer (some ⟨b4, 0, none⟩))]) ?_) _ _ ⟨hf1.size, rfl, hf1.get⟩ (Holds.start hown).addRo
  refine CW_ent (m' := [ro W fpC (fun _ => none), mkr b p L.length c (o1.1, (xs ++ zs).length, o1.2) (q1.1, wq.length, q1.2) h, outS (o1.1, (xs ++ zs).length, o1.2) (xs ++ zs), queS q1 wq, blk b4 44 #[.int .i64 8, .int .i64 aop, .int .i64 af, .int .i64 ag, .int .i64 (N : Int), .slice nums.p nums.xs.length nums.c, .string ⟨text.toArray⟩], blk bm 77 #[.pointer (some ⟨b, 0, none⟩)], ro w fp G1]) (Ent.cons .here (Ent.cons (.there .here) (Ent.cons (.there .here) (Ent.cons (.there .here) (Ent.cons (.there (.there (.there .here))) (Ent.cons (.there (.there (.there .here))) (Ent.cons .here Ent.nil))))))) ?_
  (repeat' (first|refine zza ?_|refine zc9 ?_|refine zzb fun w hw => ?_|refine zzh fun _ => ?_|refine zzi fun _ _ => ?_|refine zv1 ?_|refine zv2 ?_|refine zzj (fun _ => ?_) fun _ => ?_))
  refine WL_callUX (m1 := [mkr b p L.length c (o1.1, (xs ++ zs).length, o1.2) (q1.1, wq.length, q1.2) h, outS (o1.1, (xs ++ zs).length, o1.2) (xs ++ zs)]) (r := [ro w fp G1, queS q1 wq, blk b4 44 #[.int .i64 8, .int .i64 aop, .int .i64 af, .int .i64 ag, .int .i64 (N : Int), .slice nums.p nums.xs.length nums.c, .string ⟨text.toArray⟩], blk bm 77 #[.pointer (some ⟨b, 0, none⟩)]]) zent rfl rfl rfl (fun W fp' hO hS => code_put _ b p L.length c o1 (q1.1, wq.length, q1.2) h (xs ++ zs) ⟨8, 0, 0, 0, (N : Int), 0, ⟨none, 0, []⟩, []⟩ W fp' hO hS hxz) ?_
  rintro z _
  (repeat' (first|refine zza ?_|refine zc9 ?_|refine zzb fun w hw => ?_|refine zzh fun _ => ?_|refine zzi fun _ _ => ?_|refine zv1 ?_|refine zv2 ?_|refine zzj (fun _ => ?_) fun _ => ?_))
  refine EX_endM (K := ⟨71, [⟨.collected D, #[]⟩], W, fpC⟩) rfl rfl (fun w' hh => hstay hh) fun w' hh => ?_
  have h2 := (hth _ w' hh).ent (m' := ro w fp G1 :: mkS b p L.length c h z (xs ++ zs ++ [(⟨8, 0, 0, 0, (N : Int), 0, ⟨none, 0, []⟩, []⟩ : InsM)]) q1 wq) (by exact zent)
  refine ⟨(G1, zs ++ [⟨8, 0, 0, 0, (N : Int), 0, ⟨none, 0, []⟩, []⟩], z, q1), ⟨hcode, fun y hy => ?_⟩, rfl, hg1, ?_⟩
  · rcases List.mem_append.1 hy with hy | hy
    · exact hzG y hy
    · rw [List.mem_singleton.1 hy]; exact ⟨by simp, Row.nil _ _ _, by simp⟩
  · dsimp only
    rw [hwt, ← List.append_assoc xs zs]
    exact h2.put (fun x hx => mkS_cel (b := b) (p := p) (n := L.length) (c := c) (h := h) (o := z) (xs := xs ++ zs ++ [(⟨8, 0, 0, 0, (N : Int), 0, ⟨none, 0, []⟩, []⟩ : InsM)]) (q := q1) (ws := wq) (R := []) (w0 := w) (F := fp) (G := G1) (by simp) x (by rw [List.append_nil]; exact hx)) (grownBy_putObj' w' D _) fun r e => by cases e; exact ⟨hD, _, hstay hh, rfl⟩
end Go.Proofs.YtngeooflfkpikaaGreatDoor
namespace Go.Proofs.YtngeooflfkpikaaGreatDoor
open Go.RowKit
set_option maxHeartbeats 4000000 in
set_option maxRecDepth 100000 in
theorem code_expr_one (m : Nat) (p : Option Addr) (c : Nat) (L : List NodM) (h400 : L.length ≤ 400) (ih : ExC m p c L) (x : Nod) (bs : Exs) (r : Ex) (k d b : Nat) (rest : List Nod) (h : Int) (o q : Option Addr × Nat) (xs : List InsM) (ws : List Wt) (G : Rd) (w : World) (fp : List Nat)
    (hm : (Ex.one x bs r).flat.length ≤ m + 1) (hok : (Ex.one x bs r).ok d) (hL : (L.drop k).map NodM.nod = (Ex.one x bs r).flat ++ rest) (hR : Row nodE 7 G p c L) (hB : ∀ x ∈ L, NodG G x) (hO : Own (mkS b p L.length c h o xs q ws) fp w) (hS : Rd.sub G fp w) (hxs : Bnd xs.length (Ex.one x bs r).flat.length) (hws : Bnd ws.length (Ex.one x bs r).flat.length) :
    Calls Tryz.prog 26 #[.pointer (some ⟨b, 0, none⟩), .int .i64 (k : Int)] w (GotC b p c L h (Ex.one x bs r) k xs ws G w fp) := by
  have hact := fun (W : World) (f1 : List Nat) (hO : Own (mkS b p L.length c h o xs q ws) f1 W) (hS : Rd.sub G f1 W) => code_one m p c L h400 ih x bs r k d b rest h o q xs ws G W f1 hm hok hL hR hB hO hS hxs hws
  obtain ⟨y, hx, hxn, hL1⟩ := nodsAt hL
  have hkL : k < L.length := (List.getElem?_eq_some_iff.1 hx).1
  obtain ⟨op, aop, af, ag, n, nums, text⟩ := y
  obtain ⟨⟨h1, h2, _⟩, _⟩ := hok
  rw [← hxn] at h2
  obtain ⟨hh2, _⟩ : ∃ _ : Unit → op = 6, True := ⟨fun _ => h2, trivial⟩
  refine enterR (G := G) (args := [_, _]) hS hO Tryz.func26 rfl Tryz.ntmps26 (by simp) ?_
  clear hL hL1 hS hO hm hxs hws h2 hxn
  (repeat' (first|refine zza ?_|refine zc9 ?_|refine zzb fun w hw => ?_|refine zzh fun _ => ?_|refine zzi fun _ _ => ?_))
  refine WL_box1 rfl rfl rfl fun bm => ?_
  (repeat' (first|refine zza ?_|refine zc9 ?_|refine zzb fun w hw => ?_|refine zzh fun _ => ?_|refine zzi fun _ _ => ?_))
  rename_i b4
  refine CW_ent (m' := [ro w fp G, mkr b p L.length c (o.1, xs.length, o.2) (q.1, ws.length, q.2) h, outS (o.1, xs.length, o.2) xs, queS q ws, blk b4 44 #[.int .i64 op, .int .i64 aop, .int .i64 af, .int .i64 ag, .int .i64 n, .slice nums.p nums.xs.length nums.c, .string ⟨text.toArray⟩], blk bm 77 #[.pointer (some ⟨b, 0, none⟩)]]) (Ent.cons zpk (Ent.cons zpk (Ent.cons zpk (Ent.cons zpk (Ent.consK (k := Ent.cons .here Ent.nil) .here))))) ?_
  have h2 := hh2 ()
  clear hh2
  subst h2
  (repeat' (first|refine zza ?_|refine zc9 ?_|refine zzb fun w hw => ?_|refine zzh fun _ => ?_|refine zzi fun _ _ => ?_|refine zv1 ?_|refine zv2 ?_|refine zzj (fun _ => ?_) fun _ => ?_))
  refine WL_callG (m1 := mkS b p L.length c h o xs q ws) (r := [blk b4 44 #[.int .i64 6, .int .i64 aop, .int .i64 af, .int .i64 ag, .int .i64 n, .slice nums.p nums.xs.length nums.c, .string ⟨text.toArray⟩], blk bm 77 #[.pointer (some ⟨b, 0, none⟩)]]) (X := Rd × List InsM × (Option Addr × Nat) × (Option Addr × Nat)) (V := fun _ => .tuple #[]) (Gx := fun z => z.1) (M := fun z => mkS b p L.length c h z.2.2.1 (xs ++ z.2.1) z.2.2.2 (ws ++ (Ex.one x bs r).waits xs.length k)) (I := fun z => z.2.1.map InsM.ins = (Ex.one x bs r).code h ∧ ∀ x ∈ z.2.1, InsG z.1 x) zent rfl rfl rfl (fun W fp' hW hO hS hF => hact W fp' hO hS) ?_
  rintro ⟨G1, zs, o1, q1⟩ ⟨hz, hzG⟩ hgr
  dsimp only at hz hzG hgr ⊢
  (repeat' (first|refine zza ?_|refine zc9 ?_|refine zzb fun w hw => ?_|refine zzh fun _ => ?_|refine zzi fun _ _ => ?_|refine zv1 ?_|refine zv2 ?_|refine zzj (fun _ => ?_) fun _ => ?_))
  exact ⟨(G1, zs, o1, q1), ⟨hz, hzG⟩, rfl, hgr, hw.ent zent⟩
set_option maxHeartbeats 4000000 in
set_option maxRecDepth 100000 in
theorem code_expr_two (m : Nat) (p : Option Addr) (c : Nat) (L : List NodM) (h400 : L.length ≤ 400) (ih : ExC m p c L) (x : Nod) (l : Ex) (bs : Exs) (r : Ex) (k d b : Nat) (rest : List Nod) (h : Int) (o q : Option Addr × Nat) (xs : List InsM) (ws : List Wt) (G : Rd) (w : World) (fp : List Nat)
    (hm : (Ex.two x l bs r).flat.length ≤ m + 1) (hok : (Ex.two x l bs r).ok d) (hL : (L.drop k).map NodM.nod = (Ex.two x l bs r).flat ++ rest) (hR : Row nodE 7 G p c L) (hB : ∀ x ∈ L, NodG G x) (hO : Own (mkS b p L.length c h o xs q ws) fp w) (hS : Rd.sub G fp w) (hxs : Bnd xs.length (Ex.two x l bs r).flat.length) (hws : Bnd ws.length (Ex.two x l bs r).flat.length) :
    Calls Tryz.prog 26 #[.pointer (some ⟨b, 0, none⟩), .int .i64 (k : Int)] w (GotC b p c L h (Ex.two x l bs r) k xs ws G w fp) := by
  have hact := fun (W : World) (f1 : List Nat) (hO : Own (mkS b p L.length c h o xs q ws) f1 W) (hS : Rd.sub G f1 W) => code_two m p c L h400 ih x l bs r k d b rest h o q xs ws G W f1 hm hok hL hR hB hO hS hxs hws
  obtain ⟨y, hx, hxn, hL1⟩ := nodsAt hL
  have hkL : k < L.length := (List.getElem?_eq_some_iff.1 hx).1
  obtain ⟨op, aop, af, ag, n, nums, text⟩ := y
  obtain ⟨⟨h1, h2, _⟩, _⟩ := hok
  rw [← hxn] at h2
  obtain ⟨hh2, _⟩ : ∃ _ : Unit → op = 7, True := ⟨fun _ => h2, trivial⟩
  refine enterR (G := G) (args := [_, _]) hS hO Tryz.func26 rfl Tryz.ntmps26 (by simp) ?_
  clear hL hL1 hS hO hm hxs hws h2 hxn
  (repeat' (first|refine zza ?_|refine zc9 ?_|refine zzb fun w hw => ?_|refine zzh fun _ => ?_|refine zzi fun _ _ => ?_))
  refine WL_box1 rfl rfl rfl fun bm => ?_
  (repeat' (first|refine zza ?_|refine zc9 ?_|refine zzb fun w hw => ?_|refine zzh fun _ => ?_|refine zzi fun _ _ => ?_))
  rename_i b4
  refine CW_ent (m' := [ro w fp G, mkr b p L.length c (o.1, xs.length, o.2) (q.1, ws.length, q.2) h, outS (o.1, xs.length, o.2) xs, queS q ws, blk b4 44 #[.int .i64 op, .int .i64 aop, .int .i64 af, .int .i64 ag, .int .i64 n, .slice nums.p nums.xs.length nums.c, .string ⟨text.toArray⟩], blk bm 77 #[.pointer (some ⟨b, 0, none⟩)]]) (Ent.cons zpk (Ent.cons zpk (Ent.cons zpk (Ent.cons zpk (Ent.consK (k := Ent.cons .here Ent.nil) .here))))) ?_
  have h2 := hh2 ()
  clear hh2
  subst h2
  (repeat' (first|refine zza ?_|refine zc9 ?_|refine zzb fun w hw => ?_|refine zzh fun _ => ?_|refine zzi fun _ _ => ?_|refine zv1 ?_|refine zv2 ?_|refine zzj (fun _ => ?_) fun _ => ?_))
  refine WL_callG (m1 := mkS b p L.length c h o xs q ws) (r := [blk b4 44 #[.int .i64 7, .int .i64 aop, .int .i64 af, .int .i64 ag, .int .i64 n, .slice nums.p nums.xs.length nums.c, .string ⟨text.toArray⟩], blk bm 77 #[.pointer (some ⟨b, 0, none⟩)]]) (X := Rd × List InsM × (Option Addr × Nat) × (Option Addr × Nat)) (V := fun _ => .tuple #[]) (Gx := fun z => z.1) (M := fun z => mkS b p L.length c h z.2.2.1 (xs ++ z.2.1) z.2.2.2 (ws ++ (Ex.two x l bs r).waits xs.length k)) (I := fun z => z.2.1.map InsM.ins = (Ex.two x l bs r).code h ∧ ∀ x ∈ z.2.1, InsG z.1 x) zent rfl rfl rfl (fun W fp' hW hO hS hF => hact W fp' hO hS) ?_
  rintro ⟨G1, zs, o1, q1⟩ ⟨hz, hzG⟩ hgr
  dsimp only at hz hzG hgr ⊢
  (repeat' (first|refine zza ?_|refine zc9 ?_|refine zzb fun w hw => ?_|refine zzh fun _ => ?_|refine zzi fun _ _ => ?_|refine zv1 ?_|refine zv2 ?_|refine zzj (fun _ => ?_) fun _ => ?_))
  exact ⟨(G1, zs, o1, q1), ⟨hz, hzG⟩, rfl, hgr, hw.ent zent⟩
theorem code_expression (p : Option Addr) (c : Nat) (L : List NodM) (h400 : L.length ≤ 400) : ∀ m, ExC m p c L := by
  intro m
  induction m with
  | zero => intro e k d b rest h o q xs ws G w fp hm; have := e.flat_pos; omega
  | succ m ih =>
    intro e k d b rest h o q xs ws G w fp hm hok hL hR hB hO hS hxs hws
    cases e with
    | leaf x => exact code_leaf p c L x k d b rest h o q xs ws G w fp hok hL hR hB hO hS (by have := hxs.h; omega)
    | one x bs r => exact code_expr_one m p c L h400 ih x bs r k d b rest h o q xs ws G w fp hm hok hL hR hB hO hS hxs hws
    | two x l bs r => exact code_expr_two m p c L h400 ih x l bs r k d b rest h o q xs ws G w fp hm hok hL hR hB hO hS hxs hws
    | pick x e0 bs => exact code_pick m p c L h400 ih x e0 bs k d b rest h o q xs ws G w fp hm hok hL hR hB hO hS hxs hws
end Go.Proofs.YtngeooflfkpikaaGreatDoor
