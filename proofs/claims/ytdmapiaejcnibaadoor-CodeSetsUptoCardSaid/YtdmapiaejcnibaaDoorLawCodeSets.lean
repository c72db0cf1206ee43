/-
  The law CodeSets.
-/
import Derived.Test.YtdmapiaejcnibaaDoorGo
import Derived.Test.YtdmapiaejcnibaaDoorCode9
import Derived.Test.YtdmapiaejcnibaaDoorLaidN
import Derived.Test.YtdmapiaejcnibaaDoorSameCode
namespace Go.Proofs.YtdmapiaejcnibaaDoor
open Go.RowKit

/-- a line of one name -/
theorem var_right : rightN ⟨3, 0, 0, 0, 0, [], [97]⟩ = true := by decide
theorem var_tree : treeG [⟨3, 0, 0, 0, 0, [], [97]⟩] = some (none, .leaf ⟨3, 0, 0, 0, 0, [], [97]⟩) := by
  rw [treeG_cons, if_neg (by simp), exF_cons, if_neg (by rw [var_right]; simp), if_pos (.inr (.inr rfl))]
theorem var_fault : treeF [⟨3, 0, 0, 0, 0, [], [97]⟩] = 0 := by
  unfold treeF
  rw [if_neg (by simp), var_tree]; rfl
theorem two_of' {α : Type} {l : List α} (h : l.length = 2) : ∃ a b, l = [a, b] := by
  match l, h with
  | [a, b], _ => exact ⟨a, b, rfl⟩
/-- `s[1:]` of a slice that is longer -/
theorem y_lo1 {P : Program} {K : Cx} {ρ : Env} {m : List HP} {dst : Option Nat} {ty t e : TypeId} {pos : String} {aft : Array Edge} {g : Option (Nat × Bool)} {x y : Operand} {a : Addr} {n c z : Nat} [S : SlT P t e z] {k : IntKind} (hx : opv ρ x = some (.slice (some a) n c)) (hy : opv ρ y = some (.int k 1)) (_hn : 2 ≤ n) (hc : n ≤ c) :
    Yi P K ρ m ⟨dst, .slice t x (some y) none none, ty, pos, aft, g⟩ (.slice (some (a.add z)) (n - 1) (c - 1)) := ⟨fun A w hf _ => by
  have he : P.elem t = e := by simp [Program.elem, S.und]
  have ht' : P.underlying t = some (.slice (P.elem t)) := by rw [he]; exact S.und
  have h4 : (Instr.sliceAt t (.slice (some a) n c) (some (.int k 1)) none none).run P w = .ok (.slice (some (a.add z)) (n - 1) (c - 1)) w := by
    rw [run_sliceAt_slice (w := w) t _ _ _ _ ht', run_slice_l (w := w) t (some a) n c ht' k 1 (by omega) (by omega), he, S.size w]
    simp [Result.andThen, sliced]
    omega
  simp only [execOp, Option.map_some, Option.map_none, hf.eval hx, hf.eval hy]
  simp [h4]⟩
theorem Row.drop1 {α : Type} {enc : α → List Value} {z : Nat} {G : Rd} {a : Addr} {c : Nat} {xs : List α} (h : Row enc z G (some a) c xs) (_hn : 1 ≤ xs.length) : Row enc z G (some (a.add z)) (c - 1) (xs.drop 1) := ⟨by have := h.le; simp; omega, by have := h.max; omega, fun _ => rfl, fun i x hx j v hv => by
  rw [List.getElem?_drop] at hx
  have := h.cell (1 + i) x hx j v hv
  rw [← this]
  congr 2
  unfold addrAt
  show (a.add z).add (i * z) = a.add ((1 + i) * z)
  rw [Go.Deep.add_add]
  congr 1
  rw [Nat.add_mul, Nat.one_mul]⟩
/-- a line that gives a name, without its name -/
theorem tree_tail {n : Nod} {r : List Nod} {t : Option Nod × Ex} (h : treeG (n :: r) = some t) (h9 : n.op = 9) (hl : r.length ≤ 400) : startL t = 1 ∧ 1 ≤ r.length ∧ treeG r = some (none, t.2) ∧ treeF r = 0 := by
  obtain ⟨n', r', hnr, hok, _, hcase⟩ := treeG_some h
  injection hnr with e1 e2
  subst e1 e2
  rcases hcase with ⟨h1, _, _, hr⟩ | ⟨_, h2, _⟩
  · have hp := t.2.flat_pos
    have hnb := Ex.nodB (B := r.length) t.2 0 hok (by rw [← hr]; exact Nat.le_refl _)
    have hg : treeG r = some (none, t.2) := by
      cases hr' : r with
      | nil => rw [← hr, hr'] at hp; simp at hp
      | cons y r' =>
        have hy : y.op ≠ 9 := (hnb y (by rw [← hr, hr']; exact List.mem_cons_self ..)).1
        rw [treeG_cons, if_neg (by simp [hy]), (exF_iff (d := 0) (l := y :: r') (r := []) (e := t.2)).2 ⟨hok, by rw [List.append_nil, ← hr, hr']⟩]
    refine ⟨by simp [startL, h1], by rw [hr]; omega, hg, ?_⟩
    unfold treeF
    rw [if_neg (by omega), hg]; rfl
  · exact absurd h9 h2
set_option maxHeartbeats 8000000 in
set_option maxRecDepth 100000 in
theorem law_CodeSets (p : Option Addr) (c : Nat) (L : List NodM) (u0 : World) (hR : Row nodE 7 u0.cell? p c L) (hB : ∀ x ∈ L, NodG u0.cell? x) (hG : GlobA u0) :
    Calls Tryd.prog 5 #[.slice p L.length c] u0 fun e w' => e = .returned (.bool true) ∧ Below u0.heap.size u0 w' := by
  have hLl := hR.len
  refine enterR (G := u0.cell?) (args := [_]) (m := []) (F := []) (Rd.sub_cell u0) rfl Tryd.func5 rfl Tryd.ntmps5 (by simp) ?_
  (repeat' (first|refine zza ?_|refine zc9 ?_|refine zzb fun w hw => ?_|refine zzh fun _ => ?_|refine zzi fun _ _ => ?_|refine zzj (fun _ => ?_) fun _ => ?_))
  rename_i b2
  refine WL_ent (m' := [blk b2 35 (nodE ⟨3, 0, 0, 0, 0, ⟨none, 0, []⟩, [97]⟩).toArray, ro u0 [] u0.cell?]) (Ent.consK (k := Ent.cons .here Ent.nil) .here) ?_
  refine WL_callA (X := Int × List InsM × Option Addr × Nat) (V := fun z => .tuple #[.slice z.2.2.1 z.2.1.length z.2.2.2, errV 51 z.1]) (Φ := fun z G => CompA [⟨3, 0, 0, 0, 0, ⟨none, 0, []⟩, [97]⟩] z G ∧ Rd.le u0.cell? G) rfl rfl rfl rfl (fun W hW => (comp_law (some ⟨b2, 0, none⟩) 1 [⟨3, 0, 0, 0, 0, ⟨none, 0, []⟩, [97]⟩] W (row_blk (enc := nodE) (xs := [⟨3, 0, 0, 0, 0, ⟨none, 0, []⟩, [97]⟩]) hW .here (fun _ => rfl) (by simp)) (fun x hx => by
    rw [List.mem_singleton.1 hx]
    exact ⟨by simp, Row.nil _ _ _, by simp, by simp [I64], by simp [I64], by simp [I64], by simp [I64], by simp [I64], by simp [I64]⟩) (hG.below hW.below)).mono fun e w' ⟨z, h1, h2, h3, h4⟩ => ⟨z, h1, h2, h3, fun a v e => h4 a v (hW.rd (.there .here) e)⟩) ?_
  rintro ⟨x1, c1, q1, k1⟩ G1 ⟨hA1, hle1⟩
  obtain ⟨hx1, hA1⟩ := hA1
  dsimp only at hx1 hA1
  rw [show ([⟨3, 0, 0, 0, 0, ⟨none, 0, []⟩, [97]⟩] : List NodM).map NodM.nod = [⟨3, 0, 0, 0, 0, [], [97]⟩] from rfl] at hx1 hA1
  rw [var_fault] at hx1
  subst hx1
  obtain ⟨t1, ht1, _, hc1, _, hrow1⟩ := hA1 rfl
  rw [var_tree] at ht1
  injection ht1 with ht1
  subst ht1
  replace hc1 : c1.map InsM.ins = [⟨3, 0, 0, 0, 0, 0, [], [97]⟩, retI] := hc1
  obtain ⟨xa, xb, rfl⟩ := two_of' (show c1.length = 2 by have := congrArg List.length hc1; simpa using this)
  obtain ⟨hxo, hxt⟩ : xa.op = 3 ∧ xa.text = [97] := by
    simp only [List.map_cons, List.map_nil, List.cons.injEq] at hc1
    exact ⟨congrArg Ins.op hc1.1, congrArg Ins.text hc1.1⟩
  have hx0 : ([xa, xb] : List InsM)[0]? = some xa := rfl
  clear hc1 hA1
  dsimp only
  rw [errV_zero, show ([xa, xb] : List InsM).length = 2 from rfl]
  have h2 : 0 < ([xa, xb] : List InsM).length := by simp
  by_cases hL0 : L.length = 0
  · (repeat' (first|refine zza ?_|refine zc9 ?_|refine zzb fun w hw => ?_|refine zzh fun _ => ?_|refine zzi fun _ _ => ?_|refine zzj (fun _ => ?_) fun _ => ?_))
    exact ⟨rfl, hw.below⟩
  have hL1 : 0 < L.length := by omega
  obtain ⟨n0, hn0⟩ : ∃ x, L[0]? = some x := ⟨L[0], by simp [hL1]⟩
  have hRG := hR.mono hle1
  by_cases h9 : n0.op = 9
  · (repeat' (first|refine zza ?_|refine zc9 ?_|refine zzb fun w hw => ?_|refine zzh fun _ => ?_|refine zzi fun _ _ => ?_|refine zzj (fun _ => ?_) fun _ => ?_))
    refine WL_callA (X := Int × List InsM × Option Addr × Nat) (V := fun z => .tuple #[.slice z.2.2.1 z.2.1.length z.2.2.2, errV 51 z.1]) (Φ := fun z G => CompA L z G ∧ Rd.le u0.cell? G) rfl rfl rfl rfl (fun W hW => (comp_law p c L W (hRG.mono (hW.le .here)) (fun x hx => (hB x hx).mono (Rd.le_trans hle1 (hW.le .here))) (hG.below hW.below)).mono fun e w' ⟨z, h1, h2, h3, h4⟩ => ⟨z, h1, h2, h3, fun a v e => h4 a v (hW.rd .here (hle1 a v e))⟩) ?_
    clear hle1 hrow1 hxo hxt hx0 h2 hRG
    rintro ⟨xx, cc, qq, kk⟩ G2 ⟨⟨hxx, hA2⟩, hle2⟩
    dsimp only at hxx hA2 ⊢
    by_cases hx0 : xx = 0
    · subst hx0
      rw [errV_zero]
      obtain ⟨t, ht, hL4, hcm, hcG, hrow⟩ := hA2 rfl
      clear hA2 hxx
      have hRG := hR.mono hle2
      obtain ⟨l0, lr, hLc⟩ : ∃ a b, L = a :: b := by
        cases L with
        | nil => simp at hL1
        | cons a b => exact ⟨a, b, rfl⟩
      have hl0 : l0 = n0 := by rw [hLc] at hn0; simpa using hn0
      subst hl0
      have hdr : L.drop 1 = lr := by rw [hLc]; rfl
      obtain ⟨hst, hlr1, htr, hfr⟩ := tree_tail (n := l0.nod) (r := lr.map NodM.nod) (t := t) (by rw [← ht, hLc]; rfl) h9 (by rw [hLc] at hL4; simp at hL4 ⊢; omega)
      rw [List.length_map] at hlr1
      obtain ⟨a, ha⟩ : ∃ a, p = some a := Option.isSome_iff_exists.1 (hRG.some_lt hL1)
      subst ha
      have hRt := hRG.drop1 hL1
      rw [hdr] at hRt
      have hLl1 : L.length - 1 = lr.length := by rw [hLc]; simp
      have hLge : 2 ≤ L.length := by rw [hLc]; simp; omega
      have hLc' := hRG.le
      (repeat' (first|refine zza ?_|refine zc9 ?_|refine zzb fun w hw => ?_|refine zzh fun _ => ?_|refine zzi fun _ _ => ?_|refine zzj (fun _ => ?_) fun _ => ?_))
      refine WL_op rfl rfl (y_lo1 (z := 7) rfl rfl hLge hLc') ?_
      rw [hLl1]
      (repeat' (first|refine zza ?_|refine zc9 ?_|refine zzb fun w hw => ?_|refine zzh fun _ => ?_|refine zzi fun _ _ => ?_|refine zzj (fun _ => ?_) fun _ => ?_))
      refine WL_callA (X := Int × List InsM × Option Addr × Nat) (V := fun z => .tuple #[.slice z.2.2.1 z.2.1.length z.2.2.2, errV 51 z.1]) (Φ := fun z G => CompA lr z G ∧ Rd.le G2 G) rfl rfl rfl rfl (fun W hW => (comp_law (some (a.add 7)) (c - 1) lr W (hRt.mono (hW.le .here)) (fun x hx => (hB x (by rw [hLc]; exact List.mem_cons_of_mem _ hx)).mono (Rd.le_trans hle2 (hW.le .here))) (hG.below hW.below)).mono fun e w' ⟨z, h1, h2, h3, h4⟩ => ⟨z, h1, h2, h3, fun a v e => h4 a v (hW.rd .here e)⟩) ?_
      clear hRG hRt hR hLge hLc'
      rintro ⟨xy, cy, qy, ky⟩ G3 ⟨⟨hxy, hA3⟩, hle3⟩
      dsimp only at hxy hA3 ⊢
      rw [hfr] at hxy
      subst hxy
      obtain ⟨ty, hty, _, hcy, hcyG, hrowy⟩ := hA3 rfl
      clear hA3
      rw [htr] at hty
      injection hty with hty
      subst hty
      have heq : cc.map InsM.ins = cy.map InsM.ins := by rw [hcm, hcy]; exact compC_pos _ _ _
      have hrowx := hrow.mono hle3
      have hX : ∀ x ∈ cc, Row encI 1 G3 x.nums.p x.nums.c x.nums.xs := fun x hx => ((hcG x hx).mono hle3).nums
      have hY : ∀ x ∈ cy, Row encI 1 G3 x.nums.p x.nums.c x.nums.xs := fun x hx => (hcyG x hx).nums
      clear hcm hcy hcG hcyG hrow htr hfr hle3 hle2 hB
      rw [errV_zero]
      (repeat' (first|refine zza ?_|refine zc9 ?_|refine zzb fun w hw => ?_|refine zzh fun _ => ?_|refine zzi fun _ _ => ?_|refine zzj (fun _ => ?_) fun _ => ?_))
      (apply WL_callV; rfl; rfl; rfl; (intro W hW; exact same_Code qq qy kk ky cc cy W.cell? W (Rd.sub_cell W) (hrowx.mono (hW.le .here)) (hrowy.mono (hW.le .here)) (fun x hx => (hX x hx).mono (hW.le .here)) (fun x hx => (hY x hx).mono (hW.le .here)) heq))
      (repeat' (first|refine zza ?_|refine zc9 ?_|refine zzb fun w hw => ?_|refine zzh fun _ => ?_|refine zzi fun _ _ => ?_|refine zzj (fun _ => ?_) fun _ => ?_))
      exact ⟨rfl, hw.below⟩
    · rw [errV_ne hx0]
      clear hA2
      refine zg1 ?_
      (repeat' (first|refine zza ?_|refine zc9 ?_|refine zzb fun w hw => ?_|refine zzh fun _ => ?_|refine zzi fun _ _ => ?_|refine zzj (fun _ => ?_) fun _ => ?_))
      exact ⟨rfl, hw.below⟩
  · (repeat' (first|refine zza ?_|refine zc9 ?_|refine zzb fun w hw => ?_|refine zzh fun _ => ?_|refine zzi fun _ _ => ?_|refine zzj (fun _ => ?_) fun _ => ?_))
    exact ⟨rfl, hw.below⟩
theorem open_CodeSets (x : SlV NodM) (w : World) (s : SlS nodE 7 NodS w 1048576 x) (L : LaidG w) :
    Calls Tryd.prog 5 #[x.val] w fun e w' => e = .returned (.bool true) ∧ Below w.heap.size w w' :=
  law_CodeSets x.p x.c x.xs w s.row (fun i hi => nodG_of (s.each i hi) (Nat.le_refl _)) L.glob
end Go.Proofs.YtdmapiaejcnibaaDoor
