/-
  code: the code of a line.
  Laws on code: Compile as a law calls it.
-/
import Derived.Test.YtdmapiaejcnibaaDoorGo
import Derived.Test.YtdmapiaejcnibaaDoorCodePlain
import Derived.Test.YtdmapiaejcnibaaDoorTree5
import Derived.Test.YtdmapiaejcnibaaDoorCode8
namespace Go.Proofs.YtdmapiaejcnibaaDoor
open Go.RowKit

/-- where a line's expression begins -/
def startL (t : Option Nod × Ex) : Nat := if t.1.isSome then 1 else 0
/-- what Compile tells -/
def CompPost (L : List NodM) (w : World) (e : Ending) (w' : World) : Prop :=
  (∃ z : Rd × List InsM × (Option Addr × Nat) × (Option Nod × Ex), (treeG (L.map NodM.nod) = some z.2.2.2 ∧ L.length ≤ 400 ∧ z.2.1.map InsM.ins = compC (startL z.2.2.2) z.2.2.2.2 ∧ (∀ x ∈ z.2.1, InsG z.1 x) ∧ Row insE 8 z.1 z.2.2.1.1 z.2.2.1.2 z.2.1) ∧ e = .returned (.tuple #[.slice z.2.2.1.1 z.2.1.length z.2.2.1.2, .nilIface]) ∧ Rd.grow w w.cell? z.1 ∧ Holds w [] [ro w [] z.1] w') ∨
  (treeF (L.map NodM.nod) ≠ 0 ∧ e = .returned (.tuple #[.slice none 0 0, errV 51 (treeF (L.map NodM.nod))]) ∧ Below w.heap.size w w')
/-- a tree, taken apart -/
theorem treeG_some {l : List Nod} {t : Option Nod × Ex} (h : treeG l = some t) : ∃ n r, l = n :: r ∧ t.2.ok 0 ∧ l.drop (startL t) = t.2.flat ∧ ((t.1 = some n ∧ n.op = 9 ∧ rightN n = true ∧ r = t.2.flat) ∨ (t.1 = none ∧ n.op ≠ 9 ∧ l = t.2.flat)) := by
  cases l with
  | nil => cases h
  | cons n r =>
    refine ⟨n, r, rfl, ?_⟩
    unfold treeG at h
    simp only at h
    by_cases h9 : n.op = 9 ∧ rightN n = true
    · rw [if_pos h9] at h
      cases hx : exF 0 r with
      | none => rw [hx] at h; cases h
      | some y =>
        obtain ⟨e, r'⟩ := y
        rw [hx] at h
        cases r' with
        | cons _ _ => cases h
        | nil =>
          injection h with h
          subst h
          obtain ⟨h1, h2⟩ := exF_iff.1 hx
          rw [List.append_nil] at h2
          exact ⟨h1, by simp [startL, h2], .inl ⟨rfl, h9.1, h9.2, h2⟩⟩
    · rw [if_neg h9] at h
      cases hx : exF 0 (n :: r) with
      | none => rw [hx] at h; cases h
      | some y =>
        obtain ⟨e, r'⟩ := y
        rw [hx] at h
        cases r' with
        | cons _ _ => cases h
        | nil =>
          injection h with h
          subst h
          obtain ⟨h1, h2⟩ := exF_iff.1 hx
          rw [List.append_nil] at h2
          refine ⟨h1, by simp [startL, h2], .inr ⟨rfl, fun ho => ?_, h2⟩⟩
          have hop : ∀ {e : Ex} {d : Nat}, e.ok d → ∀ {m t}, e.flat = m :: t → m.op ≠ 9 := fun {e d} hk {m t} hf => by
            obtain ⟨s1, s2, s3, _⟩ := Ex.subs_n hk
            rw [e.flat_subs] at hf
            injection hf with hf _
            rw [hf] at s3
            omega
          exact hop h1 h2.symm ho
set_option maxHeartbeats 8000000 in
set_option maxRecDepth 100000 in
theorem code_Compile (p : Option Addr) (c : Nat) (L : List NodM) (u0 : World) (hR : Row nodE 7 u0.cell? p c L) (hB : ∀ x ∈ L, NodG u0.cell? x)
    (hT : ∀ W : World, Below u0.heap.size u0 W → Calls Tryd.prog 20 #[.slice p L.length c] W fun e w' => e = .returned (errV 51 (treeF (L.map NodM.nod))) ∧ Below W.heap.size W w') :
    Calls Tryd.prog 10 #[.slice p L.length c] u0 (CompPost L u0) := by
  refine enterR (G := u0.cell?) (args := [_]) (m := []) (F := []) (Rd.sub_cell u0) rfl Tryd.func10 rfl Tryd.ntmps10 (by simp) ?_
  obtain ⟨f, hf⟩ : ∃ f, f = treeF (L.map NodM.nod) := ⟨_, rfl⟩
  by_cases hf0 : f = 0
  · subst hf0
    rw [← hf, errV_zero] at hT
    (repeat' (first|refine zza ?_|refine zc9 ?_|refine zzb fun w hw => ?_|refine zzh fun _ => ?_|refine zzi fun _ _ => ?_|refine zv1 ?_|refine zv2 ?_|refine zzj (fun _ => ?_) fun _ => ?_))
    (apply WL_callV; rfl; rfl; rfl; (intro W hW; exact hT W hW.below))
    have h400 : L.length ≤ 400 := by
      unfold treeF at hf
      rw [List.length_map] at hf
      split at hf
      · cases hf
      · omega
    obtain ⟨t, ht⟩ : ∃ t, treeG (L.map NodM.nod) = some t := by
      unfold treeF at hf
      rw [List.length_map, if_neg (by omega)] at hf
      cases hx : treeG (L.map NodM.nod) with
      | none => rw [hx] at hf; cases hf
      | some t => exact ⟨t, rfl⟩
    obtain ⟨n, r, hnr, hok, hdr, hcase⟩ := treeG_some ht
    have hpos : 0 < L.length := by have := congrArg List.length hnr; simp at this; omega
    clear hT
    (repeat' (first|refine zza ?_|refine zc9 ?_|refine zzb fun w hw => ?_|refine zzh fun _ => ?_|refine zzi fun _ _ => ?_|refine zv1 ?_|refine zv2 ?_|refine zzj (fun _ => ?_) fun _ => ?_))
    rename_i b5
    refine CW_ent (m' := [ro u0 [] u0.cell?, mkr b5 p L.length c (none, 0, 0) (none, 0, 0) 0, outS (none, 0, 0) [], sq 70 3 none 0 0 []]) (Ent.cons (.there .here) (Ent.consK (k := Ent.nilown (Ent.nilsq Ent.nil)) .here)) ?_
    obtain ⟨x0, hx0⟩ : ∃ x0, L[0]? = some x0 := ⟨L[0], by simp [hpos]⟩
    have hx0n : x0.nod = n := by
      have := congrArg (fun l => l[0]?) hnr
      simp only [List.getElem?_map, hx0, Option.map_some, List.getElem?_cons_zero] at this
      injection this
    have hsl : startL t + t.2.flat.length = L.length := by
      have := congrArg List.length hdr
      rw [List.length_drop, List.length_map] at this
      have := t.2.flat_pos
      omega
    have hdr' : (L.drop (startL t)).map NodM.nod = t.2.flat ++ [] := by rw [List.map_drop, hdr, List.append_nil]
    have hcle := t.2.code_le
    have hwle := t.2.waits_le 0 (startL t)
    have htl := Ex.tot_le t.2 0 hok
    have htc := Ex.tot_code t.2 0 (startL t)
    refine CW_cutK (X := Rd × List InsM × (Option Addr × Nat) × (Option Addr × Nat)) [(0,_),(5,_)] zcov (fun _ => []) (fun z => ro u0 [] z.1 :: mkS b5 p L.length c 0 z.2.2.1 z.2.1 z.2.2.2 (t.2.waits 0 (startL t))) (fun z => (z.2.1.map InsM.ins = t.2.code 0 ∧ ∀ x ∈ z.2.1, InsG z.1 x) ∧ Rd.grow u0 u0.cell? z.1) (fun _ => ?_) ?_
    · have hexp := fun (W : World) (f1 : List Nat) (hO : Own (mkS b5 p L.length c 0 (none, 0) [] (none, 0) []) f1 W) (hS : Rd.sub u0.cell? f1 W) => code_expression p c L h400 _ t.2 (startL t) 0 b5 [] 0 (none, 0) (none, 0) [] [] u0.cell? W f1 (Nat.le_refl _) hok hdr' hR hB hO hS ⟨by simp; omega⟩ ⟨by simp; omega⟩
      (repeat' (first|refine zza ?_|refine zc9 ?_|refine zzb fun w hw => ?_|refine zzh fun _ => ?_|refine zzi fun _ _ => ?_))
      rcases hcase with ⟨h1, h2, h3, h4⟩ | ⟨h1, h2, h3⟩
      · have hst : startL t = 1 := by unfold startL; rw [h1]; rfl
        rw [hst] at hexp
        have hop : x0.op = 9 := by rw [← hx0n] at h2; exact h2
        rw [hst]
        (repeat' (first|refine zza ?_|refine zc9 ?_|refine zzb fun w hw => ?_|refine zzh fun _ => ?_|refine zzi fun _ _ => ?_|refine zv1 ?_|refine zv2 ?_|refine zzj (fun _ => ?_) fun _ => ?_))
        refine WL_callG (m1 := mkS b5 p L.length c 0 (none, 0) [] (none, 0) []) (r := []) (X := Rd × List InsM × (Option Addr × Nat) × (Option Addr × Nat)) (V := fun _ => .tuple #[]) (Gx := fun z => z.1) (M := fun z => mkS b5 p L.length c 0 z.2.2.1 ([] ++ z.2.1) z.2.2.2 ([] ++ t.2.waits 0 1)) (I := fun z => z.2.1.map InsM.ins = t.2.code 0 ∧ ∀ x ∈ z.2.1, InsG z.1 x) zent rfl rfl rfl (fun W fp' hW hO hS hF => hexp W fp' hO hS) ?_
        rintro ⟨G1, zs, o1, q1⟩ ⟨hz, hzG⟩ hgr
        dsimp only at hz hzG hgr ⊢
        (repeat' (first|refine zza ?_|refine zc9 ?_|refine zzb fun w hw => ?_|refine zzh fun _ => ?_|refine zzi fun _ _ => ?_|refine zv1 ?_|refine zv2 ?_|refine zzj (fun _ => ?_) fun _ => ?_))
        exact EX_mid' (G1, zs, o1, q1) ⟨zcov, zent, ⟨hz, hzG⟩, hgr⟩
      · have hst : startL t = 0 := by unfold startL; rw [h1]; rfl
        rw [hst] at hexp
        have hop : ¬ x0.op = 9 := by rw [← hx0n] at h2; exact h2
        rw [hst]
        (repeat' (first|refine zza ?_|refine zc9 ?_|refine zzb fun w hw => ?_|refine zzh fun _ => ?_|refine zzi fun _ _ => ?_|refine zv1 ?_|refine zv2 ?_|refine zzj (fun _ => ?_) fun _ => ?_))
        refine WL_callG (m1 := mkS b5 p L.length c 0 (none, 0) [] (none, 0) []) (r := []) (X := Rd × List InsM × (Option Addr × Nat) × (Option Addr × Nat)) (V := fun _ => .tuple #[]) (Gx := fun z => z.1) (M := fun z => mkS b5 p L.length c 0 z.2.2.1 ([] ++ z.2.1) z.2.2.2 ([] ++ t.2.waits 0 0)) (I := fun z => z.2.1.map InsM.ins = t.2.code 0 ∧ ∀ x ∈ z.2.1, InsG z.1 x) zent rfl rfl rfl (fun W fp' hW hO hS hF => hexp W fp' hO hS) ?_
        rintro ⟨G1, zs, o1, q1⟩ ⟨hz, hzG⟩ hgr
        dsimp only at hz hzG hgr ⊢
        (repeat' (first|refine zza ?_|refine zc9 ?_|refine zzb fun w hw => ?_|refine zzh fun _ => ?_|refine zzi fun _ _ => ?_|refine zv1 ?_|refine zv2 ?_|refine zzj (fun _ => ?_) fun _ => ?_))
        exact EX_mid' (G1, zs, o1, q1) ⟨zcov, zent, ⟨hz, hzG⟩, hgr⟩
    rintro ⟨G1, zs, o1, q1⟩ ⟨⟨hz, hzG⟩, hgr⟩
    dsimp only at hz hzG hgr ⊢
    have hzl : zs.length = (t.2.code 0).length := by rw [← List.length_map (f := InsM.ins), hz]
    obtain ⟨wq, hwq⟩ : ∃ wq, wq = t.2.waits 0 (startL t) := ⟨_, rfl⟩
    rw [← hwq]
    (repeat' (first|refine zza ?_|refine zc9 ?_|refine zzb fun w hw => ?_|refine zzh fun _ => ?_|refine zzi fun _ _ => ?_|refine zv1 ?_|refine zv2 ?_|refine zzj (fun _ => ?_) fun _ => ?_))
    refine WL_callUX (m1 := [mkr b5 p L.length c (o1.1, zs.length, o1.2) (q1.1, wq.length, q1.2) 0, outS (o1.1, zs.length, o1.2) zs]) (r := [queS q1 wq]) zent rfl rfl rfl (fun W fp' hO hS => code_put G1 b5 p L.length c o1 (q1.1, wq.length, q1.2) 0 zs ⟨11, 0, 0, 0, 0, 0, ⟨none, 0, []⟩, []⟩ W fp' hO hS (by omega)) ?_
    rintro z _
    (repeat' (first|refine zza ?_|refine zc9 ?_|refine zzb fun w hw => ?_|refine zzh fun _ => ?_|refine zzi fun _ _ => ?_))
    obtain ⟨zs1, hzs1⟩ : ∃ zs1, zs1 = zs ++ [(⟨11, 0, 0, 0, 0, 0, ⟨none, 0, []⟩, []⟩ : InsM)] := ⟨_, rfl⟩
    have hz1m : zs1.map InsM.ins = t.2.code 0 ++ [retI] := by rw [hzs1, List.map_append, hz]; rfl
    have hz1G : ∀ x ∈ zs1, InsG G1 x := fun x hx => by
      rw [hzs1] at hx
      rcases List.mem_append.1 hx with hx | hx
      · exact hzG x hx
      · rw [List.mem_singleton.1 hx]; exact ⟨by simp, Row.nil _ _ _, by simp⟩
    have hz1l : zs1.length = (t.2.code 0).length + 1 := by rw [hzs1, List.length_append, hzl]; rfl
    rw [← hzs1]
    obtain ⟨C, hC⟩ : ∃ C, C = compC (startL t) t.2 := ⟨_, rfl⟩
    have hat : ∀ u ∈ wq, WAt (L.map NodM.nod) zs1.length u := fun u hu => by
      rw [hwq] at hu
      have := Ex.waits_at (l := L.map NodM.nod) t.2 0 0 (startL t) [] hok (by rw [hdr, List.append_nil]) u hu
      exact this.mono (by omega)
    have hwT : zs1.length + waitT wq ≤ 801 := by rw [hwq]; omega
    refine CW_loopK (X := Rd × List InsM × (Option Addr × Nat) × (Option Addr × Nat) × List Wt × Nat × Int) [(5,_)] zcov (fun _ => []) (fun z => ro u0 [] z.1 :: mkS b5 p L.length c z.2.2.2.2.2.2 z.2.2.1 z.2.1 z.2.2.2.1 z.2.2.2.2.1) (fun z => ((roundsC z.2.2.2.2.2.1 (z.2.1.map InsM.ins) z.2.2.2.2.1).1 = C ∧ waitN z.2.2.2.2.1 ≤ z.2.2.2.2.2.1) ∧ (∀ u ∈ z.2.2.2.2.1, WAt (L.map NodM.nod) z.2.1.length u) ∧ (∀ x ∈ z.2.1, InsG z.1 x) ∧ Rd.grow u0 u0.cell? z.1 ∧ z.2.1.length + waitT z.2.2.2.2.1 ≤ 801) (fun z => z.2.2.2.2.2.1) (G1, zs1, z, q1, wq, t.2.dfns, 0) ⟨⟨by rw [hC]; unfold compC; dsimp only; rw [hz1m, hwq], by dsimp only; rw [hwq]; exact Ex.waitN_le t.2 0 (startL t)⟩, hat, hz1G, hgr, hwT⟩ zcov zent ?_
    clear hz1m hz1G hat hwT hwq hzl hz hzG htc htl hwle hcle
    rintro ⟨Gi, zi, oi, qi, wi, fi, hi⟩ ⟨⟨hCi, hNi⟩, hai, hGi, hgi, hTi⟩
    dsimp only at hCi hNi hai hGi hgi hTi ⊢
    have hge := waitT_ge (q := wi) fun u hu => (hai u hu).1
    cases wi with
    | nil =>
      have hCf : zi.map InsM.ins = C := by
        cases fi with
        | zero => exact hCi
        | succ f => exact hCi
      clear hge hai
      (repeat' (first|refine zza ?_|refine zc9 ?_|refine zzb fun w hw => ?_|refine zzh fun _ => ?_|refine zzi fun _ _ => ?_|refine zv1 ?_|refine zv2 ?_|refine zzj (fun _ => ?_) fun _ => ?_))
      obtain ⟨G', g1, g2, g3⟩ := Holds.toRo (α := InsM) (enc := insE) (sz := 8) (fun _ => rfl) (by decide) (xs := zi) (e := 43) (n := zi.length) (p := oi.1) (c := oi.2) (r := []) (hw.ent (m' := [ro u0 [] Gi, sl 43 8 oi.1 zi.length oi.2 (zi.flatMap insE)]) zent) (fun f _ i hi => by cases hi)
      exact .inl ⟨(G', zi, oi, t), ⟨ht, h400, hCf.trans hC, fun x hx => (hGi x hx).mono g1.1, g2⟩, rfl, Rd.grow_tr hgi g1, g3⟩
    | cons wt wr =>
      obtain ⟨wb, wp, wn, wc⟩ := wt
      obtain ⟨⟨⟨d, hd⟩, hn0, hlen⟩, ⟨rest, hrest⟩, hcl⟩ := hai _ (List.mem_cons_self ..)
      dsimp only at hd hn0 hlen hrest hcl
      obtain ⟨N, rfl⟩ := Int.eq_ofNat_of_zero_le hn0
      have hlen' : wb.len = 2 * N + 1 := hlen
      have hN := Exs.waitN_func wb zi.length wp
      have htf := Exs.tot_func (zi.length : Int) wb zi.length wp
      have haf := Exs.funcW_at (l := L.map NodM.nod) (zi.length : Int) wb (d + 1) zi.length wp rest hd hrest
      have har : ∀ u ∈ wr, WAt (L.map NodM.nod) zi.length u := fun u hu => hai u (List.mem_cons_of_mem _ hu)
      simp only [List.length_cons, waitT, waitN] at hge hTi hNi
      obtain ⟨f, rfl⟩ : ∃ f, fi = f + 1 := ⟨fi - 1, by omega⟩
      have hCs : (roundsC f (stepC (zi.map InsM.ins) ⟨wb, wp, (N : Int), wc⟩ wr).1 (stepC (zi.map InsM.ins) ⟨wb, wp, (N : Int), wc⟩ wr).2).1 = C := hCi
      have hrest' : (L.drop wp).map NodM.nod = wb.flat ++ rest := by rw [List.map_drop]; exact hrest
      have hwr : wr.length ≤ 400000 := by omega
      clear hai hn0 hlen hrest hCi
      refine CW_ent (m' := [ro u0 [] Gi, mkr b5 p L.length c (oi.1, zi.length, oi.2) (qi.1, wr.length + 1, qi.2) hi, outS (oi.1, zi.length, oi.2) zi, sq 70 3 qi.1 (wr.length + 1) qi.2 (wtE ⟨wb, wp, (N : Int), wc⟩ ++ wr.flatMap wtE)]) zent ?_
      have hgt : ((wr.length + 1 : Nat) : Int) > 0 := by omega
      (repeat' (first|refine zza ?_|refine zc9 ?_|refine zzb fun w hw => ?_|refine zzh fun _ => ?_|refine zzi fun _ _ => ?_))
      refine WL_op rfl rfl (y_ixq (e := 70) (sz := 3) (i := 0) rfl rfl (.there (.there (.there .here))) (show 0 < wr.length + 1 by omega)) ?_
      refine WL_op rfl rfl (y_loadA (zs := [.int .i64 0, .int .i64 0, .int .i64 0]) rfl (show RdC _ _ (addrAt qi.1 (0 * 3)) (wtE ⟨wb, wp, (N : Int), wc⟩) from rd_sq (i := 0) (j := 0) (e := 70) (sz := 3) (.there (.there (.there .here))) rfl (show 0 * 3 + 0 + (wtE ⟨wb, wp, (N : Int), wc⟩).length ≤ (wr.length + 1) * 3 by simp [wtE]; omega)) rfl) ?_
      (repeat' (first|refine zza ?_|refine zc9 ?_|refine zzb fun w hw => ?_|refine zzh fun _ => ?_|refine zzi fun _ _ => ?_))
      rename_i b6
      refine WL_op rfl rfl (y_tail (n := wr.length) rfl rfl) ?_
      refine WL_ent (m' := [ro u0 [] Gi, mkr b5 p L.length c (oi.1, zi.length, oi.2) (qi.1, wr.length + 1, qi.2) hi, outS (oi.1, zi.length, oi.2) zi, sq 70 3 (tailP qi.1 qi.2 3) wr.length (qi.2 - 1) (wr.flatMap wtE), blk b6 70 #[.int .i64 (wp : Int), .int .i64 (N : Int), .int .i64 (wc : Int)]]) (Ent.cons zpk (Ent.cons zpk (Ent.cons zpk (Ent.tail (ys := wtE ⟨wb, wp, (N : Int), wc⟩) zpk rfl (Ent.consK (k := Ent.nil) .here))))) ?_
      (repeat' (first|refine zza ?_|refine zc9 ?_|refine zzb fun w hw => ?_|refine zzh fun _ => ?_|refine zzi fun _ _ => ?_|refine zv1 ?_|refine zv2 ?_|refine zzj (fun _ => ?_) fun _ => ?_))
      obtain ⟨qn, hqn⟩ : ∃ qn : Option Addr × Nat, qn = (tailP qi.1 qi.2 3, qi.2 - 1) := ⟨_, rfl⟩
      refine WL_ent (m' := ro u0 [] Gi :: (mkS b5 p L.length c hi oi zi qn wr ++ [blk b6 70 #[.int .i64 (wp : Int), .int .i64 (N : Int), .int .i64 (wc : Int)]])) (by rw [hqn]; exact zent) ?_
      refine WL_callG (m1 := mkS b5 p L.length c hi oi zi qn wr) (r := [blk b6 70 #[.int .i64 (wp : Int), .int .i64 (N : Int), .int .i64 (wc : Int)]]) (X := Rd × List InsM × (Option Addr × Nat) × (Option Addr × Nat)) (V := fun _ => .tuple #[]) (Gx := fun z => z.1) (M := fun z => mkS b5 p L.length c (zi.length : Int) z.2.2.1 z.2.1 z.2.2.2 (wr ++ wb.funcW zi.length wp)) (I := fun z => z.2.1.map InsM.ins = patch (zi.map InsM.ins) wc (zi.length : Int) ++ wb.func (zi.length : Int) zi.length ∧ ∀ x ∈ z.2.1, InsG z.1 x) zent rfl rfl rfl (fun W fp' hW hO hS hF => code_function p c L h400 wb wp (d + 1) b5 wc N rest hi oi qn zi wr Gi W fp' hd hlen' hrest' hcl (hR.mono hgi.1) (fun x hx => (hB x hx).mono hgi.1) hGi hO hS (by omega) hwr) ?_
      rintro ⟨Gn, zn, on, qm⟩ ⟨hzn, hznG⟩ hgn
      dsimp only at hzn hznG hgn ⊢
      have hznl : zn.length = zi.length + (wb.func (zi.length : Int) zi.length).length := by
        rw [← List.length_map (f := InsM.ins), hzn, List.length_append, patch_len, List.length_map]
      (repeat' (first|refine zza ?_|refine zc9 ?_|refine zzb fun w hw => ?_|refine zzh fun _ => ?_|refine zzi fun _ _ => ?_|refine zv1 ?_|refine zv2 ?_|refine zzj (fun _ => ?_) fun _ => ?_))
      refine EX_loop' (Gn, zn, on, qm, wr ++ wb.funcW zi.length wp, f, (zi.length : Int)) ⟨zcov, zent, by dsimp only; omega, ⟨?_, ?_⟩, fun u hu => ?_, hznG, Rd.grow_tr hgi hgn, ?_⟩
      · dsimp only
        rw [hzn]
        have : stepC (zi.map InsM.ins) ⟨wb, wp, (N : Int), wc⟩ wr = (patch (zi.map InsM.ins) wc (zi.length : Int) ++ wb.func (zi.length : Int) zi.length, wr ++ wb.funcW zi.length wp) := by simp [stepC]
        rw [this] at hCs
        exact hCs
      · dsimp only; rw [waitN_app]; omega
      · dsimp only
        rw [hznl]
        rcases List.mem_append.1 hu with hu | hu
        · exact (har u hu).mono (by omega)
        · exact haf u hu
      · dsimp only; rw [waitT_app, hznl]; omega
  · have hne : errV 51 f = .iface 51 (.int .i64 f) := errV_ne hf0
    rw [← hf, hne] at hT
    (repeat' (first|refine zza ?_|refine zc9 ?_|refine zzb fun w hw => ?_|refine zzh fun _ => ?_|refine zzi fun _ _ => ?_|refine zv1 ?_|refine zv2 ?_|refine zzj (fun _ => ?_) fun _ => ?_))
    (apply WL_callV; rfl; rfl; rfl; (intro W hW; exact hT W hW.below))
    clear hT
    (repeat' (first|refine zza ?_|refine zc9 ?_|refine zzb fun w hw => ?_|refine zzh fun _ => ?_|refine zzi fun _ _ => ?_|refine zv1 ?_|refine zv2 ?_|refine zzj (fun _ => ?_) fun _ => ?_))
    exact .inr ⟨by rw [← hf]; exact hf0, by rw [← hf, hne], hw.below⟩
end Go.Proofs.YtdmapiaejcnibaaDoor

namespace Go.Proofs.YtdmapiaejcnibaaDoor
open Go.RowKit

/-- all that there is may be read -/
theorem Holds.whole {w0 W : World} {m : List HP} (hh : Holds w0 [] m W) : Holds w0 [] [ro w0 [] W.cell?] W := by
  have hb := hh.below
  refine ⟨hh.keep, (List.range (W.heap.size - w0.heap.size)).map (w0.heap.size + ·) ++ [], ⟨_, [], rfl, ⟨fun i hi => ?_, fun a v e => ?_⟩, rfl, by simp⟩, fun i hi h0 => ?_⟩
  · obtain ⟨j, hj, rfl⟩ := List.mem_map.1 hi
    rw [List.mem_range] at hj; omega
  · have hl := cell_lt e
    by_cases h : a.block < w0.heap.size
    · exact .inr ⟨h, by simp, by rw [← World.cell?_of_block (hb.block _ h)]; exact e⟩
    · exact .inl ⟨List.mem_map.2 ⟨a.block - w0.heap.size, List.mem_range.2 (by omega), by omega⟩, e⟩
  · rw [List.append_nil] at hi
    obtain ⟨j, hj, rfl⟩ := List.mem_map.1 hi
    omega
/-- a call out of a law: what it left may be read -/
theorem WL_callA {P : Program} {K : Cx} {ρ : Env} {m : List HP} {ops : Array Oper} {Q : Exit → Act → World → Prop} {rest : List Oper} {d : Nat} {ty : TypeId} {pos : String} {aft : Array Edge} {g : Option (Nat × Bool)} {f : FuncId} [S : FnT P f] {xs : List Operand} {ats : Array TypeId} {vs : List Value} (hF : K.F = []) (hx : opvs ρ xs = some vs) (hg : guardB ops g ρ = some true)
    (hn : (guardN K.N ops g && Nat.blt d K.N) = true) {X : Type} {V : X → Value} {Φ : X → Rd → Prop} (hc : ∀ w, Holds K.w0 K.F m w → Calls P f vs.toArray w fun e w' => ∃ x, e = .returned (V x) ∧ Below w.heap.size w w' ∧ Φ x w'.cell?)
    (k : ∀ x G, Φ x G → WL P K ops Q rest ((d, V x) :: ρ) [ro K.w0 K.F G]) : WL P K ops Q (⟨some d, .call ⟨.value (.func f), xs.toArray, ats⟩, ty, pos, aft, g⟩ :: rest) ρ m := by
  obtain ⟨N, D, w0, F⟩ := K
  dsimp only at hF
  subst hF
  exact WL_call (X := X × Rd) hx hg hn hc (fun x => V x.1) (fun x => [ro w0 [] x.2]) (fun x => Φ x.1 x.2) (fun w e w' hm ⟨x, he, hb, hp⟩ => ⟨(x, w'.cell?), hp, he, (hm.grow hb).whole⟩) (fun x hx => k x.1 x.2 hx)
/-- what a law knows of what Compile told -/
def CompA (L : List NodM) (z : Int × List InsM × Option Addr × Nat) (G : Rd) : Prop :=
  z.1 = treeF (L.map NodM.nod) ∧ (z.1 = 0 → ∃ t, treeG (L.map NodM.nod) = some t ∧ L.length ≤ 400 ∧ z.2.1.map InsM.ins = compC (startL t) t.2 ∧ (∀ x ∈ z.2.1, InsG G x) ∧ Row insE 8 G z.2.2.1 z.2.2.2 z.2.1)
theorem Rd.le_below {w w' : World} (h : Below w.heap.size w w') : Rd.le w.cell? w'.cell? := fun _ _ e => (h.cell (cell_lt e)).trans e
theorem comp_law (p : Option Addr) (c : Nat) (L : List NodM) (W : World) (hR : Row nodE 7 W.cell? p c L) (hB : ∀ x ∈ L, NodG W.cell? x) (hG : GlobA W) :
    Calls Tryd.prog 10 #[.slice p L.length c] W fun e w' => ∃ z : Int × List InsM × Option Addr × Nat, e = .returned (.tuple #[.slice z.2.2.1 z.2.1.length z.2.2.2, errV 51 z.1]) ∧ Below W.heap.size W w' ∧ (CompA L z w'.cell? ∧ Rd.le W.cell? w'.cell?) := by
  refine (code_Compile p c L W hR hB fun W' hb => tree_Check p c L W' (hR.mono (Rd.le_below hb)) (fun x hx => (hB x hx).mono (Rd.le_below hb)) (hG.below hb)).mono ?_
  rintro e w' (⟨⟨G, xs, q, t⟩, ⟨h1, h2, h3, h4, h5⟩, rfl, hg, hh⟩ | ⟨h1, rfl, hb⟩)
  · have hb := hh.below
    have hle := hh.le .here
    have h0 : treeF (L.map NodM.nod) = 0 := by unfold treeF; rw [List.length_map, if_neg (by omega), h1]; rfl
    exact ⟨(0, xs, q.1, q.2), by rw [errV_zero], hb, ⟨h0.symm, fun _ => ⟨t, h1, h2, h3, fun x hx => (h4 x hx).mono hle, h5.mono hle⟩⟩, Rd.le_below hb⟩
  · exact ⟨(treeF (L.map NodM.nod), [], none, 0), rfl, hb, ⟨rfl, fun h => absurd h h1⟩, Rd.le_below hb⟩
/-- the nodes of an expression -/
def NodB (B : Nat) (n : Nod) : Prop := n.op ≠ 9 ∧ 0 ≤ n.n ∧ (n.aop = 6 → 2 * n.n ≤ (B : Int))
theorem nodB_of {B : Nat} {n : Nod} (h1 : rightN n = true) (h2 : n.op ≤ 8) (h3 : n.aop = 6 → 2 * n.n.toNat + 1 ≤ B) : NodB B n := ⟨by omega, right_n h1, fun h => by have := h3 h; have := right_n h1; omega⟩
mutual
theorem Ex.nodB {B : Nat} : ∀ (e : Ex) (d : Nat), e.ok d → e.flat.length ≤ B → ∀ n ∈ e.flat, NodB B n
  | .leaf n, d, h, _, x, hx => by
    rw [List.mem_singleton.1 hx]
    have ha := right_act h.1 (by have := h.2; omega)
    exact nodB_of h.1 (by have := h.2; omega) (by omega)
  | .one n b r, d, h, hl, x, hx => by
    obtain ⟨⟨h1, h2, h3, _⟩, h4, h5⟩ := h
    simp only [Ex.flat, List.length_cons, List.length_append] at hl
    have hbl := b.flat_len
    rcases List.mem_cons.1 hx with rfl | hx
    · exact nodB_of h1 (by omega) fun h => by rw [if_pos h] at h3; omega
    · rcases List.mem_append.1 hx with hx | hx
      · exact Exs.nodB b (d + 1) h4 (by omega) x hx
      · exact Ex.nodB r d h5 (by omega) x hx
  | .two n l b r, d, h, hl, x, hx => by
    obtain ⟨⟨h1, h2, h3, _⟩, h6, h4, h5⟩ := h
    simp only [Ex.flat, List.length_cons, List.length_append] at hl
    have hbl := b.flat_len
    rcases List.mem_cons.1 hx with rfl | hx
    · exact nodB_of h1 (by omega) fun h => by rw [if_pos h] at h3; omega
    · rcases List.mem_append.1 hx with hx | hx
      · exact Ex.nodB l d h6 (by omega) x hx
      rcases List.mem_append.1 hx with hx | hx
      · exact Exs.nodB b (d + 1) h4 (by omega) x hx
      · exact Ex.nodB r d h5 (by omega) x hx
  | .pick n o b, d, h, hl, x, hx => by
    obtain ⟨⟨h1, h2, h3⟩, h6, h4⟩ := h
    simp only [Ex.flat, List.length_cons, List.length_append] at hl
    rcases List.mem_cons.1 hx with rfl | hx
    · exact nodB_of h1 (by omega) fun h => by have := right_act h1 (by omega); omega
    · rcases List.mem_append.1 hx with hx | hx
      · exact Ex.nodB o d h6 (by omega) x hx
      · exact Exs.nodB b d h4 (by omega) x hx
theorem Exs.nodB {B : Nat} : ∀ (b : Exs) (d : Nat), b.ok d → b.flat.length ≤ B → ∀ n ∈ b.flat, NodB B n
  | .nil, _, _, _, x, hx => by cases hx
  | .cons e r, d, h, hl, x, hx => by
    simp only [Exs.flat, List.length_append] at hl
    rcases List.mem_append.1 hx with hx | hx
    · exact Ex.nodB e d h.1 (by omega) x hx
    · exact Exs.nodB r d h.2 (by omega) x hx
end
end Go.Proofs.YtdmapiaejcnibaaDoor
