/-
  The law CodeCounts.
-/
import Derived.Test.YtdmapiaejcnibaaDoorGo
import Derived.Test.YtdmapiaejcnibaaDoorCode9
import Derived.Test.YtdmapiaejcnibaaDoorLaidN
namespace Go.Proofs.YtdmapiaejcnibaaDoor
open Go.RowKit

theorem law6_num (n : Int) (w : World) : Calls Tryd.prog 11 #[.int .i64 n] w fun e w' => ∃ b : Nat, True ∧ e = .returned (.agg (nodE ⟨1, 0, 0, 0, 0, ⟨some ⟨b, 0, none⟩, 1, [n]⟩, []⟩).toArray) ∧ Holds w [] [blk b 3 #[.int .i64 n]] w' := by
  refine enter (args := [_]) (m := []) (F := []) Tryd.func11 rfl Tryd.ntmps11 (by simp) rfl ?_
  (repeat' (first|refine zza ?_|refine zc9 ?_|refine zzb fun w hw => ?_|refine zzh fun _ => ?_|refine zzi fun _ _ => ?_|refine zzj (fun _ => ?_) fun _ => ?_))
  rename_i b
  exact ⟨b, trivial, rfl, hw.ent zent⟩
/-- a line of one number -/
theorem num_tree (n : Int) : treeG [⟨1, 0, 0, 0, 0, [n], []⟩] = some (none, .leaf ⟨1, 0, 0, 0, 0, [n], []⟩) := by
  have hr : rightN ⟨1, 0, 0, 0, 0, [n], []⟩ = true := by simp [rightN]
  rw [treeG_cons, if_neg (by simp), exF_cons, if_neg (by rw [hr]; simp), if_pos (.inl rfl)]
theorem num_fault (n : Int) : treeF [⟨1, 0, 0, 0, 0, [n], []⟩] = 0 := by
  unfold treeF
  rw [if_neg (by simp), num_tree]; rfl
theorem two_of {α : Type} {l : List α} (h : l.length = 2) : ∃ a b, l = [a, b] := by
  match l, h with
  | [a, b], _ => exact ⟨a, b, rfl⟩
/-- how the law counts -/
def cnt9 (l : List Nod) : Nat := (l.map fun n => (if n.op = 9 then 0 else 1) + (if n.aop = 6 then 1 + 2 * n.n.toNat else 0)).sum
theorem cnt9_app (a b : List Nod) : cnt9 (a ++ b) = cnt9 a + cnt9 b := by simp [cnt9]
theorem cnt9_cons (n : Nod) (b : List Nod) : cnt9 (n :: b) = (if n.op = 9 then 0 else 1) + (if n.aop = 6 then 1 + 2 * n.n.toNat else 0) + cnt9 b := by simp [cnt9]
theorem cnt9_N : ∀ {l : List Nod}, (∀ n ∈ l, n.op ≠ 9) → cnt9 l = cntN l
  | [], _ => rfl
  | n :: l, h => by
    rw [cnt9_cons, cntN_cons, if_neg (h n (List.mem_cons_self ..)), cnt9_N fun x hx => h x (List.mem_cons_of_mem _ hx)]
set_option maxHeartbeats 8000000 in
set_option maxRecDepth 100000 in
theorem law_CodeCounts (p : Option Addr) (c : Nat) (L : List NodM) (u0 : World) (hR : Row nodE 7 u0.cell? p c L) (hB : ∀ x ∈ L, NodG u0.cell? x) (hG : GlobA u0) :
    Calls Tryd.prog 4 #[.slice p L.length c] u0 fun e w' => e = .returned (.bool true) ∧ Below u0.heap.size u0 w' := by
  have hLl := hR.len
  refine enterR (G := u0.cell?) (args := [_]) (m := []) (F := []) (Rd.sub_cell u0) rfl Tryd.func4 rfl Tryd.ntmps4 (by simp) ?_
  (repeat' (first|refine zza ?_|refine zc9 ?_|refine zzb fun w hw => ?_|refine zzh fun _ => ?_|refine zzi fun _ _ => ?_|refine zzj (fun _ => ?_) fun _ => ?_))
  (apply WL_callX; rfl; rfl; rfl; (intro W hW; exact law6_num 5 W); intro _ _)
  rename_i b1 _
  (repeat' (first|refine zza ?_|refine zc9 ?_|refine zzb fun w hw => ?_|refine zzh fun _ => ?_|refine zzi fun _ _ => ?_|refine zzj (fun _ => ?_) fun _ => ?_))
  rename_i b2
  refine WL_ent (m' := [blk b2 35 (nodE ⟨1, 0, 0, 0, 0, ⟨some ⟨b1, 0, none⟩, 1, [5]⟩, []⟩).toArray, blk b1 3 #[.int .i64 5], ro u0 [] u0.cell?]) (Ent.consK (k := Ent.cons .here (Ent.cons .here Ent.nil)) .here) ?_
  refine WL_callA (X := Int × List InsM × Option Addr × Nat) (V := fun z => .tuple #[.slice z.2.2.1 z.2.1.length z.2.2.2, errV 51 z.1]) (Φ := fun z G => CompA [⟨1, 0, 0, 0, 0, ⟨some ⟨b1, 0, none⟩, 1, [5]⟩, []⟩] z G ∧ Rd.le u0.cell? G) rfl rfl rfl rfl (fun W hW => (comp_law (some ⟨b2, 0, none⟩) 1 [⟨1, 0, 0, 0, 0, ⟨some ⟨b1, 0, none⟩, 1, [5]⟩, []⟩] W (row_blk (enc := nodE) (xs := [⟨1, 0, 0, 0, 0, ⟨some ⟨b1, 0, none⟩, 1, [5]⟩, []⟩]) hW .here (fun _ => rfl) (by simp)) (fun x hx => by
    rw [List.mem_singleton.1 hx]
    exact ⟨by simp, row_blk (enc := encI) (xs := [5]) hW (.there .here) (fun _ => rfl) (by simp), by simp, by simp [I64], by simp [I64], by simp [I64], by simp [I64], by simp [I64], by simp [I64]⟩) (hG.below hW.below)).mono fun e w' ⟨z, h1, h2, h3, h4⟩ => ⟨z, h1, h2, h3, fun a v e => h4 a v (hW.rd (.there (.there .here)) e)⟩) ?_
  rintro ⟨x1, c1, q1, k1⟩ G1 ⟨hA1, hle1⟩
  obtain ⟨hx1, hA1⟩ := hA1
  dsimp only at hx1 hA1
  rw [show ([⟨1, 0, 0, 0, 0, ⟨some ⟨b1, 0, none⟩, 1, [5]⟩, []⟩] : List NodM).map NodM.nod = [⟨1, 0, 0, 0, 0, [5], []⟩] from rfl] at hx1 hA1
  rw [num_fault] at hx1
  subst hx1
  obtain ⟨t1, ht1, _, hc1, _, hrow1⟩ := hA1 rfl
  rw [num_tree] at ht1
  injection ht1 with ht1
  subst ht1
  replace hc1 : c1.map InsM.ins = [leafI ⟨1, 0, 0, 0, 0, [5], []⟩, retI] := hc1
  obtain ⟨xa, xb, rfl⟩ := two_of (show c1.length = 2 by have := congrArg List.length hc1; simpa using this)
  have hxb : xb.op = 11 := by
    simp only [List.map_cons, List.map_nil, List.cons.injEq] at hc1
    have := congrArg Ins.op hc1.2.1
    exact this
  have hxb1 : ([xa, xb] : List InsM)[1]? = some xb := rfl
  clear hc1 hA1
  dsimp only
  rw [errV_zero, show ([xa, xb] : List InsM).length = 2 from rfl]
  have h2 : 1 < ([xa, xb] : List InsM).length := by simp
  (repeat' (first|refine zza ?_|refine zc9 ?_|refine zzb fun w hw => ?_|refine zzh fun _ => ?_|refine zzi fun _ _ => ?_|refine zzj (fun _ => ?_) fun _ => ?_))
  refine WL_callA (X := Int × List InsM × Option Addr × Nat) (V := fun z => .tuple #[.slice z.2.2.1 z.2.1.length z.2.2.2, errV 51 z.1]) (Φ := fun z G => CompA L z G ∧ Rd.le u0.cell? G) rfl rfl rfl rfl (fun W hW => (comp_law p c L W (hR.mono (Rd.le_trans hle1 (hW.le .here))) (fun x hx => (hB x hx).mono (Rd.le_trans hle1 (hW.le .here))) (hG.below hW.below)).mono fun e w' ⟨z, h1, h2, h3, h4⟩ => ⟨z, h1, h2, h3, fun a v e => h4 a v (hW.rd .here (hle1 a v e))⟩) ?_
  clear hle1 hrow1 hxb hxb1 h2
  rintro ⟨xx, cc, qq, kk⟩ G2 ⟨⟨hxx, hA2⟩, hle2⟩
  dsimp only at hxx hA2 ⊢
  by_cases hx0 : xx = 0
  · subst hx0
    rw [errV_zero]
    obtain ⟨t, ht, hL4, hcm, hcG, hrow⟩ := hA2 rfl
    clear hA2 hxx
    obtain ⟨n, r, hnr, hok, hdr, hcase⟩ := treeG_some ht
    have htot := Ex.tot_le t.2 0 hok
    have hcl : cc.length = t.2.tot + 1 := by rw [← List.length_map (f := InsM.ins), hcm, compC_len]
    have hci := compC_cinv (p := startL t) hok
    rw [← hcm] at hci
    have hnb0 := Ex.nodB (B := 400) t.2 0 hok
    have hcn := Ex.cnt t.2 0 hok
    have hLm : (L.map NodM.nod).length = L.length := by simp
    have key : cnt9 (L.map NodM.nod) = t.2.tot ∧ t.2.flat.length ≤ 400 ∧ ∀ x ∈ L, 0 ≤ x.n ∧ (x.aop = 6 → 2 * x.n ≤ 400) := by
      rcases hcase with ⟨_, h9, hrn, hr⟩ | ⟨_, h9, hl⟩
      · have hl : t.2.flat.length + 1 = L.length := by rw [← hLm, hnr, hr]; rfl
        have hnb := hnb0 (by omega)
        have ha := right_act hrn (by omega)
        refine ⟨?_, by omega, fun x hx => ?_⟩
        · rw [hnr, cnt9_cons, if_pos h9, if_neg (by omega), hr, cnt9_N fun y hy => (hnb y hy).1, hcn]; omega
        · have hm : x.nod ∈ n :: t.2.flat := by rw [← hr, ← hnr]; exact List.mem_map_of_mem hx
          rcases List.mem_cons.1 hm with e | hm
          · have h1 := right_n hrn
            rw [← e] at h1 ha
            exact ⟨h1, fun h => by have : x.nod.aop = 6 := h; omega⟩
          · exact ⟨(hnb _ hm).2.1, (hnb _ hm).2.2⟩
      · have hl1 : t.2.flat.length = L.length := by rw [← hLm, hl]
        have hnb := hnb0 (by omega)
        refine ⟨?_, by omega, fun x hx => ?_⟩
        · rw [hl, cnt9_N fun y hy => (hnb y hy).1, hcn]
        · have hm : x.nod ∈ t.2.flat := by rw [← hl]; exact List.mem_map_of_mem hx
          exact ⟨(hnb _ hm).2.1, (hnb _ hm).2.2⟩
    obtain ⟨hcnt, hfl4, hnb⟩ := key
    have hLt : ((1 + cnt9 ((L.map NodM.nod).take L.length) : Nat) : Int) = (cc.length : Int) := by rw [← hLm, List.take_length, hcnt, hcl]; omega
    have hcc : cc.length ≤ 801 := by omega
    have htake : ∀ i, cnt9 ((L.map NodM.nod).take i) ≤ 801 := fun i => by
      have := congrArg cnt9 (List.take_append_drop i (L.map NodM.nod))
      rw [cnt9_app] at this
      omega
    have hRG := hR.mono hle2
    clear hnr hdr hcase htot hcl hnb0 hcn hLm hcnt hfl4 hok ht hcm hcG hR
    (repeat' (first|refine zza ?_|refine zc9 ?_|refine zzb fun w hw => ?_|refine zzh fun _ => ?_|refine zzi fun _ _ => ?_))
    refine CW_loopP [(0,_),(5,.slice qq cc.length kk)] zcov (fun i : Nat => [(8, .int .i64 (i : Int)), (7, .int .i64 ((1 + cnt9 ((L.map NodM.nod).take i) : Nat) : Int))]) (fun i => i ≤ L.length) (fun i => L.length - i) 0 (Nat.zero_le _) zcov ?_
    intro i hi
    by_cases hlt : i < L.length
    · obtain ⟨x, hx⟩ : ∃ x, L[i]? = some x := ⟨L[i], by simp [hlt]⟩
      obtain ⟨hxn, hx6⟩ := hnb x (List.mem_of_getElem? hx)
      have hsu : cnt9 ((L.map NodM.nod).take (i + 1)) = cnt9 ((L.map NodM.nod).take i) + ((if x.op = 9 then 0 else 1) + (if x.aop = 6 then 1 + 2 * x.n.toNat else 0)) := by
        rw [List.take_add_one, List.getElem?_map, hx, cnt9_app]
        rfl
      have hb0 := htake i
      have hb1 := htake (i + 1)
      clear hnb htake hLt hci hcc
      by_cases h9 : x.op = 9
      · by_cases h6 : x.aop = 6
        · have hx6 := hx6 h6
          rw [if_pos h9, if_pos h6] at hsu
          (repeat' (first|refine zza ?_|refine zc9 ?_|refine zzb fun w hw => ?_|refine zzh fun _ => ?_|refine zzi fun _ _ => ?_|refine zzj (fun _ => ?_) fun _ => ?_))
          repeat (refine CW_seq ?_; (repeat' (first|refine zza ?_|refine zc9 ?_|refine zzb fun w hw => ?_|refine zzh fun _ => ?_|refine zzi fun _ _ => ?_|refine zzj (fun _ => ?_) fun _ => ?_)))
          refine WL_op rfl rfl (y_load rfl (show RdC _ _ ((addrAt p (i * 7)).add 1) [.int .i64 x.aop] from rd_rowF (enc := nodE) (sz := 7) (j := 1) hRG .here hx rfl)) ?_
          (repeat' (first|refine zza ?_|refine zc9 ?_|refine zzb fun w hw => ?_|refine zzh fun _ => ?_|refine zzi fun _ _ => ?_|refine zzj (fun _ => ?_) fun _ => ?_))
          exact EX_loop' (i + 1) ⟨zcov, zent, by omega, by omega⟩
        · rw [if_pos h9, if_neg h6] at hsu
          clear hx6
          (repeat' (first|refine zza ?_|refine zc9 ?_|refine zzb fun w hw => ?_|refine zzh fun _ => ?_|refine zzi fun _ _ => ?_|refine zzj (fun _ => ?_) fun _ => ?_))
          repeat (refine CW_seq ?_; (repeat' (first|refine zza ?_|refine zc9 ?_|refine zzb fun w hw => ?_|refine zzh fun _ => ?_|refine zzi fun _ _ => ?_|refine zzj (fun _ => ?_) fun _ => ?_)))
          refine WL_op rfl rfl (y_load rfl (show RdC _ _ ((addrAt p (i * 7)).add 1) [.int .i64 x.aop] from rd_rowF (enc := nodE) (sz := 7) (j := 1) hRG .here hx rfl)) ?_
          (repeat' (first|refine zza ?_|refine zc9 ?_|refine zzb fun w hw => ?_|refine zzh fun _ => ?_|refine zzi fun _ _ => ?_|refine zzj (fun _ => ?_) fun _ => ?_))
          exact EX_loop' (i + 1) ⟨zcov, zent, by omega, by omega⟩
      · by_cases h6 : x.aop = 6
        · have hx6 := hx6 h6
          rw [if_neg h9, if_pos h6] at hsu
          (repeat' (first|refine zza ?_|refine zc9 ?_|refine zzb fun w hw => ?_|refine zzh fun _ => ?_|refine zzi fun _ _ => ?_|refine zzj (fun _ => ?_) fun _ => ?_))
          repeat (refine CW_seq ?_; (repeat' (first|refine zza ?_|refine zc9 ?_|refine zzb fun w hw => ?_|refine zzh fun _ => ?_|refine zzi fun _ _ => ?_|refine zzj (fun _ => ?_) fun _ => ?_)))
          refine WL_op rfl rfl (y_load rfl (show RdC _ _ ((addrAt p (i * 7)).add 1) [.int .i64 x.aop] from rd_rowF (enc := nodE) (sz := 7) (j := 1) hRG .here hx rfl)) ?_
          (repeat' (first|refine zza ?_|refine zc9 ?_|refine zzb fun w hw => ?_|refine zzh fun _ => ?_|refine zzi fun _ _ => ?_|refine zzj (fun _ => ?_) fun _ => ?_))
          exact EX_loop' (i + 1) ⟨zcov, zent, by omega, by omega⟩
        · rw [if_neg h9, if_neg h6] at hsu
          clear hx6
          (repeat' (first|refine zza ?_|refine zc9 ?_|refine zzb fun w hw => ?_|refine zzh fun _ => ?_|refine zzi fun _ _ => ?_|refine zzj (fun _ => ?_) fun _ => ?_))
          repeat (refine CW_seq ?_; (repeat' (first|refine zza ?_|refine zc9 ?_|refine zzb fun w hw => ?_|refine zzh fun _ => ?_|refine zzi fun _ _ => ?_|refine zzj (fun _ => ?_) fun _ => ?_)))
          refine WL_op rfl rfl (y_load rfl (show RdC _ _ ((addrAt p (i * 7)).add 1) [.int .i64 x.aop] from rd_rowF (enc := nodE) (sz := 7) (j := 1) hRG .here hx rfl)) ?_
          (repeat' (first|refine zza ?_|refine zc9 ?_|refine zzb fun w hw => ?_|refine zzh fun _ => ?_|refine zzi fun _ _ => ?_|refine zzj (fun _ => ?_) fun _ => ?_))
          exact EX_loop' (i + 1) ⟨zcov, zent, by omega, by omega⟩
    · have : i = L.length := by omega
      subst this
      clear hnb htake
      rw [hLt]
      obtain ⟨m, hm⟩ : ∃ m, cc.length = m + 1 := ⟨cc.length - 1, by obtain ⟨c', hc'⟩ := hci.last; have := congrArg List.length hc'; simp at this; omega⟩
      obtain ⟨xl, hxl⟩ : ∃ xl, cc[m]? = some xl := ⟨cc[m]'(by omega), by simp [hm]⟩
      have hxlo : xl.op = 11 := by
        obtain ⟨c', hc'⟩ := hci.last
        have h1 : (cc.map InsM.ins)[m]? = some xl.ins := by rw [List.getElem?_map, hxl]; rfl
        have hl : c'.length = m := by have := congrArg List.length hc'; simp at this; omega
        rw [hc', List.getElem?_append_right (by omega), hl, Nat.sub_self] at h1
        injection h1 with h1
        exact (congrArg Ins.op h1).symm
      have hmlt : m < cc.length := by omega
      have hcall : ∀ (i : Nat) (x : InsM), cc[i]? = some x → x.op = 10 → ∃ (k : Nat) (y : InsM), x.dst = (k : Int) + 1 ∧ k + 1 < cc.length ∧ cc[k]? = some y ∧ y.op = 11 := fun i x hx ho => by
        rcases hci.call i x.ins (by rw [List.getElem?_map, hx]; rfl) ho with ⟨k, h1, h2, y, h3, h4⟩ | ⟨w, hw, _⟩
        · rw [List.getElem?_map] at h3
          rw [List.length_map] at h2
          cases hy : cc[k]? with
          | none => rw [hy] at h3; cases h3
          | some y' => rw [hy] at h3; injection h3 with h3; subst h3; exact ⟨k, y', h1, h2, hy, h4⟩
        · cases hw
      have htest : ∀ (i : Nat) (x : InsM), cc[i]? = some x → x.op = 9 → (∃ (k : Nat) (y : InsM), x.dst = (k : Int) + 1 ∧ k + 1 < cc.length ∧ cc[k]? = some y ∧ y.op = 11) ∧ (i : Int) < x.dst := fun i x hx ho => by
        obtain ⟨⟨k, h1, h2, y, h3, h4⟩, h5⟩ := hci.test i x.ins (by rw [List.getElem?_map, hx]; rfl) ho
        rw [List.getElem?_map] at h3
        rw [List.length_map] at h2
        cases hy : cc[k]? with
        | none => rw [hy] at h3; cases h3
        | some y' => rw [hy] at h3; injection h3 with h3; subst h3; exact ⟨⟨k, y', h1, h2, hy, h4⟩, h5⟩
      clear hci hLt
      (repeat' (first|refine zza ?_|refine zc9 ?_|refine zzb fun w hw => ?_|refine zzh fun _ => ?_|refine zzi fun _ _ => ?_))
      rw [show (cc.length : Int) - 1 = (m : Int) by omega]
      (repeat' (first|refine zza ?_|refine zc9 ?_|refine zzb fun w hw => ?_|refine zzh fun _ => ?_|refine zzi fun _ _ => ?_|refine zzj (fun _ => ?_) fun _ => ?_))
      refine CW_loopP [(0,_),(5,.slice qq cc.length kk),(7,.int .i64 (cc.length : Int))] zcov (fun i : Nat => [(9, .int .i64 (i : Int))]) (fun i => i ≤ cc.length) (fun i => cc.length - i) 0 (Nat.zero_le _) zcov ?_
      clear hxl hxlo hmlt hm
      intro i hi
      by_cases hlt : i < cc.length
      · obtain ⟨x, hx⟩ : ∃ x, cc[i]? = some x := ⟨cc[i], by simp [hlt]⟩
        by_cases h10 : x.op = 10
        · obtain ⟨k, y, hd, hk, hy, hyo⟩ := hcall i x hx h10
          have hkl : k < cc.length := by omega
          clear hcall htest
          (repeat' (first|refine zza ?_|refine zc9 ?_|refine zzb fun w hw => ?_|refine zzh fun _ => ?_|refine zzi fun _ _ => ?_))
          rw [show x.dst - 1 = (k : Int) by omega]
          (repeat' (first|refine zza ?_|refine zc9 ?_|refine zzb fun w hw => ?_|refine zzh fun _ => ?_|refine zzi fun _ _ => ?_|refine zzj (fun _ => ?_) fun _ => ?_))
          exact EX_loop' (i + 1) ⟨zcov, zent, by omega, by omega⟩
        by_cases h9 : x.op = 9
        · obtain ⟨⟨k, y, hd, hk, hy, hyo⟩, hid⟩ := htest i x hx h9
          have hkl : k < cc.length := by omega
          clear hcall htest
          (repeat' (first|refine zza ?_|refine zc9 ?_|refine zzb fun w hw => ?_|refine zzh fun _ => ?_|refine zzi fun _ _ => ?_))
          rw [show x.dst - 1 = (k : Int) by omega]
          (repeat' (first|refine zza ?_|refine zc9 ?_|refine zzb fun w hw => ?_|refine zzh fun _ => ?_|refine zzi fun _ _ => ?_|refine zzj (fun _ => ?_) fun _ => ?_))
          exact EX_loop' (i + 1) ⟨zcov, zent, by omega, by omega⟩
        · clear hcall htest
          (repeat' (first|refine zza ?_|refine zc9 ?_|refine zzb fun w hw => ?_|refine zzh fun _ => ?_|refine zzi fun _ _ => ?_|refine zzj (fun _ => ?_) fun _ => ?_))
          exact EX_loop' (i + 1) ⟨zcov, zent, by omega, by omega⟩
      · have : i = cc.length := by omega
        subst this
        clear hcall htest
        (repeat' (first|refine zza ?_|refine zc9 ?_|refine zzb fun w hw => ?_|refine zzh fun _ => ?_|refine zzi fun _ _ => ?_|refine zzj (fun _ => ?_) fun _ => ?_))
        exact ⟨rfl, hw.below⟩
  · rw [errV_ne hx0]
    clear hA2
    refine zg1 ?_
    (repeat' (first|refine zza ?_|refine zc9 ?_|refine zzb fun w hw => ?_|refine zzh fun _ => ?_|refine zzi fun _ _ => ?_|refine zzj (fun _ => ?_) fun _ => ?_))
    exact ⟨rfl, hw.below⟩
theorem open_CodeCounts (x : SlV NodM) (w : World) (s : SlS nodE 7 NodS w 1048576 x) (L : LaidG w) :
    Calls Tryd.prog 4 #[x.val] w fun e w' => e = .returned (.bool true) ∧ Below w.heap.size w w' :=
  law_CodeCounts x.p x.c x.xs w s.row (fun i hi => nodG_of (s.each i hi) (Nat.le_refl _)) L.glob
end Go.Proofs.YtdmapiaejcnibaaDoor
