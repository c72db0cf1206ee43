/-
  The package cut: cut.Take.
-/
import Derived.Test.YtadlpfbjnpbnoaaGreatDoorZGo
import Derived.Test.YtadlpfbjnpbnoaaGreatDoorZCutW
namespace Go.Proofs.YtadlpfbjnpbnoaaGreatDoor
open Go.RowKit
theorem winF_I {a : Arr} {fr s : List Int} (h : ∀ x ∈ a.data, I64 x) : ∀ x ∈ (winF a fr s).data, I64 x := fun x hx => by
  obtain ⟨i, _, rfl⟩ := List.mem_map.1 hx
  unfold cellW
  split
  · exact getD_I h _
  · exact fill_I _
/-- shape.Count, of a slice whose length is told otherwise -/
theorem cntN {p : Option Addr} {c k : Nat} {s : List Int} {G : Rd} (hk : s.length = k) (h : Row encI 1 G p c s) (hI : ∀ n ∈ s, I64 n) (W : World) (hl : Rd.le G W.cell?) : Calls Tryz.prog 58 #[.slice p k c] W fun e w' => e = .returned (.tuple #[.int .i64 (countF s).1, errV 28 (countF s).2]) ∧ Below W.heap.size W w' := by
  subst hk
  exact cnt p c s G W h hI hl
theorem cut_windowN (a : ArrM) {fs ss : List Int} {k1 k2 c1 c2 : Nat} {p1 p2 : Option Addr} (e1 : fs.length = k1) (e2 : ss.length = k2) (n : Nat) (G : Rd) (w : World) (hS : Rd.le G w.cell?) (ha : ArrG G a) (ga : a.arr.Good) (hf : Row encI 1 G p1 c1 fs) (hs : Row encI 1 G p2 c2 ss)
    (hfI : ∀ x ∈ fs, -4096 ≤ x ∧ x ≤ 4096) (hsI : ∀ x ∈ ss, 0 ≤ x ∧ x ≤ 4096) (hl : ss.length = a.shape.xs.length) (hfl : fs.length = a.shape.xs.length) (hn : countF ss = ((n : Int), 0)) (hn4 : n ≤ 4096) :
    Calls Tryz.prog 151 #[arrV a, .slice p1 k1 c1, .slice p2 k2 c2] w (OwnA (winF a.arr fs ss) w) := by
  subst e1 e2
  exact cut_window a ⟨p1, c1, fs⟩ ⟨p2, c2, ss⟩ n G w hS ha ga hf hs hfI hsI hl hfl hn hn4
def farN (m : Int) : Bool := decide (4096 < m) || decide (m < -4096)
theorem far_any {n : List Int} {i : Nat} (hi : i < n.length) (h : farN (n.getD i 0) = true) : tooFar n = true := List.any_eq_true.2 ⟨_, getD_mem hi, h⟩
theorem far_none {n : List Int} (h : ∀ i, i < n.length → farN (n.getD i 0) = false) : tooFar n = false := by
  cases hf : tooFar n with
  | false => rfl
  | true =>
    obtain ⟨x, hx, h1⟩ := List.any_eq_true.1 hf
    obtain ⟨i, hi, rfl⟩ := List.getElem_of_mem hx
    have := h i hi
    unfold farN at this
    simp only [List.getD, List.getElem?_eq_getElem hi, Option.getD_some] at this
    rw [this] at h1
    cases h1
set_option maxHeartbeats 16000000 in
set_option maxRecDepth 100000 in
theorem cut_Take (n : SlV Int) (a : ArrM) (G : Rd) (w : World) (hS : Rd.le G w.cell?) (ha : ArrG G a) (h0 : a.arr.bad = 0) (hn : Row encI 1 G n.p n.c n.xs) (hnI : ∀ x ∈ n.xs, I64 x) :
    Calls Tryz.prog 103 #[.slice n.p n.xs.length n.c, arrV a] w (ResT (takeF n.xs a.arr) G w) := by
  refine enterR (args := [_, _]) (m := []) (F := []) hS.sub rfl Tryz.func103 rfl Tryz.ntmps103 (by simp) ?_
  clear hS
  have ga := Arr.good h0
  have hA := fun W (h : Rd.le G W.cell?) => chk a G W ha h
  rw [h0, errV_zero] at hA
  have h6 : a.shape.xs.length ≤ 6 := ga.rank
  by_cases hl : n.xs.length = a.shape.xs.length
  · have hF : takeF n.xs a.arr = if tooFar n.xs = true then (7, zeroA) else if (countF (takeS n.xs)).2 ≠ 0 then ((countF (takeS n.xs)).2, zeroA) else (0, winF a.arr (takeO n.xs a.arr) (takeS n.xs)) := if_neg (fun h => h hl)
    rw [hF]
    clear hF
    (repeat' ((fail_if_success refine zc8 ?_); (first|refine zza ?_|refine zzb fun w hw => ?_|refine zzh fun _ => ?_|refine zzi fun _ _ => ?_|refine zzj (fun _ => ?_) fun _ => ?_)))
    rename_i b3 b4
    refine WL_callV rfl rfl rfl (fun W hW => hA W (hW.le zpk)) ?_
    clear hA
    (repeat' ((fail_if_success refine zc8 ?_); (first|refine zza ?_|refine zzb fun w hw => ?_|refine zzh fun _ => ?_|refine zzi fun _ _ => ?_|refine zzj (fun _ => ?_) fun _ => ?_)))
    refine CW_ent (m' := [zB b4, boxB b3 a, ro w [] G]) zent ?_
    refine CW_par 7 [0, 1, 3, 4] [2, 5, 6] [boxB b3 a, ro w [] G] (pm := [zB b4]) Ent.refl (by kernel_rfl) (by decide +kernel) ?_
    (refine WP_op rfl rfl rfl zyi ?_)
    (refine WP_op rfl rfl rfl zyi ?_)
    (refine WP_op rfl rfl rfl zyi ?_)
    (refine WP_op rfl rfl rfl zyi ?_)
    refine WP_par (fun ρ m => ∃ z : Nat × Nat, (ρ.find 7 = some (.slice (some ⟨z.1, 0, none⟩) n.xs.length n.xs.length) ∧ ρ.find 32 = some (.slice (some ⟨z.2, 0, none⟩) n.xs.length n.xs.length) ∧ ρ.find 0 = some (.slice n.p n.xs.length n.c) ∧ ρ.find 3 = some (ptrV b3) ∧ ρ.find 4 = some (ptrV b4)) ∧
      Ent m [atB z.1 n.xs.length (List.replicate n.xs.length 0), atB z.2 n.xs.length (List.replicate n.xs.length 0), zB b4]) (m1 := [zB b4]) Ent.refl (by decide +kernel) ?_ ?_
    · rintro ρ m ⟨⟨bs, bf⟩, ⟨f1, f2, f3, f4, f5⟩, hE⟩
      dsimp only at f1 f2 hE
      refine WL_cov (ρ' := [(7, .slice (some ⟨bs, 0, none⟩) n.xs.length n.xs.length), (32, .slice (some ⟨bf, 0, none⟩) n.xs.length n.xs.length), (0, .slice n.p n.xs.length n.c), (3, ptrV b3), (4, ptrV b4)]) (Cov.cons f1 rfl (Cov.cons f2 rfl (Cov.cons f3 rfl (Cov.cons f4 rfl (Cov.cons f5 rfl Cov.nil))))) ?_
      refine WL_ent hE.appR ?_
      dsimp only [List.cons_append, List.nil_append]
      clear f1 f2 f3 f4 f5 hE ρ m
      ((repeat' (first|refine zza ?_|refine zc9 ?_|refine zzb fun w hw => ?_|refine zzh fun _ => ?_|refine zzi fun _ _ => ?_|refine zu1 ?_|refine zu2 ?_|refine zu3 ?_|refine zu4 fun _ => ?_|refine zzj (fun _ => ?_) fun _ => ?_)); (repeat' (refine CW_seq ?_; (repeat' (first|refine zza ?_|refine zc9 ?_|refine zzb fun w hw => ?_|refine zzh fun _ => ?_|refine zzi fun _ _ => ?_|refine zu1 ?_|refine zu2 ?_|refine zu3 ?_|refine zu4 fun _ => ?_|refine zzj (fun _ => ?_) fun _ => ?_)))))
      refine CW_loopK [(0,_),(3,_),(4,_),(7,_),(8,_),(33,_),(34,_)] zcov (fun i : Nat => [(35, .int .i64 (i : Int))]) (fun i => [atB bs n.xs.length (upTo n.xs.length (fun _ => 0) (fun i => absN (n.xs.getD i 0)) i), atB bf n.xs.length (upTo n.xs.length (fun _ => 0) (fun i => if n.xs.getD i 0 < 0 then a.shape.xs.getD i 0 + n.xs.getD i 0 else 0) i), zB b4, boxB b3 a, ro w [] G]) (fun i => i ≤ n.xs.length ∧ Hid (∀ j, j < i → farN (n.xs.getD j 0) = false)) (fun i => n.xs.length - i) 0 ⟨Nat.zero_le _, fun j hj => absurd hj (by omega)⟩ zcov (by
        show Ent _ [atB bs n.xs.length (upTo n.xs.length (fun _ => 0) _ 0), atB bf n.xs.length (upTo n.xs.length (fun _ => 0) _ 0), zB b4, boxB b3 a, ro w [] G]
        rw [upTo_zero, upTo_zero]
        exact zent) ?_
      rintro i ⟨hi, hf⟩
      by_cases hlt : i < n.xs.length
      · have hni := hnI _ (getD_mem hlt)
        have hnx := (ga.axes _ (getD_mem (s := a.shape.xs) (i := i) (by omega)))
        have p2 : i < a.shape.xs.length := by omega
        have hshp := ha.shape
        by_cases c1 : 4096 < n.xs.getD i 0
        · rw [if_pos (far_any hlt (by unfold farN; rw [decide_eq_true c1]; rfl))]
          clear hnI
          ((repeat' (first|refine zza ?_|refine zc9 ?_|refine zzb fun w hw => ?_|refine zzh fun _ => ?_|refine zzi fun _ _ => ?_|refine zu1 ?_|refine zu2 ?_|refine zu3 ?_|refine zu4 fun _ => ?_|refine zv1 ?_|refine zv2 ?_|refine zzj (fun _ => ?_) fun _ => ?_)); (repeat' (refine CW_seq ?_; (repeat' (first|refine zza ?_|refine zc9 ?_|refine zzb fun w hw => ?_|refine zzh fun _ => ?_|refine zzi fun _ _ => ?_|refine zu1 ?_|refine zu2 ?_|refine zu3 ?_|refine zu4 fun _ => ?_|refine zv1 ?_|refine zv2 ?_|refine zzj (fun _ => ?_) fun _ => ?_)))))
          refine EX_retK2 (b := b4) rfl rfl rfl rfl zpk rfl fun w' hw => ?_
          exact ResT.err (by decide) (hw.ent (Ent.cons zpk Ent.nil))
        · by_cases c2 : n.xs.getD i 0 < -4096
          · rw [if_pos (far_any hlt (by unfold farN; rw [decide_eq_true c2, Bool.or_true]))]
            clear hnI
            ((repeat' (first|refine zza ?_|refine zc9 ?_|refine zzb fun w hw => ?_|refine zzh fun _ => ?_|refine zzi fun _ _ => ?_|refine zu1 ?_|refine zu2 ?_|refine zu3 ?_|refine zu4 fun _ => ?_|refine zv1 ?_|refine zv2 ?_|refine zzj (fun _ => ?_) fun _ => ?_)); (repeat' (refine CW_seq ?_; (repeat' (first|refine zza ?_|refine zc9 ?_|refine zzb fun w hw => ?_|refine zzh fun _ => ?_|refine zzi fun _ _ => ?_|refine zu1 ?_|refine zu2 ?_|refine zu3 ?_|refine zu4 fun _ => ?_|refine zv1 ?_|refine zv2 ?_|refine zzj (fun _ => ?_) fun _ => ?_)))))
            refine EX_retK2 (b := b4) rfl rfl rfl rfl zpk rfl fun w' hw => ?_
            exact ResT.err (by decide) (hw.ent (Ent.cons zpk Ent.nil))
          · have hf2 : Hid (∀ j, j < i + 1 → farN (n.xs.getD j 0) = false) := fun j hj => by
              by_cases e : j = i
              · subst e
                unfold farN
                rw [decide_eq_false c1, decide_eq_false c2]
                rfl
              · exact hf j (by omega)
            clear hnI hf
            ((repeat' (first|refine zza ?_|refine zc9 ?_|refine zzb fun w hw => ?_|refine zzh fun _ => ?_|refine zzi fun _ _ => ?_|refine zu1 ?_|refine zu2 ?_|refine zu3 ?_|refine zu4 fun _ => ?_|refine zv1 ?_|refine zv2 ?_|refine zzj (fun _ => ?_) fun _ => ?_)); (repeat' (refine CW_seq ?_; (repeat' (first|refine zza ?_|refine zc9 ?_|refine zzb fun w hw => ?_|refine zzh fun _ => ?_|refine zzi fun _ _ => ?_|refine zu1 ?_|refine zu2 ?_|refine zu3 ?_|refine zu4 fun _ => ?_|refine zv1 ?_|refine zv2 ?_|refine zzj (fun _ => ?_) fun _ => ?_)))))
            refine WL_op rfl rfl (y_maxI rfl rfl) ?_
            have eS := upTo_set n.xs.length (fun _ => 0) (fun i => absN (n.xs.getD i 0)) i hlt
            have eM : (if n.xs.getD i 0 < -n.xs.getD i 0 then -n.xs.getD i 0 else n.xs.getD i 0) = absN (n.xs.getD i 0) := rfl
            rw [eM]
            by_cases c3 : n.xs.getD i 0 < 0
            · have eF := upTo_set n.xs.length (fun _ => 0) (fun i => if n.xs.getD i 0 < 0 then a.shape.xs.getD i 0 + n.xs.getD i 0 else 0) i hlt
              rw [if_pos c3] at eF
              ((repeat' (first|refine zza ?_|refine zc9 ?_|refine zzb fun w hw => ?_|refine zzh fun _ => ?_|refine zzi fun _ _ => ?_|refine zu1 ?_|refine zu2 ?_|refine zu3 ?_|refine zu4 fun _ => ?_|refine zv1 ?_|refine zv2 ?_|refine zzj (fun _ => ?_) fun _ => ?_)); (repeat' (refine CW_seq ?_; (repeat' (first|refine zza ?_|refine zc9 ?_|refine zzb fun w hw => ?_|refine zzh fun _ => ?_|refine zzi fun _ _ => ?_|refine zu1 ?_|refine zu2 ?_|refine zu3 ?_|refine zu4 fun _ => ?_|refine zv1 ?_|refine zv2 ?_|refine zzj (fun _ => ?_) fun _ => ?_)))))
              rw [map_set, map_set]
              refine EX_loop' (i + 1) ⟨zcov, ?_, by omega, by omega, hf2⟩
              show Ent _ [atB bs n.xs.length (upTo n.xs.length (fun _ => 0) (fun i => absN (n.xs.getD i 0)) (i + 1)), atB bf n.xs.length (upTo n.xs.length (fun _ => 0) (fun i => if n.xs.getD i 0 < 0 then a.shape.xs.getD i 0 + n.xs.getD i 0 else 0) (i + 1)), zB b4, boxB b3 a, ro w [] G]
              rw [← eS, ← eF]
              exact zent
            · have eF := upTo_same n.xs.length (fun _ => 0) (fun i => if n.xs.getD i 0 < 0 then a.shape.xs.getD i 0 + n.xs.getD i 0 else 0) i (if_neg c3)
              ((repeat' (first|refine zza ?_|refine zc9 ?_|refine zzb fun w hw => ?_|refine zzh fun _ => ?_|refine zzi fun _ _ => ?_|refine zu1 ?_|refine zu2 ?_|refine zu3 ?_|refine zu4 fun _ => ?_|refine zv1 ?_|refine zv2 ?_|refine zzj (fun _ => ?_) fun _ => ?_)); (repeat' (refine CW_seq ?_; (repeat' (first|refine zza ?_|refine zc9 ?_|refine zzb fun w hw => ?_|refine zzh fun _ => ?_|refine zzi fun _ _ => ?_|refine zu1 ?_|refine zu2 ?_|refine zu3 ?_|refine zu4 fun _ => ?_|refine zv1 ?_|refine zv2 ?_|refine zzj (fun _ => ?_) fun _ => ?_)))))
              rw [map_set]
              refine EX_loop' (i + 1) ⟨zcov, ?_, by omega, by omega, hf2⟩
              show Ent _ [atB bs n.xs.length (upTo n.xs.length (fun _ => 0) (fun i => absN (n.xs.getD i 0)) (i + 1)), atB bf n.xs.length (upTo n.xs.length (fun _ => 0) (fun i => if n.xs.getD i 0 < 0 then a.shape.xs.getD i 0 + n.xs.getD i 0 else 0) (i + 1)), zB b4, boxB b3 a, ro w [] G]
              rw [← eS, eF]
              exact zent
      · obtain rfl : i = n.xs.length := by omega
        have hnf := far_none hf
        rw [if_neg (by rw [hnf]; simp)]
        have hnb : ∀ j, j < n.xs.length → -4096 ≤ n.xs.getD j 0 ∧ n.xs.getD j 0 ≤ 4096 := fun j hj => by
          have h1 := hf j hj
          unfold farN at h1
          rw [Bool.or_eq_false_iff] at h1
          have h2 := of_decide_eq_false h1.1
          have h3 := of_decide_eq_false h1.2
          exact ⟨by omega, by omega⟩
        have hfI : ∀ x ∈ takeO n.xs a.arr, -4096 ≤ x ∧ x ≤ 4096 := upTo_I (fun x => -4096 ≤ x ∧ x ≤ 4096) (fun _ _ => by decide) fun i hi => by
          have h1 := hnb i hi
          have h2 : 0 ≤ a.arr.shape.getD i 0 ∧ a.arr.shape.getD i 0 ≤ 4096 := ga.axes _ (getD_mem (s := a.shape.xs) (i := i) (by omega))
          split
          · exact ⟨by omega, by omega⟩
          · decide
        have hSI : ∀ x ∈ takeS n.xs, I64 x := upTo_I I64 (fun _ _ => zero_I) fun i hi => by
          have h1 := hnb i hi
          show I64 (absN _)
          unfold absN
          split
          · exact ⟨by omega, by omega⟩
          · exact ⟨by omega, by omega⟩
        have hTl : (takeS n.xs).length = n.xs.length := upTo_len _ _ _ _
        have hOl : (takeO n.xs a.arr).length = n.xs.length := upTo_len _ _ _ _
        clear hnf hf hnb
        show CW _ _ _ _ _ [atB bs n.xs.length (takeS n.xs), atB bf n.xs.length (takeO n.xs a.arr), zB b4, boxB b3 a, ro w [] G]
        ((repeat' (first|refine zza ?_|refine zc9 ?_|refine zzb fun w hw => ?_|refine zzh fun _ => ?_|refine zzi fun _ _ => ?_|refine zu1 ?_|refine zu2 ?_|refine zu3 ?_|refine zu4 fun _ => ?_|refine zv1 ?_|refine zv2 ?_|refine zzj (fun _ => ?_) fun _ => ?_)); (repeat' (refine CW_seq ?_; (repeat' (first|refine zza ?_|refine zc9 ?_|refine zzb fun w hw => ?_|refine zzh fun _ => ?_|refine zzi fun _ _ => ?_|refine zu1 ?_|refine zu2 ?_|refine zu3 ?_|refine zu4 fun _ => ?_|refine zv1 ?_|refine zv2 ?_|refine zzj (fun _ => ?_) fun _ => ?_)))))
        refine WL_ent (m' := [ro w [] G, atB bs n.xs.length (takeS n.xs), atB bf n.xs.length (takeO n.xs a.arr), zB b4, boxB b3 a]) zent ?_
        refine WL_row (enc := encI) (sz := 1) (e := 3) (p := some ⟨bs, 0, none⟩) (n := n.xs.length) (c := n.xs.length) (xs := takeS n.xs) (fun _ => rfl) (by decide) rfl (by rw [flatA]; exact Ent.refl) fun G1 g1 r1 => ?_
        refine WL_row (enc := encI) (sz := 1) (e := 3) (p := some ⟨bf, 0, none⟩) (n := n.xs.length) (c := n.xs.length) (xs := takeO n.xs a.arr) (fun _ => rfl) (by decide) rfl (by rw [flatA]; exact Ent.refl) fun G2 g2 r2 => ?_
        have g12 := Rd.grow_tr g1 g2
        have hC := fun W (h : Rd.le G2 W.cell?) => cntN hTl (r1.mono g2.1) hSI W h
        by_cases hc : (countF (takeS n.xs)).2 = 0
        · obtain ⟨m, hm, hm4, hm6, hmI⟩ := count_ok hc
          rw [if_neg (fun h => h hc)]
          rw [hm, errV_zero] at hC
          refine WL_callV rfl rfl rfl (fun W hW => hC W (hW.le zpk)) ?_
          clear hC
          ((repeat' (first|refine zza ?_|refine zc9 ?_|refine zzb fun w hw => ?_|refine zzh fun _ => ?_|refine zzi fun _ _ => ?_|refine zu1 ?_|refine zu2 ?_|refine zu3 ?_|refine zu4 fun _ => ?_|refine zzj (fun _ => ?_) fun _ => ?_)); (repeat' (refine CW_seq ?_; (repeat' (first|refine zza ?_|refine zc9 ?_|refine zzb fun w hw => ?_|refine zzh fun _ => ?_|refine zzi fun _ _ => ?_|refine zu1 ?_|refine zu2 ?_|refine zu3 ?_|refine zu4 fun _ => ?_|refine zzj (fun _ => ?_) fun _ => ?_)))))
          refine WL_callX rfl rfl rfl (fun W hW => cut_windowN a hOl hTl m G2 W (hW.le zpk) (ha.mono g12.1) ga r2 (r1.mono g2.1) hfI hmI (hTl.trans hl) (hOl.trans hl) hm hm4) ?_
          rintro z _
          dsimp only [List.cons_append, List.nil_append]
          ((repeat' (first|refine zza ?_|refine zc9 ?_|refine zzb fun w hw => ?_|refine zzh fun _ => ?_|refine zzi fun _ _ => ?_|refine zu1 ?_|refine zu2 ?_|refine zu3 ?_|refine zu4 fun _ => ?_|refine zzj (fun _ => ?_) fun _ => ?_)); (repeat' (refine CW_seq ?_; (repeat' (first|refine zza ?_|refine zc9 ?_|refine zzb fun w hw => ?_|refine zzh fun _ => ?_|refine zzi fun _ _ => ?_|refine zu1 ?_|refine zu2 ?_|refine zu3 ?_|refine zu4 fun _ => ?_|refine zzj (fun _ => ?_) fun _ => ?_)))))
          refine EX_retK2 (b := b4) rfl rfl rfl rfl zpk rfl fun w' hw => ?_
          exact ResT.up g12 (ResT.ofO (x := winF a.arr (takeO n.xs a.arr) (takeS n.xs)) (z := z) (hw.ent (Ent.cons zpk (Ent.cons zpk (Ent.cons zpk Ent.nil)))) hSI (winF_I ha.dataI))
        · rw [if_pos hc]
          rw [errV_ne hc] at hC
          refine WL_callV rfl rfl rfl (fun W hW => hC W (hW.le zpk)) ?_
          clear hC
          ((repeat' (first|refine zza ?_|refine zc9 ?_|refine zzb fun w hw => ?_|refine zzh fun _ => ?_|refine zzi fun _ _ => ?_|refine zu1 ?_|refine zu2 ?_|refine zu3 ?_|refine zu4 fun _ => ?_|refine zzj (fun _ => ?_) fun _ => ?_)); (repeat' (refine CW_seq ?_; (repeat' (first|refine zza ?_|refine zc9 ?_|refine zzb fun w hw => ?_|refine zzh fun _ => ?_|refine zzi fun _ _ => ?_|refine zu1 ?_|refine zu2 ?_|refine zu3 ?_|refine zu4 fun _ => ?_|refine zzj (fun _ => ?_) fun _ => ?_)))))
          refine EX_retK2 (b := b4) rfl rfl rfl rfl zpk rfl fun w' hw => ?_
          exact ResT.up g12 (ResT.err hc (hw.ent (Ent.cons zpk Ent.nil)))
    · refine Pr_two 2 5 (by decide +kernel) ?_ ?_
      · refine Stp_makeI (n := n.xs.length) rfl rfl rfl (by omega) (by omega) rfl fun bs => ?_
        refine Pr_two 5 6 (by decide +kernel) ?_ ?_
        · refine Stp_makeI (n := n.xs.length) rfl rfl rfl (by omega) (by omega) rfl fun bf => ?_
          refine Pr_one 6 (by decide +kernel) ?_
          refine Stp_op rfl rfl (y_assign rfl) ?_
          exact Pr_end (by decide +kernel) ⟨(bs, bf), ⟨rfl, rfl, rfl, rfl, rfl⟩, zent⟩
        · refine Stp_op rfl rfl (y_assign rfl) ?_
          refine Pr_one 5 (by decide +kernel) ?_
          refine Stp_makeI (n := n.xs.length) rfl rfl rfl (by omega) (by omega) rfl fun bf => ?_
          exact Pr_end (by decide +kernel) ⟨(bs, bf), ⟨rfl, rfl, rfl, rfl, rfl⟩, zent⟩
      · refine Stp_makeI (n := n.xs.length) rfl rfl rfl (by omega) (by omega) rfl fun bf => ?_
        refine Pr_one 2 (by decide +kernel) ?_
        refine Stp_makeI (n := n.xs.length) rfl rfl rfl (by omega) (by omega) rfl fun bs => ?_
        refine Pr_one 6 (by decide +kernel) ?_
        refine Stp_op rfl rfl (y_assign rfl) ?_
        exact Pr_end (by decide +kernel) ⟨(bs, bf), ⟨rfl, rfl, rfl, rfl, rfl⟩, zent⟩
  · have hF : takeF n.xs a.arr = (4, zeroA) := if_pos hl
    rw [hF]
    clear hF
    ((repeat' (first|refine zza ?_|refine zc9 ?_|refine zzb fun w hw => ?_|refine zzh fun _ => ?_|refine zzi fun _ _ => ?_|refine zu1 ?_|refine zu2 ?_|refine zu3 ?_|refine zu4 fun _ => ?_|refine zzj (fun _ => ?_) fun _ => ?_)); (repeat' (refine CW_seq ?_; (repeat' (first|refine zza ?_|refine zc9 ?_|refine zzb fun w hw => ?_|refine zzh fun _ => ?_|refine zzi fun _ _ => ?_|refine zu1 ?_|refine zu2 ?_|refine zu3 ?_|refine zu4 fun _ => ?_|refine zzj (fun _ => ?_) fun _ => ?_)))))
    rename_i b3 b4
    refine WL_callV rfl rfl rfl (fun W hW => hA W (hW.le zpk)) ?_
    clear hA
    ((repeat' (first|refine zza ?_|refine zc9 ?_|refine zzb fun w hw => ?_|refine zzh fun _ => ?_|refine zzi fun _ _ => ?_|refine zu1 ?_|refine zu2 ?_|refine zu3 ?_|refine zu4 fun _ => ?_|refine zzj (fun _ => ?_) fun _ => ?_)); (repeat' (refine CW_seq ?_; (repeat' (first|refine zza ?_|refine zc9 ?_|refine zzb fun w hw => ?_|refine zzh fun _ => ?_|refine zzi fun _ _ => ?_|refine zu1 ?_|refine zu2 ?_|refine zu3 ?_|refine zu4 fun _ => ?_|refine zzj (fun _ => ?_) fun _ => ?_)))))
    refine EX_retK2 (b := b4) rfl rfl rfl rfl zpk rfl fun w' hw => ?_
    exact ResT.err (by decide) (hw.ent (Ent.cons zpk Ent.nil))
end Go.Proofs.YtadlpfbjnpbnoaaGreatDoor
