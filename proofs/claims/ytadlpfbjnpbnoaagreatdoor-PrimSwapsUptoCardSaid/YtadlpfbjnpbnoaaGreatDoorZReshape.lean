/-
  The package arr: arr.Match.
  The package arr: arr.Reshape.
-/
import Derived.Test.YtadlpfbjnpbnoaaGreatDoorZGo
import Derived.Test.YtadlpfbjnpbnoaaGreatDoorZArrW
import Derived.Test.YtadlpfbjnpbnoaaGreatDoorZTwoEx
namespace Go.Proofs.YtadlpfbjnpbnoaaGreatDoor
open Go.RowKit
def matchF (a b : Arr) : Bool × Int := if a.bad ≠ 0 then (false, a.bad) else if b.bad ≠ 0 then (false, b.bad) else (decide (a.char = b.char ∧ a.shape = b.shape ∧ a.data = b.data), 0)
set_option maxHeartbeats 8000000 in
set_option maxRecDepth 100000 in
theorem arr_Match (a b : ArrM) (G : Rd) (w : World) (hS : Rd.le G w.cell?) (ha : ArrG G a) (hb : ArrG G b) :
    Calls Tryz.prog 116 #[arrV a, arrV b] w fun e w' => e = .returned (.tuple #[.bool (matchF a.arr b.arr).1, errV 28 (matchF a.arr b.arr).2]) ∧ Below w.heap.size w w' := by
  refine enterR (args := [_, _]) (m := []) (F := []) hS.sub rfl Tryz.func116 rfl Tryz.ntmps116 (by simp) ?_
  clear hS
  have hA := fun W (h : Rd.le G W.cell?) => chk a G W ha h
  have hB := fun W (h : Rd.le G W.cell?) => chk b G W hb h
  ((repeat' (first|refine zza ?_|refine zc9 ?_|refine zzb fun w hw => ?_|refine zzh fun _ => ?_|refine zzi fun _ _ => ?_|refine zu1 ?_|refine zu2 ?_|refine zu3 ?_|refine zu4 fun _ => ?_|refine zzj (fun _ => ?_) fun _ => ?_)); (repeat' (refine CW_seq ?_; (repeat' (first|refine zza ?_|refine zc9 ?_|refine zzb fun w hw => ?_|refine zzh fun _ => ?_|refine zzi fun _ _ => ?_|refine zu1 ?_|refine zu2 ?_|refine zu3 ?_|refine zu4 fun _ => ?_|refine zzj (fun _ => ?_) fun _ => ?_)))))
  by_cases h1 : a.arr.bad = 0
  · rw [h1, errV_zero] at hA
    refine WL_callV rfl rfl rfl (fun W hW => hA W (hW.le zpk)) ?_
    clear hA
    ((repeat' (first|refine zza ?_|refine zc9 ?_|refine zzb fun w hw => ?_|refine zzh fun _ => ?_|refine zzi fun _ _ => ?_|refine zu1 ?_|refine zu2 ?_|refine zu3 ?_|refine zu4 fun _ => ?_|refine zzj (fun _ => ?_) fun _ => ?_)); (repeat' (refine CW_seq ?_; (repeat' (first|refine zza ?_|refine zc9 ?_|refine zzb fun w hw => ?_|refine zzh fun _ => ?_|refine zzi fun _ _ => ?_|refine zu1 ?_|refine zu2 ?_|refine zu3 ?_|refine zu4 fun _ => ?_|refine zzj (fun _ => ?_) fun _ => ?_)))))
    by_cases h2 : b.arr.bad = 0
    · have hm : matchF a.arr b.arr = (decide (a.char = b.char ∧ a.shape.xs = b.shape.xs ∧ a.data.xs = b.data.xs), 0) := by
        unfold matchF
        rw [if_neg (by simp [h1]), if_neg (by simp [h2])]
        rfl
      rw [h2, errV_zero] at hB
      rw [hm, errV_zero]
      refine WL_callV rfl rfl rfl (fun W hW => hB W (hW.le zpk)) ?_
      clear hB
      have hs1 := ha.shape
      have hs2 := hb.shape
      have hd1 := ha.data
      have hd2 := hb.data
      clear ha hb
      by_cases hc : a.char = b.char
      · by_cases hs : a.shape.xs = b.shape.xs
        · ((repeat' (first|refine zza ?_|refine zc9 ?_|refine zzb fun w hw => ?_|refine zzh fun _ => ?_|refine zzi fun _ _ => ?_|refine zu1 ?_|refine zu2 ?_|refine zu3 ?_|refine zu4 fun _ => ?_|refine zzj (fun _ => ?_) fun _ => ?_)); (repeat' (refine CW_seq ?_; (repeat' (first|refine zza ?_|refine zc9 ?_|refine zzb fun w hw => ?_|refine zzh fun _ => ?_|refine zzi fun _ _ => ?_|refine zu1 ?_|refine zu2 ?_|refine zu3 ?_|refine zu4 fun _ => ?_|refine zzj (fun _ => ?_) fun _ => ?_)))))
          refine WL_callV rfl rfl rfl (fun W hW => ints_Equal _ _ _ _ _ _ G W hs1 hs2 (hW.le zpk)) ?_
          rw [decide_eq_true hs]
          ((repeat' (first|refine zza ?_|refine zc9 ?_|refine zzb fun w hw => ?_|refine zzh fun _ => ?_|refine zzi fun _ _ => ?_|refine zu1 ?_|refine zu2 ?_|refine zu3 ?_|refine zu4 fun _ => ?_|refine zzj (fun _ => ?_) fun _ => ?_)); (repeat' (refine CW_seq ?_; (repeat' (first|refine zza ?_|refine zc9 ?_|refine zzb fun w hw => ?_|refine zzh fun _ => ?_|refine zzi fun _ _ => ?_|refine zu1 ?_|refine zu2 ?_|refine zu3 ?_|refine zu4 fun _ => ?_|refine zzj (fun _ => ?_) fun _ => ?_)))))
          refine WL_callV rfl rfl rfl (fun W hW => ints_Equal _ _ _ _ _ _ G W hd1 hd2 (hW.le zpk)) ?_
          ((repeat' (first|refine zza ?_|refine zc9 ?_|refine zzb fun w hw => ?_|refine zzh fun _ => ?_|refine zzi fun _ _ => ?_|refine zu1 ?_|refine zu2 ?_|refine zu3 ?_|refine zu4 fun _ => ?_|refine zzj (fun _ => ?_) fun _ => ?_)); (repeat' (refine CW_seq ?_; (repeat' (first|refine zza ?_|refine zc9 ?_|refine zzb fun w hw => ?_|refine zzh fun _ => ?_|refine zzi fun _ _ => ?_|refine zu1 ?_|refine zu2 ?_|refine zu3 ?_|refine zu4 fun _ => ?_|refine zzj (fun _ => ?_) fun _ => ?_)))))
          exact ⟨by simp [hc, hs], hw.below⟩
        · ((repeat' (first|refine zza ?_|refine zc9 ?_|refine zzb fun w hw => ?_|refine zzh fun _ => ?_|refine zzi fun _ _ => ?_|refine zu1 ?_|refine zu2 ?_|refine zu3 ?_|refine zu4 fun _ => ?_|refine zzj (fun _ => ?_) fun _ => ?_)); (repeat' (refine CW_seq ?_; (repeat' (first|refine zza ?_|refine zc9 ?_|refine zzb fun w hw => ?_|refine zzh fun _ => ?_|refine zzi fun _ _ => ?_|refine zu1 ?_|refine zu2 ?_|refine zu3 ?_|refine zu4 fun _ => ?_|refine zzj (fun _ => ?_) fun _ => ?_)))))
          refine WL_callV rfl rfl rfl (fun W hW => ints_Equal _ _ _ _ _ _ G W hs1 hs2 (hW.le zpk)) ?_
          rw [decide_eq_false hs]
          ((repeat' (first|refine zza ?_|refine zc9 ?_|refine zzb fun w hw => ?_|refine zzh fun _ => ?_|refine zzi fun _ _ => ?_|refine zu1 ?_|refine zu2 ?_|refine zu3 ?_|refine zu4 fun _ => ?_|refine zzj (fun _ => ?_) fun _ => ?_)); (repeat' (refine CW_seq ?_; (repeat' (first|refine zza ?_|refine zc9 ?_|refine zzb fun w hw => ?_|refine zzh fun _ => ?_|refine zzi fun _ _ => ?_|refine zu1 ?_|refine zu2 ?_|refine zu3 ?_|refine zu4 fun _ => ?_|refine zzj (fun _ => ?_) fun _ => ?_)))))
          exact ⟨by simp [hs], hw.below⟩
      · ((repeat' (first|refine zza ?_|refine zc9 ?_|refine zzb fun w hw => ?_|refine zzh fun _ => ?_|refine zzi fun _ _ => ?_|refine zu1 ?_|refine zu2 ?_|refine zu3 ?_|refine zu4 fun _ => ?_|refine zzj (fun _ => ?_) fun _ => ?_)); (repeat' (refine CW_seq ?_; (repeat' (first|refine zza ?_|refine zc9 ?_|refine zzb fun w hw => ?_|refine zzh fun _ => ?_|refine zzi fun _ _ => ?_|refine zu1 ?_|refine zu2 ?_|refine zu3 ?_|refine zu4 fun _ => ?_|refine zzj (fun _ => ?_) fun _ => ?_)))))
        exact ⟨by simp [hc], hw.below⟩
    · have hm : matchF a.arr b.arr = (false, b.arr.bad) := by
        unfold matchF
        rw [if_neg (by simp [h1]), if_pos h2]
      rw [errV_ne h2] at hB
      rw [hm, errV_ne h2]
      refine WL_callV rfl rfl rfl (fun W hW => hB W (hW.le zpk)) ?_
      clear hB
      ((repeat' (first|refine zza ?_|refine zc9 ?_|refine zzb fun w hw => ?_|refine zzh fun _ => ?_|refine zzi fun _ _ => ?_|refine zu1 ?_|refine zu2 ?_|refine zu3 ?_|refine zu4 fun _ => ?_|refine zzj (fun _ => ?_) fun _ => ?_)); (repeat' (refine CW_seq ?_; (repeat' (first|refine zza ?_|refine zc9 ?_|refine zzb fun w hw => ?_|refine zzh fun _ => ?_|refine zzi fun _ _ => ?_|refine zu1 ?_|refine zu2 ?_|refine zu3 ?_|refine zu4 fun _ => ?_|refine zzj (fun _ => ?_) fun _ => ?_)))))
      exact ⟨rfl, hw.below⟩
  · have hm : matchF a.arr b.arr = (false, a.arr.bad) := by
      unfold matchF
      rw [if_pos h1]
    rw [errV_ne h1] at hA
    rw [hm, errV_ne h1]
    refine WL_callV rfl rfl rfl (fun W hW => hA W (hW.le zpk)) ?_
    clear hA
    ((repeat' (first|refine zza ?_|refine zc9 ?_|refine zzb fun w hw => ?_|refine zzh fun _ => ?_|refine zzi fun _ _ => ?_|refine zu1 ?_|refine zu2 ?_|refine zu3 ?_|refine zu4 fun _ => ?_|refine zzj (fun _ => ?_) fun _ => ?_)); (repeat' (refine CW_seq ?_; (repeat' (first|refine zza ?_|refine zc9 ?_|refine zzb fun w hw => ?_|refine zzh fun _ => ?_|refine zzi fun _ _ => ?_|refine zu1 ?_|refine zu2 ?_|refine zu3 ?_|refine zu4 fun _ => ?_|refine zzj (fun _ => ?_) fun _ => ?_)))))
    exact ⟨rfl, hw.below⟩
end Go.Proofs.YtadlpfbjnpbnoaaGreatDoor
namespace Go.Proofs.YtadlpfbjnpbnoaaGreatDoor
open Go.RowKit
theorem prodNn : ∀ (s : List Int) (a : Int), 0 ≤ a → (∀ n ∈ s, 0 ≤ n) → 0 ≤ (prodF a s).1
  | [], _, h, _ => h
  | n :: r, a, h, hs => by
    rw [prodF]
    split
    · exact Int.le_refl _
    · exact prodNn r _ (Int.mul_nonneg h (hs n (by simp))) fun x hx => hs x (by simp [hx])
/-- a shape that may be -/
theorem count_ok {s : List Int} (h : (countF s).2 = 0) : ∃ n : Nat, countF s = ((n : Int), 0) ∧ n ≤ 4096 ∧ s.length ≤ 6 ∧ ∀ x ∈ s, 0 ≤ x ∧ x ≤ 4096 := by
  have h6 : s.length ≤ 6 := by
    by_cases hl : 6 < s.length
    · unfold countF at h
      rw [if_pos hl] at h
      cases h
    · omega
  have hb : badAxis s = 0 := by
    by_cases hb : badAxis s = 0
    · exact hb
    · unfold countF at h
      rw [if_neg (by omega), if_pos hb] at h
      exact absurd h hb
  have hax := badAxis_zero hb
  have hc : (countF s).1 ≤ 4096 ∧ 0 ≤ (countF s).1 := by
    unfold countF
    rw [if_neg (by omega), if_neg (by rw [hb]; simp)]
    split
    · decide
    · exact ⟨Arr.good.prodLe (a := zeroA) s 1 (by decide), prodNn s 1 (by decide) fun x hx => (hax x hx).1⟩
  refine ⟨(countF s).1.toNat, Prod.ext (by show (countF s).1 = _; omega) h, by omega, h6, hax⟩
theorem fill_I (c : Bool) : I64 (fillA c) := by cases c <;> exact ⟨by decide, by decide⟩
theorem cyc_I {xs : List Int} {z : Int} (h : ∀ x ∈ xs, I64 x) (hz : I64 z) (n : Nat) : ∀ x ∈ cycL xs z n, I64 x := fun x hx => by
  obtain ⟨i, _, rfl⟩ := List.mem_map.1 hx
  split
  · exact hz
  · exact getD_I h _
def reshapeF (s : List Int) (a : Arr) : Int × Arr := if (countF s).2 ≠ 0 then ((countF s).2, zeroA) else if a.bad ≠ 0 then (a.bad, zeroA) else (0, ⟨a.char, s, cycL a.data (fillA a.char) (countF s).1.toNat⟩)
set_option maxHeartbeats 16000000 in
set_option maxRecDepth 100000 in
theorem arr_Reshape (s : SlV Int) (a : ArrM) (G : Rd) (w : World) (hS : Rd.le G w.cell?) (ha : ArrG G a) (hs : Row encI 1 G s.p s.c s.xs) (hsI : ∀ x ∈ s.xs, I64 x) :
    Calls Tryz.prog 102 #[.slice s.p s.xs.length s.c, arrV a] w (ResT (reshapeF s.xs a.arr) G w) := by
  refine enterR (args := [_, _]) (m := []) (F := []) hS.sub rfl Tryz.func102 rfl Tryz.ntmps102 (by simp) ?_
  clear hS
  have hC := fun W (h : Rd.le G W.cell?) => cnt s.p s.c s.xs G W hs hsI h
  have hA := fun W (h : Rd.le G W.cell?) => chk a G W ha h
  ((repeat' (first|refine zza ?_|refine zc9 ?_|refine zzb fun w hw => ?_|refine zzh fun _ => ?_|refine zzi fun _ _ => ?_|refine zu1 ?_|refine zu2 ?_|refine zu3 ?_|refine zu4 fun _ => ?_|refine zzj (fun _ => ?_) fun _ => ?_)); (repeat' (refine CW_seq ?_; (repeat' (first|refine zza ?_|refine zc9 ?_|refine zzb fun w hw => ?_|refine zzh fun _ => ?_|refine zzi fun _ _ => ?_|refine zu1 ?_|refine zu2 ?_|refine zu3 ?_|refine zu4 fun _ => ?_|refine zzj (fun _ => ?_) fun _ => ?_)))))
  rename_i b3 b4
  by_cases h0 : (countF s.xs).2 = 0
  · obtain ⟨n, hn, hn1, hn2, _⟩ := count_ok h0
    rw [hn, errV_zero] at hC
    refine WL_callV rfl rfl rfl (fun W hW => hC W (hW.le zpk)) ?_
    clear hC
    ((repeat' (first|refine zza ?_|refine zc9 ?_|refine zzb fun w hw => ?_|refine zzh fun _ => ?_|refine zzi fun _ _ => ?_|refine zu1 ?_|refine zu2 ?_|refine zu3 ?_|refine zu4 fun _ => ?_|refine zzj (fun _ => ?_) fun _ => ?_)); (repeat' (refine CW_seq ?_; (repeat' (first|refine zza ?_|refine zc9 ?_|refine zzb fun w hw => ?_|refine zzh fun _ => ?_|refine zzi fun _ _ => ?_|refine zu1 ?_|refine zu2 ?_|refine zu3 ?_|refine zu4 fun _ => ?_|refine zzj (fun _ => ?_) fun _ => ?_)))))
    by_cases h1 : a.arr.bad = 0
    · have hr : reshapeF s.xs a.arr = (0, ⟨a.char, s.xs, cycL a.data.xs (fillA a.char) n⟩) := by
        unfold reshapeF
        rw [if_neg (by simp [h0]), if_neg (by simp [h1]), hn]
        rfl
      rw [hr]
      rw [h1, errV_zero] at hA
      refine WL_callV rfl rfl rfl (fun W hW => hA W (hW.le zpk)) ?_
      clear hA hr
      (repeat' ((fail_if_success refine zc8 ?_); (first|refine zza ?_|refine zzb fun w hw => ?_|refine zzh fun _ => ?_|refine zzi fun _ _ => ?_|refine zzj (fun _ => ?_) fun _ => ?_)))
      refine CW_par 11 [0, 1, 2, 4, 5, 6, 7] [3, 8, 9, 10] [boxB b3 a, ro w [] G] (pm := [zB b4]) Ent.refl (by kernel_rfl) (by decide +kernel) ?_
      (refine WP_op rfl rfl rfl zyi ?_)
      (refine WP_op rfl rfl rfl zyi ?_)
      (refine WP_op rfl rfl rfl zyi ?_)
      (refine WP_op rfl rfl rfl zyi ?_)
      (refine WP_op rfl rfl rfl zyi ?_)
      (refine WP_op rfl rfl rfl zyi ?_)
      (refine WP_op rfl rfl rfl zyi ?_)
      refine WP_par (fun ρ m => ∃ z : (Option Addr × Nat) × (Option Addr × Nat), (ρ.find 34 = some (.agg #[.bool a.char, .slice z.1.1 s.xs.length z.1.2, .slice z.2.1 n z.2.2]) ∧ ρ.find 4 = some (ptrV b4)) ∧ m = [sl 3 1 z.2.1 n z.2.2 ((cycL a.data.xs (fillA a.char) n).map (Value.int .i64))] ++ ([] ++ ([sl 3 1 z.1.1 s.xs.length z.1.2 (s.xs.map (Value.int .i64))] ++ [zB b4]))) (m1 := [zB b4]) Ent.refl (by decide +kernel) ?_ ?_
      · rintro ρ m ⟨⟨⟨q1, k1⟩, q2, k2⟩, ⟨f1, f2⟩, rfl⟩
        dsimp only at f1 f2 ⊢
        refine WL_cov (ρ' := [(34, .agg #[.bool a.char, .slice q1 s.xs.length k1, .slice q2 n k2]), (4, ptrV b4)]) (Cov.cons f1 rfl (Cov.cons f2 rfl Cov.nil)) ?_
        refine WL_ent (m' := [zB b4, sl 3 1 q1 s.xs.length k1 (s.xs.map (Value.int .i64)), sl 3 1 q2 n k2 ((cycL a.data.xs (fillA a.char) n).map (Value.int .i64)), ro w [] G]) (Ent.cons (.there (.there .here)) (Ent.cons (.there .here) (Ent.cons .here (Ent.cons (.there .here) Ent.nil)))) ?_
        clear f1 f2 ρ
        ((repeat' (first|refine zza ?_|refine zc9 ?_|refine zzb fun w hw => ?_|refine zzh fun _ => ?_|refine zzi fun _ _ => ?_|refine zu1 ?_|refine zu2 ?_|refine zu3 ?_|refine zu4 fun _ => ?_|refine zzj (fun _ => ?_) fun _ => ?_)); (repeat' (refine CW_seq ?_; (repeat' (first|refine zza ?_|refine zc9 ?_|refine zzb fun w hw => ?_|refine zzh fun _ => ?_|refine zzi fun _ _ => ?_|refine zu1 ?_|refine zu2 ?_|refine zu3 ?_|refine zu4 fun _ => ?_|refine zzj (fun _ => ?_) fun _ => ?_)))))
        refine EX_retK2 (b := b4) rfl rfl rfl rfl zpk rfl fun w' hw => ?_
        exact ResT.own (hw.ent (Ent.cons zpk (Ent.cons zpk (Ent.cons zpk Ent.nil)))) rfl (by simp [cycL]) rfl hsI (cyc_I ha.dataI (fill_I _) n)
      · refine Pr_one 3 (by decide +kernel) ?_
        refine Stp_callX (r2 := [boxB b3 a]) zpk rfl rfl rfl (fun W hl => ints_Clone s.p s.c s.xs G W hs (by omega) hl) ?_
        rintro x1 _
        refine Pr_one 8 (by decide +kernel) ?_
        refine Stp_callX (X := Unit) (I := fun _ => True) (V := fun _ => .int .i64 (fillA a.char)) (M := fun _ => []) (r2 := [boxB b3 a]) zpk rfl rfl rfl (fun W hl => (arr_fill a W).mono fun e w' hh => ⟨(), trivial, hh.1, (Holds.start (w := W) (m := []) rfl).grow hh.2⟩) ?_
        rintro _ _
        refine Pr_one 9 (by decide +kernel) ?_
        refine Stp_callX (r2 := [boxB b3 a]) zpk rfl rfl rfl (fun W hl => arr_cycled a.data.p a.data.c n a.data.xs (fillA a.char) G W hl ha.data (by omega)) ?_
        rintro x2 _
        refine Pr_one 10 (by decide +kernel) ?_
        refine Stp_op rfl rfl (y_build rfl rfl) ?_
        exact Pr_end (by decide +kernel) ⟨(x1, x2), ⟨rfl, rfl⟩, rfl⟩
    · have hr : reshapeF s.xs a.arr = (a.arr.bad, zeroA) := by
        unfold reshapeF
        rw [if_neg (by simp [h0]), if_pos h1]
      rw [hr]
      rw [errV_ne h1] at hA
      refine WL_callV rfl rfl rfl (fun W hW => hA W (hW.le zpk)) ?_
      clear hA hr
      ((repeat' (first|refine zza ?_|refine zc9 ?_|refine zzb fun w hw => ?_|refine zzh fun _ => ?_|refine zzi fun _ _ => ?_|refine zu1 ?_|refine zu2 ?_|refine zu3 ?_|refine zu4 fun _ => ?_|refine zzj (fun _ => ?_) fun _ => ?_)); (repeat' (refine CW_seq ?_; (repeat' (first|refine zza ?_|refine zc9 ?_|refine zzb fun w hw => ?_|refine zzh fun _ => ?_|refine zzi fun _ _ => ?_|refine zu1 ?_|refine zu2 ?_|refine zu3 ?_|refine zu4 fun _ => ?_|refine zzj (fun _ => ?_) fun _ => ?_)))))
      refine EX_retK2 (b := b4) rfl rfl rfl rfl zpk rfl fun w' hw => ?_
      exact ResT.err h1 (hw.ent (Ent.cons zpk Ent.nil))
  · have hr : reshapeF s.xs a.arr = ((countF s.xs).2, zeroA) := by
      unfold reshapeF
      rw [if_pos h0]
    rw [hr]
    rw [errV_ne h0] at hC
    refine WL_callV rfl rfl rfl (fun W hW => hC W (hW.le zpk)) ?_
    clear hC hr
    ((repeat' (first|refine zza ?_|refine zc9 ?_|refine zzb fun w hw => ?_|refine zzh fun _ => ?_|refine zzi fun _ _ => ?_|refine zu1 ?_|refine zu2 ?_|refine zu3 ?_|refine zu4 fun _ => ?_|refine zzj (fun _ => ?_) fun _ => ?_)); (repeat' (refine CW_seq ?_; (repeat' (first|refine zza ?_|refine zc9 ?_|refine zzb fun w hw => ?_|refine zzh fun _ => ?_|refine zzi fun _ _ => ?_|refine zu1 ?_|refine zu2 ?_|refine zu3 ?_|refine zu4 fun _ => ?_|refine zzj (fun _ => ?_) fun _ => ?_)))))
    refine EX_retK2 (b := b4) rfl rfl rfl rfl zpk rfl fun w' hw => ?_
    exact ResT.err h0 (hw.ent (Ent.cons zpk Ent.nil))
end Go.Proofs.YtadlpfbjnpbnoaaGreatDoor
