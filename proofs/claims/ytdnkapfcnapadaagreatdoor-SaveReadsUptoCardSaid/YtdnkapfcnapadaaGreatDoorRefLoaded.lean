/-
  ravelinref5: count, small.
  ravelinref5.loadedValue.
-/
import Derived.Test.YtdnkapfcnapadaaGreatDoorGo
import Derived.Test.YtdnkapfcnapadaaGreatDoorLitL
import Derived.Test.YtdnkapfcnapadaaGreatDoorSaveR2
import Derived.Test.YtdnkapfcnapadaaGreatDoorRefFlaw
import Derived.Test.YtdnkapfcnapadaaGreatDoorSaveR3
namespace Go.Proofs.YtdnkapfcnapadaaGreatDoor
open Go.RowKit

/-- what count tells -/
def cntR (l : List UInt8) (k : Nat) : Int × Int := match cntG 0 0 (l.drop k) with
  | none => (0, -1)
  | some (n, r) => ((n : Int), (l.length : Int) - (r.length : Int))
theorem cnt_nine {b : UInt8} {acc : Nat} {r : List UInt8} (h : 1 < b.toNat) : cntG 63 acc (b :: r) = none := by
  rw [cntG]
  by_cases h2 : 2 ^ 64 ≤ b.toNat % 128 * 2 ^ 63
  · rw [if_pos (.inr (.inr h2))]
  · rw [if_neg (by rintro (h | h | h); omega; omega; exact h2 h), if_neg (by omega)]
    cases r with
    | nil => rfl
    | cons b' r => rw [cntG, if_pos (.inl (by decide))]
set_option maxHeartbeats 4000000 in
set_option maxRecDepth 100000 in
theorem ref_count (l : List UInt8) (k : Nat) (hl : l.length ≤ 1099511627776) (hk : k ≤ l.length) (w : World) :
    Calls Tryz.prog 76 #[.string ⟨l.toArray⟩, .int .i64 (k : Int)] w fun e w' => e = .returned (.tuple #[.int .u64 (cntR l k).1, .int .i64 (cntR l k).2]) ∧ Below w.heap.size w w' := by
  obtain ⟨Z, hZ⟩ : ∃ Z, cntG 0 0 (l.drop k) = Z := ⟨_, rfl⟩
  obtain ⟨R, hR⟩ : ∃ R, cntR l k = R := ⟨_, rfl⟩
  rw [hR]
  unfold cntR at hR
  rw [hZ] at hR
  refine enter (args := [_, _]) (m := []) (F := []) Tryz.func76 rfl Tryz.ntmps76 (by simp) rfl ?_
  (repeat' (first|refine zza ?_|refine zc9 ?_|refine zzb fun w hw => ?_|refine zzh fun _ => ?_|refine zzi fun _ _ => ?_|refine zzj (fun _ => ?_) fun _ => ?_))
  refine CW_loopK [(0,_),(1,_)] zcov (fun x : Nat × Nat => [(6, .int .u64 (x.2 : Int)), (7, .int .u64 ((2 ^ (7 * x.1) : Nat) : Int)), (8, .int .i64 (x.1 : Int))]) (fun _ => []) (fun x => cntG (7 * x.1) x.2 (l.drop (k + x.1)) = Z ∧ x.2 < 2 ^ (7 * x.1) ∧ x.1 ≤ 9) (fun x => 10 - x.1) (0, 0) ⟨hZ, by decide, by decide⟩ zcov zent ?_
  clear hZ
  rintro ⟨i, acc⟩ ⟨hc, ha, h9⟩
  dsimp only at hc ha h9 ⊢
  cases hd : l[k + i]? with
  | none =>
    have hle : l.length ≤ k + i := by simpa using hd
    rw [List.drop_eq_nil_of_le hle, cntG] at hc
    subst hc
    subst hR
    (repeat' (first|refine zza ?_|refine zc9 ?_|refine zzb fun w hw => ?_|refine zzh fun _ => ?_|refine zzi fun _ _ => ?_|refine zzj (fun _ => ?_) fun _ => ?_))
    exact ⟨rfl, hw.below⟩
  | some b =>
    have hki : k + i < l.length := (List.getElem?_eq_some_iff.1 hd).1
    have hg : l.getD (k + i) 0 = b := by rw [List.getD_eq_getElem?_getD, hd]; rfl
    have hb8 := b.toNat_lt
    have hcast : (k : Int) + (i : Int) = ((k + i : Nat) : Int) := by omega
    rw [drop_cons hd] at hc
    by_cases hn : i = 9 ∧ 1 < b.toNat
    · obtain ⟨rfl, hb1⟩ := hn
      rw [cnt_nine hb1] at hc
      subst hc
      subst hR
      (repeat' (first|refine zza ?_|refine zc9 ?_|refine zzb fun w hw => ?_|refine zzh fun _ => ?_|refine zzi fun _ _ => ?_|refine zzj (fun _ => ?_) fun _ => ?_))
      rw [hcast]
      (repeat' (first|refine zza ?_|refine zc9 ?_|refine zzb fun w hw => ?_|refine zzh fun _ => ?_|refine zzi fun _ _ => ?_|refine zzj (fun _ => ?_) fun _ => ?_))
      rw [hg]
      (apply WL_op rfl rfl (y_u64 rfl (by omega)))
      (repeat' (first|refine zza ?_|refine zc9 ?_|refine zzb fun w hw => ?_|refine zzh fun _ => ?_|refine zzi fun _ _ => ?_|refine zzj (fun _ => ?_) fun _ => ?_))
      exact ⟨rfl, hw.below⟩
    have hn' : i < 9 ∨ b.toNat ≤ 1 := by omega
    clear hn
    rw [cntG] at hc
    by_cases hz : 0 < i ∧ b.toNat = 0
    · obtain ⟨hz1, hz2⟩ := hz
      rw [if_pos (.inr (.inl ⟨hz2, by omega⟩))] at hc
      subst hc
      subst hR
      by_cases hi9 : i = 9
      · (repeat' (first|refine zza ?_|refine zc9 ?_|refine zzb fun w hw => ?_|refine zzh fun _ => ?_|refine zzi fun _ _ => ?_|refine zzj (fun _ => ?_) fun _ => ?_))
        rw [hcast]
        (repeat' (first|refine zza ?_|refine zc9 ?_|refine zzb fun w hw => ?_|refine zzh fun _ => ?_|refine zzi fun _ _ => ?_|refine zzj (fun _ => ?_) fun _ => ?_))
        rw [hg]
        (apply WL_op rfl rfl (y_u64 rfl (by omega)))
        (repeat' (first|refine zza ?_|refine zc9 ?_|refine zzb fun w hw => ?_|refine zzh fun _ => ?_|refine zzi fun _ _ => ?_|refine zzj (fun _ => ?_) fun _ => ?_))
        exact ⟨rfl, hw.below⟩
      · (repeat' (first|refine zza ?_|refine zc9 ?_|refine zzb fun w hw => ?_|refine zzh fun _ => ?_|refine zzi fun _ _ => ?_|refine zzj (fun _ => ?_) fun _ => ?_))
        rw [hcast]
        (repeat' (first|refine zza ?_|refine zc9 ?_|refine zzb fun w hw => ?_|refine zzh fun _ => ?_|refine zzi fun _ _ => ?_|refine zzj (fun _ => ?_) fun _ => ?_))
        rw [hg]
        (apply WL_op rfl rfl (y_u64 rfl (by omega)))
        (repeat' (first|refine zza ?_|refine zc9 ?_|refine zzb fun w hw => ?_|refine zzh fun _ => ?_|refine zzi fun _ _ => ?_|refine zzj (fun _ => ?_) fun _ => ?_))
        exact ⟨rfl, hw.below⟩
    · have hq63 : 2 ^ (7 * i) ≤ 2 ^ 63 := Nat.pow_le_pow_right (by omega) (by omega)
      have hprod : b.toNat % 128 * 2 ^ (7 * i) ≤ 2 ^ 63 := by
        rcases hn' with h | h
        · have h56 : 2 ^ (7 * i) ≤ 2 ^ 56 := Nat.pow_le_pow_right (by omega) (by omega)
          have := Nat.mul_le_mul (show b.toNat % 128 ≤ 128 by omega) h56
          omega
        · have := Nat.mul_le_mul (show b.toNat % 128 ≤ 1 by omega) hq63
          omega
      rw [if_neg (by rintro (h | h | h); omega; exact hz ⟨by omega, h.1⟩; omega)] at hc
      have h7 : i ≤ 8 → 2 ^ (7 * (i + 1)) = 2 ^ (7 * i) * 128 ∧ 2 ^ (7 * i) ≤ 2 ^ 56 := fun h => ⟨by rw [Nat.mul_add, Nat.pow_add], Nat.pow_le_pow_right (by omega) (by omega)⟩
      have hz' : i = 0 ∨ b.toNat ≠ 0 := by omega
      obtain ⟨q, hq⟩ : ∃ q, q = 2 ^ (7 * i) := ⟨_, rfl⟩
      rw [← hq] at hc ha hq63 hprod h7 ⊢
      obtain ⟨v, hv⟩ : ∃ v, v = b.toNat % 128 * q := ⟨_, rfl⟩
      rw [← hv] at hc hprod
      have e1 : ((b.toNat : Int) % 128 * (q : Int)) % 18446744073709551616 = (v : Int) := by
        have : (b.toNat : Int) % 128 * (q : Int) = (v : Int) := by rw [hv]; push_cast; rfl
        rw [this]; omega
      have hax : (acc : Int) + (v : Int) = ((acc + v : Nat) : Int) := by omega
      have hvq : b.toNat < 128 ∨ acc + v < 128 * q := by
        right
        have : v ≤ 127 * q := by rw [hv]; exact Nat.mul_le_mul_right _ (by omega)
        omega
      have hR' : b.toNat < 128 → R = (((acc + v : Nat) : Int), ((k + i : Nat) : Int) + 1) := fun h => by
        rw [if_pos h] at hc
        rw [← hR, ← hc]
        simp only [List.length_drop]
        refine Prod.ext rfl ?_
        show (l.length : Int) - _ = _
        omega
      have hgo : ¬ b.toNat < 128 → cntG (7 * (i + 1)) (acc + v) (l.drop (k + (i + 1))) = Z := fun h => by
        rw [if_neg h] at hc
        rw [← hc, Nat.mul_add]; rfl
      have hi8 : ¬ b.toNat < 128 → i ≤ 8 := fun h => by omega
      clear hc hR hz
      by_cases h128 : b.toNat < 128
      · rw [hR' h128]
        clear hR' hgo hi8 h7 hvq
        (repeat' (first|refine zza ?_|refine zc9 ?_|refine zzb fun w hw => ?_|refine zzh fun _ => ?_|refine zzi fun _ _ => ?_|refine zzj (fun _ => ?_) fun _ => ?_))
        rw [hcast]
        (repeat' (first|refine zza ?_|refine zc9 ?_|refine zzb fun w hw => ?_|refine zzh fun _ => ?_|refine zzi fun _ _ => ?_|refine zzj (fun _ => ?_) fun _ => ?_))
        rw [hg]
        (apply WL_op rfl rfl (y_u64 rfl (by omega)))
        (repeat' (first|refine zza ?_|refine zc9 ?_|refine zzb fun w hw => ?_|refine zzh fun _ => ?_|refine zzi fun _ _ => ?_|refine zzj (fun _ => ?_) fun _ => ?_))
        all_goals (
          apply WL_op rfl rfl (y_mulU rfl rfl)
          rw [e1]
          apply WL_op rfl rfl (y_addU rfl rfl (by omega))
          rw [hax]
          (repeat' (first|refine zza ?_|refine zc9 ?_|refine zzb fun w hw => ?_|refine zzh fun _ => ?_|refine zzi fun _ _ => ?_|refine zzj (fun _ => ?_) fun _ => ?_))
          apply WL_op rfl rfl (y_mulU rfl rfl)
          (repeat' (first|refine zza ?_|refine zc9 ?_|refine zzb fun w hw => ?_|refine zzh fun _ => ?_|refine zzi fun _ _ => ?_|refine zzj (fun _ => ?_) fun _ => ?_))
          rw [hcast]
          (repeat' (first|refine zza ?_|refine zc9 ?_|refine zzb fun w hw => ?_|refine zzh fun _ => ?_|refine zzi fun _ _ => ?_|refine zzj (fun _ => ?_) fun _ => ?_))
          exact ⟨rfl, hw.below⟩)
      · have hgo := hgo h128
        obtain ⟨h71, h72⟩ := h7 (hi8 h128)
        have hi8 := hi8 h128
        have hvq' : acc + v < 128 * q := by omega
        have e2 : (q : Int) * 128 % 18446744073709551616 = ((2 ^ (7 * (i + 1)) : Nat) : Int) := by rw [h71]; omega
        clear hR' h7 hvq
        (repeat' (first|refine zza ?_|refine zc9 ?_|refine zzb fun w hw => ?_|refine zzh fun _ => ?_|refine zzi fun _ _ => ?_|refine zzj (fun _ => ?_) fun _ => ?_))
        rw [hcast]
        (repeat' (first|refine zza ?_|refine zc9 ?_|refine zzb fun w hw => ?_|refine zzh fun _ => ?_|refine zzi fun _ _ => ?_|refine zzj (fun _ => ?_) fun _ => ?_))
        rw [hg]
        (apply WL_op rfl rfl (y_u64 rfl (by omega)))
        (repeat' (first|refine zza ?_|refine zc9 ?_|refine zzb fun w hw => ?_|refine zzh fun _ => ?_|refine zzi fun _ _ => ?_|refine zzj (fun _ => ?_) fun _ => ?_))
        all_goals (
          apply WL_op rfl rfl (y_mulU rfl rfl)
          rw [e1]
          apply WL_op rfl rfl (y_addU rfl rfl (by omega))
          rw [hax]
          (repeat' (first|refine zza ?_|refine zc9 ?_|refine zzb fun w hw => ?_|refine zzh fun _ => ?_|refine zzi fun _ _ => ?_|refine zzj (fun _ => ?_) fun _ => ?_))
          apply WL_op rfl rfl (y_mulU rfl rfl)
          rw [e2]
          (repeat' (first|refine zza ?_|refine zc9 ?_|refine zzb fun w hw => ?_|refine zzh fun _ => ?_|refine zzi fun _ _ => ?_|refine zzj (fun _ => ?_) fun _ => ?_))
          exact EX_loop' (i + 1, acc + v) ⟨zcov, zent, by dsimp only; omega, hgo, by dsimp only; rw [h71]; omega, by dsimp only; omega⟩)
/-- what small tells -/
def smallR (l : List UInt8) (k m : Nat) : Int × Int := match belowP m (l.drop k) with
  | none => (0, -1)
  | some (n, r) => (n, (l.length : Int) - (r.length : Int))
set_option maxRecDepth 100000 in
theorem ref_small (l : List UInt8) (k m : Nat) (hl : l.length ≤ 1099511627776) (hk : k ≤ l.length) (hm : m ≤ 4096) (w : World) :
    Calls Tryz.prog 41 #[.string ⟨l.toArray⟩, .int .i64 (k : Int), .int .i64 (m : Int)] w fun e w' => e = .returned (.tuple #[.int .i64 (smallR l k m).1, .int .i64 (smallR l k m).2]) ∧ Below w.heap.size w w' := by
  obtain ⟨R, hR⟩ : ∃ R, smallR l k m = R := ⟨_, rfl⟩
  rw [hR]
  unfold smallR belowP at hR
  refine enter (args := [_, _, _]) (m := []) (F := []) Tryz.func41 rfl Tryz.ntmps41 (by simp) rfl ?_
  (repeat' (first|refine zza ?_|refine zc9 ?_|refine zzb fun w hw => ?_|refine zzh fun _ => ?_|refine zzi fun _ _ => ?_|refine zzj (fun _ => ?_) fun _ => ?_))
  (apply WL_callV; rfl; rfl; rfl; (intro W hW; exact ref_count l k hl hk W))
  unfold cntR
  cases hc : cntG 0 0 (l.drop k) with
  | none =>
    rw [hc] at hR
    subst hR
    dsimp only
    (repeat' (first|refine zza ?_|refine zc9 ?_|refine zzb fun w hw => ?_|refine zzh fun _ => ?_|refine zzi fun _ _ => ?_|refine zzj (fun _ => ?_) fun _ => ?_))
    exact ⟨rfl, hw.below⟩
  | some x =>
    obtain ⟨n, r⟩ := x
    rw [hc] at hR
    dsimp only at hR ⊢
    have hn := (cnt_dec hc).2
    have hrl : r.length ≤ l.length := by have := congrArg List.length (cnt_dec hc).1; simp at this; omega
    by_cases hx : m < n
    · rw [if_pos hx] at hR
      subst hR
      (repeat' (first|refine zza ?_|refine zc9 ?_|refine zzb fun w hw => ?_|refine zzh fun _ => ?_|refine zzi fun _ _ => ?_|refine zzj (fun _ => ?_) fun _ => ?_))
      (apply WL_op rfl rfl (y_u64 rfl (by omega)))
      (repeat' (first|refine zza ?_|refine zc9 ?_|refine zzb fun w hw => ?_|refine zzh fun _ => ?_|refine zzi fun _ _ => ?_|refine zzj (fun _ => ?_) fun _ => ?_))
      exact ⟨rfl, hw.below⟩
    · rw [if_neg hx] at hR
      subst hR
      (repeat' (first|refine zza ?_|refine zc9 ?_|refine zzb fun w hw => ?_|refine zzh fun _ => ?_|refine zzi fun _ _ => ?_|refine zzj (fun _ => ?_) fun _ => ?_))
      (apply WL_op rfl rfl (y_u64 rfl (by omega)))
      (repeat' (first|refine zza ?_|refine zc9 ?_|refine zzb fun w hw => ?_|refine zzh fun _ => ?_|refine zzi fun _ _ => ?_|refine zzj (fun _ => ?_) fun _ => ?_))
      exact ⟨rfl, hw.below⟩
end Go.Proofs.YtdnkapfcnapadaaGreatDoor

namespace Go.Proofs.YtdnkapfcnapadaaGreatDoor
open Go.RowKit

section
variable {P : Program} {K : Cx} {ρ : Env} {m r : List HP} {ty : TypeId} {fs : List (Nat × Nat)} {zs : List Value}
theorem results_c2 {fn : Func} {n u : Nat} {w : World} {tmps : Array Value} {a : Addr} {cs : List Value} {v1 : Value} [S : StT P ty fs zs] (hr : fn.results = #[.cell n ty, .tmp u]) (ht : tmps.getD n undef = .pointer (some a)) (hc : ∀ j v, cs[j]? = some v → w.cell? (a.add j) = some v) (hl : cs.length = zs.length) (h1 : tmps.getD u undef = v1) : (results fn tmps).run P w = .ok (.tuple #[.agg cs.toArray, v1]) w := by
  have h0 := run_loadCells_list (P := P) (w := w) a cs hc
  rw [hl] at h0
  unfold loadCells at h0
  rw [Array.getD_eq_getD_getElem?] at ht h1
  simp [results, hr, ht, h1, asAddr, loadVar, S.agg, S.size, h0, go_sem]
/-- two results, of which the first lies in a variable -/
theorem EX_retC2 {fn : Func} {R : Ending → World → Prop} {n b off u : Nat} {T : TypeId} {cs : Array Value} {v1 : Value} [S : StT P ty fs zs] (hD : K.D = []) (hr : fn.results = #[.cell n ty, .tmp u]) (ht : ρ.find n = some (.pointer (some ⟨b, off, none⟩))) (h1 : ρ.find u = some v1) (hp : Pick m (blk b T cs) r) (hl : Nat.ble (off + zs.length) cs.toList.length = true)
    (h : ∀ w, Holds K.w0 K.F m w → R (.returned (.tuple #[.agg ((cs.toList.drop off).take zs.length).toArray, v1])) w) : EX K (QBody P fn R) .ret ρ m := ⟨fun a w hf hm => by
  have h0 := Nat.le_of_ble_eq_true hl
  have e1 : ((cs.toList.drop off).take zs.length).length = zs.length := by simp at h0 ⊢; omega
  refine ⟨hf.defs.trans hD, _, results_c2 (P := P) (ty := ty) hr (hf.get n _ ht) (rd_blk (K := K) hp (by rw [e1]) w hm) e1 (hf.get u _ h1), h w hm⟩⟩
end
theorem room_fault {s : List Int} (h6 : s.length ≤ 6) (hs : ∀ n ∈ s, 0 ≤ n ∧ n ≤ 4096) : (¬ (countF s).2 = 0 → roomP s = none) ∧ ((countF s).2 = 0 → roomP s = some (countF s).1.toNat) := by
  have hb : badAxis s = 0 := by
    induction s with
    | nil => rfl
    | cons x s ih =>
      have hx := hs x (by simp)
      rw [badAxis, if_neg (by omega), if_neg (by omega)]
      exact ih (by simp at h6; omega) fun n hn => hs n (by simp [hn])
  unfold countF roomP
  rw [if_neg (by omega), if_neg (fun h => h hb)]
  by_cases hz : hasZero s = true
  · rw [if_pos hz, if_pos hz]
    exact ⟨fun h => absurd rfl h, fun _ => rfl⟩
  · rw [if_neg hz, if_neg hz]
    exact ⟨fun h => by rw [if_pos h], fun h => by rw [if_neg (fun hh => hh h)]⟩
theorem prodF_le' : ∀ (s : List Int) (a : Int), a ≤ 4096 → (prodF a s).1 ≤ 4096
  | [], a, h => h
  | n :: r, a, h => by
    rw [prodF]
    split
    · exact (by decide)
    · exact prodF_le' r _ (by omega)
theorem countF_nonneg {s : List Int} (h6 : s.length ≤ 6) (hs : ∀ n ∈ s, 0 ≤ n ∧ n ≤ 4096) : 0 ≤ (countF s).1 ∧ (countF s).1 ≤ 4096 := by
  have h1 := prodF_nonneg s 1 (by decide) fun n hn => (hs n hn).1
  have h2 := prodF_le' s 1 (by decide)
  have hb : badAxis s = 0 := by
    clear h1 h2
    induction s with
    | nil => rfl
    | cons x s ih =>
      have hx := hs x (by simp)
      rw [badAxis, if_neg (by omega), if_neg (by omega)]
      exact ih (by simp at h6; omega) fun n hn => hs n (by simp [hn])
  unfold countF
  rw [if_neg (by omega), if_neg (fun h => h hb)]
  split
  · exact ⟨by decide, by decide⟩
  · exact ⟨h1, h2⟩
/-- what loadedValue tells -/
def LvGot (l : List UInt8) (w : World) (Z : Option ((Bool × List Int × List Int) × List UInt8)) (e : Ending) (w' : World) : Prop :=
  (∃ (ch : Bool) (s d : List Int) (k' : Nat) (p q : Option Addr) (c c2 : Nat), k' ≤ l.length ∧ Z = some ((ch, s, d), l.drop k') ∧ e = .returned (.tuple #[.agg #[.bool ch, .slice p s.length c, .slice q d.length c2], .int .i64 (k' : Int)]) ∧
    Holds w [] [sl 3 1 p s.length c (s.map (Value.int .i64)), sl 3 1 q d.length c2 (d.map (Value.int .i64))] w') ∨
  (Z = none ∧ ∃ (ch : Bool) (p q : Option Addr) (n c n2 c2 : Nat), e = .returned (.tuple #[.agg #[.bool ch, .slice p n c, .slice q n2 c2], .int .i64 (-1)]) ∧ Below w.heap.size w w')
def posV : Option Nat → Int
  | none => -1
  | some k => (k : Int)
theorem small_none {l : List UInt8} {k m : Nat} (h : belowP m (l.drop k) = none) : smallR l k m = (0, -1) := by unfold smallR; rw [h]
theorem small_some {l : List UInt8} {k m k' : Nat} {n : Int} (h : belowP m (l.drop k) = some (n, l.drop k')) (hk : k' ≤ l.length) : smallR l k m = (n, (k' : Int)) := by
  unfold smallR; rw [h]; simp only [List.length_drop]; refine Prod.ext rfl ?_; show (l.length : Int) - _ = _; omega
theorem count_none {l : List UInt8} {k : Nat} (h : cntG 0 0 (l.drop k) = none) : cntR l k = (0, -1) := by unfold cntR; rw [h]
theorem count_some {l : List UInt8} {k k' n : Nat} (h : cntG 0 0 (l.drop k) = some (n, l.drop k')) (hk : k' ≤ l.length) : cntR l k = ((n : Int), (k' : Int)) := by
  unfold cntR; rw [h]; simp only [List.length_drop]; refine Prod.ext rfl ?_; show (l.length : Int) - _ = _; omega
/-- a value's axes and cells -/
def valRest (ch : Bool) (nn : Nat) (r1 : List UInt8) : Option ((Bool × List Int × List Int) × List UInt8) := match manyP (belowP 4096) nn r1 with
  | none => none
  | some (s, r2) => match roomP s with
    | none => none
    | some n => match manyP numP n r2 with
      | none => none
      | some (d, r3) => some ((ch, s, d), r3)
theorem num_some {l : List UInt8} {k k' n : Nat} (h : cntG 0 0 (l.drop k) = some (n, l.drop k')) : numP (l.drop k) = some (zag n, l.drop k') := by unfold numP; rw [h]
theorem num_none {l : List UInt8} {k : Nat} (h : cntG 0 0 (l.drop k) = none) : numP (l.drop k) = none := by unfold numP; rw [h]
set_option maxHeartbeats 8000000 in
set_option maxRecDepth 100000 in
theorem ref_loadedValue (l : List UInt8) (k : Nat) (hl : l.length ≤ 1099511627776) (hk : k ≤ l.length) (w : World) :
    Calls Tryz.prog 42 #[.string ⟨l.toArray⟩, .int .i64 (k : Int)] w (LvGot l w (valP (l.drop k))) := by
  obtain ⟨Z, hZ⟩ : ∃ Z, valP (l.drop k) = Z := ⟨_, rfl⟩
  rw [hZ]
  refine enter (args := [_, _]) (m := []) (F := []) Tryz.func42 rfl Tryz.ntmps42 (by simp) rfl ?_
  cases hd : l[k]? with
  | none =>
    have hle : l.length ≤ k := by simpa using hd
    rw [List.drop_eq_nil_of_le hle, valP] at hZ
    subst hZ
    (repeat' (first|refine zza ?_|refine zc9 ?_|refine zzb fun w hw => ?_|refine zzh fun _ => ?_|refine zzi fun _ _ => ?_|refine zzj (fun _ => ?_) fun _ => ?_))
    refine EX_retC2 rfl rfl rfl rfl zpk rfl fun w hw => ?_
    exact .inr ⟨rfl, false, none, none, 0, 0, 0, 0, rfl, hw.below⟩
  | some x =>
    have hx := x.toNat_lt
    have hk1 : k + 1 ≤ l.length := (List.getElem?_eq_some_iff.1 hd).1
    have hg : l.getD k 0 = x := by rw [List.getD_eq_getElem?_getD, hd]; rfl
    rw [drop_cons hd, valP] at hZ
    have h1g : Hid ((l.getD k 0).toNat = x.toNat) := by unfold Hid; rw [hg]
    by_cases h1 : 1 < x.toNat
    · rw [if_pos h1] at hZ
      subst hZ
      have h1' : 1 < ((l.getD k 0).toNat : Int) := by rw [hg]; omega
      (repeat' (first|refine zza ?_|refine zc9 ?_|refine zzb fun w hw => ?_|refine zzh fun _ => ?_|refine zzi fun _ _ => ?_|refine zzj (fun _ => ?_) fun _ => ?_))
      refine EX_retC2 rfl rfl rfl rfl zpk rfl fun w hw => ?_
      exact .inr ⟨rfl, false, none, none, 0, 0, 0, 0, rfl, hw.below⟩
    · rw [if_neg h1] at hZ
      have h1' : ¬ 1 < ((l.getD k 0).toNat : Int) := by rw [hg]; omega
      obtain ⟨ch, hch⟩ : ∃ ch, ch = decide (x.toNat = 1) := ⟨_, rfl⟩
      rw [← hch] at hZ
      have hch' : decide (((l.getD k 0).toNat : Int) = 1) = ch := by rw [hg, hch, decide_eq_decide]; omega
      (repeat' (first|refine zza ?_|refine zc9 ?_|refine zzb fun w hw => ?_|refine zzh fun _ => ?_|refine zzi fun _ _ => ?_|refine zzj (fun _ => ?_) fun _ => ?_))
      rw [hch']
      rename_i b4 b6
      have hcast : (k : Int) + 1 = ((k + 1 : Nat) : Int) := by omega
      rw [hcast]
      (apply WL_callV; rfl; rfl; rfl; (intro W hW; exact ref_small l (k + 1) 6 hl hk1 (by decide) W))
      clear h1 h1' hch hch' h1g hx
      refine WL_ent (m' := [blk b6 87 #[.bool ch, .slice none 0 0, .slice none 0 0], blk b4 87 #[.bool false, .slice none 0 0, .slice none 0 0]]) (Ent.consK (k := Ent.consK (k := Ent.nil) zpk) zpk) ?_
      have hfirst : ∃ (nn : Nat) (o0 : Option Nat), nn ≤ 6 ∧ smallR l (k + 1) 6 = ((nn : Int), posV o0) ∧ (o0 = none → Z = none) ∧ ∀ k1, o0 = some k1 → k1 ≤ l.length ∧ valRest ch nn (l.drop k1) = Z := by
        cases hb : belowP 6 (l.drop (k + 1)) with
        | none =>
          rw [hb] at hZ
          exact ⟨0, none, by decide, small_none hb, fun _ => hZ.symm, fun k1 h => by cases h⟩
        | some q =>
          obtain ⟨n, r⟩ := q
          rw [hb] at hZ
          obtain ⟨n0, n6⟩ := (below_dec hb).2
          obtain ⟨k1, hk1', rfl⟩ := below_at hb hk1
          obtain ⟨nn, rfl⟩ := Int.eq_ofNat_of_zero_le n0
          refine ⟨nn, some k1, by omega, small_some hb hk1', fun h => (by cases h), fun k2 h => ?_⟩
          injection h with h
          subst h
          exact ⟨hk1', hZ⟩
      clear hZ
      obtain ⟨nn, o0, hnn, hsm, hno0, hyes0⟩ := hfirst
      rw [hsm]
      clear hsm
      dsimp only
      (repeat' (first|refine zza ?_|refine zc9 ?_|refine zzb fun w hw => ?_|refine zzh fun _ => ?_|refine zzi fun _ _ => ?_|refine zzj (fun _ => ?_) fun _ => ?_))
      refine CW_ent (m' := [sl 3 1 none 0 0 [], sl 3 1 none 0 0 [], blk b6 87 #[.bool ch, .slice none 0 0, .slice none 0 0], blk b4 87 #[.bool false, .slice none 0 0, .slice none 0 0]]) (Ent.nilown (Ent.nilown zent)) ?_
      refine CW_loopK [(0,_),(4,_),(6,_),(7, .int .i64 (nn : Int))] zcov (fun x : Nat × Option Nat × List Int × Option Addr × Nat => [(8, .int .i64 (x.1 : Nat)), (1, .int .i64 (posV x.2.1))]) (fun x => [sl 3 1 x.2.2.2.1 x.1 x.2.2.2.2 (x.2.2.1.map (Value.int .i64)), sl 3 1 none 0 0 [], blk b6 87 #[.bool ch, .slice x.2.2.2.1 x.1 x.2.2.2.2, .slice none 0 0], blk b4 87 #[.bool false, .slice none 0 0, .slice none 0 0]]) (fun x => x.2.2.1.length = x.1 ∧ x.1 ≤ nn ∧ (x.2.1 = none → Z = none) ∧ ∀ kj, x.2.1 = some kj → kj ≤ l.length ∧ (∀ n ∈ x.2.2.1, 0 ≤ n ∧ n ≤ 4096) ∧ ∃ k1, o0 = some k1 ∧ manyP (belowP 4096) x.1 (l.drop k1) = some (x.2.2.1, l.drop kj)) (fun x => nn - x.1) (0, o0, [], none, 0) ⟨rfl, Nat.zero_le _, hno0, fun kj h => ⟨(hyes0 kj h).1, by simp, kj, h, rfl⟩⟩ zcov zent ?_
      rintro ⟨j, o, xs, p, c⟩ ⟨hxl, hj, hno, hyes⟩
      dsimp only at hxl hj hno hyes ⊢
      cases o with
      | none =>
        have hz := hno rfl
        subst hz
        dsimp only [posV]
        clear hyes0 hno0 hno hyes hk1 hcast hl hk hd hg
        by_cases hlt : j < nn
        · (repeat' (first|refine zza ?_|refine zc9 ?_|refine zzb fun w hw => ?_|refine zzh fun _ => ?_|refine zzi fun _ _ => ?_|refine zzj (fun _ => ?_) fun _ => ?_))
          refine EX_retC2 rfl rfl rfl rfl zpk rfl fun w hw => ?_
          exact .inr ⟨rfl, ch, p, none, j, c, 0, 0, rfl, hw.below⟩
        · (repeat' (first|refine zza ?_|refine zc9 ?_|refine zzb fun w hw => ?_|refine zzh fun _ => ?_|refine zzi fun _ _ => ?_|refine zzj (fun _ => ?_) fun _ => ?_))
          refine EX_retC2 rfl rfl rfl rfl zpk rfl fun w hw => ?_
          exact .inr ⟨rfl, ch, p, none, j, c, 0, 0, rfl, hw.below⟩
      | some kj =>
        obtain ⟨hkj, hax, k1, ho0, hmany⟩ := hyes kj rfl
        have hZr := (hyes0 k1 ho0).2
        clear hyes hno hno0 hyes0 hg
        dsimp only [posV]
        by_cases hlt : j < nn
        · have hsn := many_snoc (p := belowP 4096) j (l.drop k1)
          rw [hmany] at hsn
          simp only at hsn
          have hbad : manyP (belowP 4096) (j + 1) (l.drop k1) = none → Z = none := fun h => by
            rw [← hZr]; unfold valRest; rw [many_none h nn hlt]
          cases hq : belowP 4096 (l.drop kj) with
          | none =>
            rw [hq] at hsn
            have hZn := hbad hsn
            have hs0 := small_none hq
            clear hmany hZr hbad
            (repeat' (first|refine zza ?_|refine zc9 ?_|refine zzb fun w hw => ?_|refine zzh fun _ => ?_|refine zzi fun _ _ => ?_|refine zzj (fun _ => ?_) fun _ => ?_))
            (apply WL_callV; rfl; rfl; rfl; (intro W hW; exact ref_small l kj 4096 hl hkj (by decide) W))
            rw [hs0]
            dsimp only
            (repeat' (first|refine zza ?_|refine zc9 ?_|refine zzb fun w hw => ?_|refine zzh fun _ => ?_|refine zzi fun _ _ => ?_|refine zzj (fun _ => ?_) fun _ => ?_))
            rename_i bb q cq
            refine EX_loop' (j + 1, none, xs ++ [0], q, cq) ⟨zcov, ?_, by dsimp only; omega, by simp [hxl], by dsimp only; omega, fun _ => hZn, fun kj h => by cases h⟩
            dsimp only
            rw [List.map_append]
            exact zent
          | some q =>
            obtain ⟨y, r⟩ := q
            rw [hq] at hsn
            simp only at hsn
            obtain ⟨y0, y1⟩ := (below_dec hq).2
            obtain ⟨kk, hkk, rfl⟩ := below_at hq hkj
            have hs0 := small_some hq hkk
            clear hmany hZr hbad
            (repeat' (first|refine zza ?_|refine zc9 ?_|refine zzb fun w hw => ?_|refine zzh fun _ => ?_|refine zzi fun _ _ => ?_|refine zzj (fun _ => ?_) fun _ => ?_))
            (apply WL_callV; rfl; rfl; rfl; (intro W hW; exact ref_small l kj 4096 hl hkj (by decide) W))
            rw [hs0]
            dsimp only
            (repeat' (first|refine zza ?_|refine zc9 ?_|refine zzb fun w hw => ?_|refine zzh fun _ => ?_|refine zzi fun _ _ => ?_|refine zzj (fun _ => ?_) fun _ => ?_))
            rename_i bb q cq
            refine EX_loop' (j + 1, some kk, xs ++ [y], q, cq) ⟨zcov, ?_, by dsimp only; omega, by simp [hxl], by dsimp only; omega, fun h => (by cases h), fun k2 h => ?_⟩
            · dsimp only
              rw [List.map_append]
              exact zent
            · injection h with h
              subst h
              refine ⟨hkk, fun n hn => ?_, k1, ho0, hsn⟩
              rcases List.mem_append.1 hn with h | h
              · exact hax n h
              · rw [List.mem_singleton.1 h]; exact ⟨y0, y1⟩
        · have hjn : j = nn := by omega
          subst hjn
          subst hxl
          unfold valRest at hZr
          rw [hmany] at hZr
          simp only at hZr
          have hI : ∀ n ∈ xs, I64 n := fun n hn => by have := hax n hn; unfold I64; omega
          obtain ⟨hrf1, hrf2⟩ := room_fault hnn hax
          obtain ⟨hc0, hc1⟩ := countF_nonneg hnn hax
          clear hmany hk hk1 hcast hd
          by_cases hf : (countF xs).2 = 0
          · rw [hrf2 hf] at hZr
            simp only at hZr
            clear hrf1 hrf2
            (repeat' (first|refine zza ?_|refine zc9 ?_|refine zzb fun w hw => ?_|refine zzh fun _ => ?_|refine zzi fun _ _ => ?_|refine zzj (fun _ => ?_) fun _ => ?_))
            (apply WL_callV; rfl; rfl; rfl; (intro W hW; exact ref_Fault p c xs W (hW.ints .here hI).2))
            rw [hf]
            (repeat' (first|refine zza ?_|refine zc9 ?_|refine zzb fun w hw => ?_|refine zzh fun _ => ?_|refine zzi fun _ _ => ?_|refine zzj (fun _ => ?_) fun _ => ?_))
            (apply WL_callV; rfl; rfl; rfl; (intro W hW; exact ref_Cells p c xs W (hW.ints .here hI).2 hf))
            obtain ⟨N, hN⟩ := Int.eq_ofNat_of_zero_le hc0
            rw [hN] at hZr hc1 ⊢
            rw [Int.toNat_natCast] at hZr
            clear hf hN
            (repeat' (first|refine zza ?_|refine zc9 ?_|refine zzb fun w hw => ?_|refine zzh fun _ => ?_|refine zzi fun _ _ => ?_|refine zzj (fun _ => ?_) fun _ => ?_))
            refine CW_loopK [(0,_),(4,_),(6,_),(11,_)] zcov (fun x : Nat × Nat × List Int × Option Addr × Nat => [(12, .int .i64 (x.1 : Nat)), (1, .int .i64 (x.2.1 : Nat))]) (fun x => [sl 3 1 x.2.2.2.1 x.1 x.2.2.2.2 (x.2.2.1.map (Value.int .i64)), blk b6 87 #[.bool ch, .slice p xs.length c, .slice x.2.2.2.1 x.1 x.2.2.2.2], sl 3 1 p xs.length c (xs.map (Value.int .i64)), blk b4 87 #[.bool false, .slice none 0 0, .slice none 0 0]]) (fun x => x.2.2.1.length = x.1 ∧ x.1 ≤ N ∧ x.2.1 ≤ l.length ∧ manyP numP x.1 (l.drop kj) = some (x.2.2.1, l.drop x.2.1)) (fun x => N - x.1) (0, kj, [], none, 0) ⟨rfl, Nat.zero_le _, hkj, rfl⟩ zcov (Ent.cons (.there .here) (Ent.cons (.there .here) (Ent.cons .here (Ent.cons .here Ent.nil)))) ?_
            rintro ⟨i, kx, ds, q, c2⟩ ⟨hdl, hi, hkx, hmany⟩
            dsimp only at hdl hi hkx hmany ⊢
            by_cases hlt : i < N
            · have hsn := many_snoc (p := numP) i (l.drop kj)
              rw [hmany] at hsn
              simp only at hsn
              cases hq : cntG 0 0 (l.drop kx) with
              | none =>
                rw [num_none hq] at hsn
                rw [many_none hsn N hlt] at hZr
                simp only at hZr
                subst hZr
                have hs0 := count_none hq
                clear hmany hsn hq
                (repeat' (first|refine zza ?_|refine zc9 ?_|refine zzb fun w hw => ?_|refine zzh fun _ => ?_|refine zzi fun _ _ => ?_|refine zzj (fun _ => ?_) fun _ => ?_))
                (apply WL_callV; rfl; rfl; rfl; (intro W hW; exact ref_count l kx hl hkx W))
                rw [hs0]
                dsimp only
                (repeat' (first|refine zza ?_|refine zc9 ?_|refine zzb fun w hw => ?_|refine zzh fun _ => ?_|refine zzi fun _ _ => ?_|refine zzj (fun _ => ?_) fun _ => ?_))
                refine EX_retC2 rfl rfl rfl rfl zpk rfl fun w hw => ?_
                exact .inr ⟨rfl, ch, p, q, xs.length, c, i, c2, rfl, hw.below⟩
              | some qq =>
                obtain ⟨n, r⟩ := qq
                have hn64 := (cnt_dec hq).2
                obtain ⟨kk, hkk, rfl⟩ := cnt_at hq hkx
                rw [num_some hq] at hsn
                simp only at hsn
                have hs0 := count_some hq hkk
                clear hmany hZr hq
                by_cases h2 : n % 2 = 0
                · have hz : (n : Int) / 2 = zag n := by unfold zag; rw [if_pos h2]; omega
                  (repeat' (first|refine zza ?_|refine zc9 ?_|refine zzb fun w hw => ?_|refine zzh fun _ => ?_|refine zzi fun _ _ => ?_|refine zzj (fun _ => ?_) fun _ => ?_))
                  (apply WL_callV; rfl; rfl; rfl; (intro W hW; exact ref_count l kx hl hkx W))
                  rw [hs0]
                  dsimp only
                  (repeat' (first|refine zza ?_|refine zc9 ?_|refine zzb fun w hw => ?_|refine zzh fun _ => ?_|refine zzi fun _ _ => ?_|refine zzj (fun _ => ?_) fun _ => ?_))
                  apply WL_op rfl rfl (y_quoU rfl rfl (by omega))
                  (repeat' (first|refine zza ?_|refine zc9 ?_|refine zzb fun w hw => ?_|refine zzh fun _ => ?_|refine zzi fun _ _ => ?_|refine zzj (fun _ => ?_) fun _ => ?_))
                  rename_i bb q2 c3
                  refine EX_loop' (i + 1, kk, ds ++ [(n : Int) / 2], q2, c3) ⟨zcov, ?_, by dsimp only; omega, by simp [hdl], by dsimp only; omega, hkk, by dsimp only; rw [hz]; exact hsn⟩
                  dsimp only
                  rw [List.map_append]
                  exact zent
                · have hz : -((n : Int) / 2) - 1 = zag n := by unfold zag; rw [if_neg h2]; omega
                  (repeat' (first|refine zza ?_|refine zc9 ?_|refine zzb fun w hw => ?_|refine zzh fun _ => ?_|refine zzi fun _ _ => ?_|refine zzj (fun _ => ?_) fun _ => ?_))
                  (apply WL_callV; rfl; rfl; rfl; (intro W hW; exact ref_count l kx hl hkx W))
                  rw [hs0]
                  dsimp only
                  (repeat' (first|refine zza ?_|refine zc9 ?_|refine zzb fun w hw => ?_|refine zzh fun _ => ?_|refine zzi fun _ _ => ?_|refine zzj (fun _ => ?_) fun _ => ?_))
                  apply WL_op rfl rfl (y_quoU rfl rfl (by omega))
                  (repeat' (first|refine zza ?_|refine zc9 ?_|refine zzb fun w hw => ?_|refine zzh fun _ => ?_|refine zzi fun _ _ => ?_|refine zzj (fun _ => ?_) fun _ => ?_))
                  rename_i bb q2 c3
                  refine EX_loop' (i + 1, kk, ds ++ [-((n : Int) / 2) - 1], q2, c3) ⟨zcov, ?_, by dsimp only; omega, by simp [hdl], by dsimp only; omega, hkk, by dsimp only; rw [hz]; exact hsn⟩
                  dsimp only
                  rw [List.map_append]
                  exact zent
            · have hiN : i = N := by omega
              subst hiN
              rw [hmany] at hZr
              simp only at hZr
              clear hmany
              subst hdl
              (repeat' (first|refine zza ?_|refine zc9 ?_|refine zzb fun w hw => ?_|refine zzh fun _ => ?_|refine zzi fun _ _ => ?_|refine zzj (fun _ => ?_) fun _ => ?_))
              refine EX_retC2 rfl rfl rfl rfl zpk rfl fun w hw => ?_
              exact .inl ⟨ch, xs, ds, kx, p, q, c, c2, hkx, hZr.symm, rfl, hw.ent zent⟩
          · have hZn : Z = none := by rw [← hZr, hrf1 hf]
            subst hZn
            (repeat' (first|refine zza ?_|refine zc9 ?_|refine zzb fun w hw => ?_|refine zzh fun _ => ?_|refine zzi fun _ _ => ?_|refine zzj (fun _ => ?_) fun _ => ?_))
            (apply WL_callV; rfl; rfl; rfl; (intro W hW; exact ref_Fault p c xs W (hW.ints .here hI).2))
            (repeat' (first|refine zza ?_|refine zc9 ?_|refine zzb fun w hw => ?_|refine zzh fun _ => ?_|refine zzi fun _ _ => ?_|refine zzj (fun _ => ?_) fun _ => ?_))
            refine EX_retC2 rfl rfl rfl rfl zpk rfl fun w hw => ?_
            exact .inr ⟨rfl, ch, p, none, xs.length, c, 0, 0, rfl, hw.below⟩
end Go.Proofs.YtdnkapfcnapadaaGreatDoor
