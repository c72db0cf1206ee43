/-
  lex.reader: chars; lex.fnOf.
-/
import Derived.Test.YtngeooflfkpikaaGreatDoorZGo
import Derived.Test.YtngeooflfkpikaaGreatDoorZBuildL
import Derived.Test.YtngeooflfkpikaaGreatDoorZBldL
import Derived.Lib.CutLaws
namespace Go.Proofs.YtngeooflfkpikaaGreatDoor
open Go.RowKit
/-! ## the function of a sign -/
theorem glyphN_C : ∀ n ∈ List.range 34, glyphN ((n : Int) + 1) = (glyphC.getD n 0 : Int) := by decide +kernel
theorem signN_C : ∀ n ∈ List.range 16, signN ((n : Int) + 5) = (signC.getD n 0 : Int) := by decide +kernel
theorem signR_spec : ∀ (cs : List Nat) (n d : Nat), 0 < n → (signR cs n d = 0 ∧ ∀ j, j < cs.length → cs.getD j 0 ≠ d) ∨ ∃ i, i < cs.length ∧ cs.getD i 0 = d ∧ signR cs n d = n + i ∧ ∀ j, j < i → cs.getD j 0 ≠ d
  | [], n, d, _ => .inl ⟨rfl, fun j h => by simp at h⟩
  | c :: cs, n, d, hn => by
    rw [signR]
    by_cases h : d = c
    · rw [if_pos h]
      exact .inr ⟨0, by simp, by simp [h], by simp, fun j hj => by omega⟩
    · rw [if_neg h]
      rcases signR_spec cs (n + 1) d (by omega) with ⟨h1, h2⟩ | ⟨i, h1, h2, h3, h4⟩
      · refine .inl ⟨h1, fun j hj => ?_⟩
        cases j with
        | zero => simpa using fun e => h e.symm
        | succ j => simpa using h2 j (by simpa using hj)
      · refine .inr ⟨i + 1, by simpa using h1, by simpa using h2, by omega, fun j hj => ?_⟩
        cases j with
        | zero => simpa using fun e => h e.symm
        | succ j => simpa using h4 j (by omega)
set_option maxRecDepth 100000 in
theorem lex_fnOf (c : Nat) (w : World) : Calls Tryz.prog 202 #[.int .i32 (c : Int)] w fun e w' => e = .returned (.tuple #[.int .i64 (signR glyphC 1 c : Int), .bool (decide (signR glyphC 1 c ≠ 0))]) ∧ Below w.heap.size w w' := by
  have hl : glyphC.length = 34 := rfl
  refine enter (args := [_]) (m := []) (F := []) Tryz.func202 rfl Tryz.ntmps202 (by simp) rfl ?_
  (repeat' (first|refine zza ?_|refine zc9 ?_|refine zzb fun w hw => ?_|refine zzh fun _ => ?_|refine zzi fun _ _ => ?_|refine zzj (fun _ => ?_) fun _ => ?_))
  refine CW_loopP [(0,_)] zcov (fun x : Nat => [(4, .int .i64 ((x : Int) + 1))]) (fun x => x ≤ 34 ∧ ∀ j, j < x → glyphC.getD j 0 ≠ c) (fun x => 34 - x) 0 ⟨by omega, fun j h => by omega⟩ zcov ?_
  rintro k ⟨hk, hz⟩
  by_cases hlt : k < 34
  · have hg := glyphN_C k (List.mem_range.2 hlt)
    (repeat' (first|refine zza ?_|refine zc9 ?_|refine zzb fun w hw => ?_|refine zzh fun _ => ?_|refine zzi fun _ _ => ?_|refine zzj (fun _ => ?_) fun _ => ?_))
    (apply WL_callV; rfl; rfl; rfl; (intro W hW; exact lex_glyphOf _ W))
    rw [hg]
    by_cases hc : glyphC.getD k 0 = c
    · have hr : signR glyphC 1 c = k + 1 := by
        rcases signR_spec glyphC 1 c (by omega) with ⟨_, h2⟩ | ⟨i, h1, h2, h3, h4⟩
        · exact absurd hc (h2 k (by omega))
        · have : i = k := by
            rcases Nat.lt_trichotomy i k with h | h | h
            · exact absurd h2 (hz i h)
            · exact h
            · exact absurd hc (h4 k h)
          omega
      have hcI : (glyphC.getD k 0 : Int) = (c : Int) := by omega
      (repeat' (first|refine zza ?_|refine zc9 ?_|refine zzb fun w hw => ?_|refine zzh fun _ => ?_|refine zzi fun _ _ => ?_|refine zzj (fun _ => ?_) fun _ => ?_))
      exact ⟨by rw [hr]; simp, hw.below⟩
    · have hcI : ¬ (glyphC.getD k 0 : Int) = (c : Int) := by omega
      (repeat' (first|refine zza ?_|refine zc9 ?_|refine zzb fun w hw => ?_|refine zzh fun _ => ?_|refine zzi fun _ _ => ?_|refine zzj (fun _ => ?_) fun _ => ?_))
      refine EX_loop' (k + 1) ⟨?_, Ent.refl, by omega, by omega, fun j hj => ?_⟩
      · rw [show (((k + 1 : Nat)) : Int) + 1 = (k : Int) + 1 + 1 by omega]
        exact zcov
      · by_cases e : j = k
        · subst e; exact hc
        · exact hz j (by omega)
  · have hkl : k = 34 := by omega
    subst hkl
    have hr : signR glyphC 1 c = 0 := by
      rcases signR_spec glyphC 1 c (by omega) with ⟨h1, _⟩ | ⟨i, h1, h2, _, _⟩
      · exact h1
      · exact absurd h2 (hz i (by omega))
    (repeat' (first|refine zza ?_|refine zc9 ?_|refine zzb fun w hw => ?_|refine zzh fun _ => ?_|refine zzi fun _ _ => ?_|refine zzj (fun _ => ?_) fun _ => ?_))
    exact ⟨by rw [hr]; simp, hw.below⟩
/-! ## texts -/
theorem idx39 : ∀ l : List UInt8, (Lib.index l [39] = -1 ∧ ∀ b ∈ l, b ≠ 39) ∨ ∃ p q, l = p ++ 39 :: q ∧ (∀ b ∈ p, b ≠ 39) ∧ Lib.index l [39] = (p.length : Int)
  | [] => .inl ⟨by rw [Lib.index]; rfl, fun b h => by cases h⟩
  | b :: l => by
    by_cases hb : b = 39
    · subst hb
      exact .inr ⟨[], l, rfl, (fun b h => by cases h), by rw [Lib.index]; simp [List.isPrefixOf]⟩
    · have hi : Lib.index (b :: l) [39] = if Lib.index l [39] == -1 then -1 else Lib.index l [39] + 1 := by
        rw [Lib.index]; rw [if_neg (by simp [List.isPrefixOf]; exact fun e => hb e.symm)]
      rcases idx39 l with ⟨h1, h2⟩ | ⟨p, q, h1, h2, h3⟩
      · exact .inl ⟨by rw [hi, h1]; rfl, fun c hc => (List.mem_cons.1 hc).elim (fun e => e ▸ hb) (h2 c)⟩
      · refine .inr ⟨b :: p, q, by rw [h1]; rfl, fun c hc => (List.mem_cons.1 hc).elim (fun e => e ▸ hb) (h2 c), ?_⟩
        rw [hi, h3, if_neg (by simp)]
        simp
theorem cut_quote (l : List UInt8) : ((Lib.cut l [39]).2.2 = false ∧ ∀ b ∈ l, b ≠ 39) ∨ ∃ p q, l = p ++ 39 :: q ∧ (∀ b ∈ p, b ≠ 39) ∧ Lib.cut l [39] = (p, q, true) := by
  rcases idx39 l with ⟨h1, h2⟩ | ⟨p, q, h1, h2, h3⟩
  · exact .inl ⟨by unfold Lib.cut; rw [h1]; rfl, h2⟩
  · refine .inr ⟨p, q, h1, h2, ?_⟩
    unfold Lib.cut
    rw [if_pos (by rw [h3]; omega), h3]
    subst h1
    simp
theorem below_drews (w : World) : ∀ n : Nat, Below w.heap.size w (w.drewN n) := fun _ => ⟨rfl, rfl, rfl, Nat.le_refl _, fun _ _ => rfl⟩
theorem cut_call (l : List UInt8) (hl : l.length ≤ 4294967280) (w : World) (hG : MaxL w) : Calls Tryz.prog 252 #[.string ⟨l.toArray⟩, .string ⟨#[39]⟩] w fun e w' => e = .returned (.tuple #[.string ⟨(Lib.cut l [39]).1.toArray⟩, .string ⟨(Lib.cut l [39]).2.1.toArray⟩, .bool (Lib.cut l [39]).2.2]) ∧ Below w.heap.size w w' := by
  obtain ⟨m, hm⟩ := hG
  refine (Tryz.strings_Cut ⟨l.toArray⟩ ⟨#[39]⟩ m w (by simp [ByteArray.size]; omega) hm).mono fun e w' ⟨he, n, hw⟩ => ⟨he, ?_⟩
  subst hw
  exact below_drews w n
theorem prefix_call (l p : List UInt8) (w : World) : Calls Tryz.prog 108 #[.string ⟨l.toArray⟩, .string ⟨p.toArray⟩] w fun e w' => e = .returned (.bool (p.isPrefixOf l)) ∧ Below w.heap.size w w' :=
  (Tryz.strings_HasPrefix ⟨l.toArray⟩ ⟨p.toArray⟩ w).mono fun _ _ ⟨he, hw⟩ => ⟨he, hw ▸ Below.refl _ _⟩
theorem qscan_close {p q : List UInt8} (hp : ∀ b ∈ p, b ≠ 39) (hq : List.isPrefixOf [39] q = false) : qscan (p ++ 39 :: q) = some (p, p.length + 1) := by
  rw [qscan_part _ hp]
  have : qscan (39 :: q) = some ([], 1) := by
    rw [qscan.eq_def]
    simp only [if_true]
    cases q with
    | nil => rfl
    | cons c r =>
      have hc : ¬ c = 39 := fun e => by subst e; simp [List.isPrefixOf] at hq
      simp only [if_neg hc]
  rw [this]; simp
theorem qscan_more {p q : List UInt8} (hp : ∀ b ∈ p, b ≠ 39) : qscan (p ++ 39 :: 39 :: q) = (qscan q).map fun x => (p ++ 39 :: x.1, p.length + 2 + x.2) := by
  rw [qscan_part _ hp]
  have : qscan (39 :: 39 :: q) = (qscan q).map fun x => (39 :: x.1, x.2 + 2) := by
    rw [qscan.eq_def]; simp
  rw [this, Option.map_map]
  congr 1
  funext x
  simp; omega
end Go.Proofs.YtngeooflfkpikaaGreatDoor
