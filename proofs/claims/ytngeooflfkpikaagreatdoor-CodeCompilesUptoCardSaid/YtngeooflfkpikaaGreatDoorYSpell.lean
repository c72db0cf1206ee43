/-
  lex.Spell: a line of words.
-/
import Derived.Test.YtngeooflfkpikaaGreatDoorYGo
import Derived.Test.YtngeooflfkpikaaGreatDoorYLex3
namespace Go.Proofs.YtngeooflfkpikaaGreatDoor
open Go.RowKit
/-- a slice of strings of the call's own -/
theorem Holds.strs {w0 w : World} {F : List Nat} {m r : List HP} {e : TypeId} {n c : Nat} {p : Option Addr} {xs : List (List UInt8)} (hh : Holds w0 F m w) (hp : Pick m (sl e 1 p n c (xs.map fun l => Value.string ⟨l.toArray⟩)) r) :
    n = xs.length ∧ ((xs = [] ∧ n = 0) ∨ ∃ b, p = some ⟨b, 0, none⟩ ∧ b < w.heap.size ∧ n ≤ c ∧ ∀ (j : Nat) x, (xs.map fun l => (⟨l.toArray⟩ : ByteArray))[j]? = some x → w.cell? ⟨b, 0 + j, none⟩ = some (.string x)) := by
  have h := hh.slR hp
  have hn : n = xs.length := by have := h.1; simp at this; omega
  refine ⟨hn, ?_⟩
  rcases h.2 with ⟨hv, h0⟩ | ⟨g, cap, cur, hv, _, hg, hnc, hcm, hcs, ht⟩
  · exact .inl ⟨List.eq_nil_of_length_eq_zero (by omega), h0⟩
  · simp only [Value.slice.injEq] at hv
    obtain ⟨rfl, _, rfl⟩ := hv
    refine .inr ⟨g, rfl, (Array.getElem?_eq_some_iff.1 hg).1, hnc, fun j x hx => ?_⟩
    rw [List.getElem?_map] at hx
    cases hj : xs[j]? with
    | none => rw [hj] at hx; cases hx
    | some l =>
      rw [hj] at hx
      simp only [Option.map_some, Option.some.injEq] at hx
      subst hx
      have h1 := h.cells (g := g) rfl j (.string ⟨l.toArray⟩) (by simp [hj])
      rw [Nat.zero_add]
      have e : (⟨g, 0, none⟩ : Addr).add j = ⟨g, j, none⟩ := by unfold Addr.add; split <;> simp_all
      first | exact h1 | (rw [e] at h1; exact h1)
theorem lens_join (xs : List (List UInt8)) (B : Nat) (h : ∀ x ∈ xs, x.length ≤ B) : (Lib.join xs [32]).length ≤ (B + 1) * xs.length := by
  have key : ∀ r : List (List UInt8), (∀ x ∈ r, x.length ≤ B) → (Lib.joinTail [32] r).length ≤ (B + 1) * r.length := by
    intro r
    induction r with
    | nil => intro _; simp [Lib.joinTail]
    | cons x r ih =>
      intro h
      have h1 := h x (by simp)
      have h2 := ih fun y hy => h y (by simp [hy])
      have e : Lib.joinTail [32] (x :: r) = 32 :: (x ++ Lib.joinTail [32] r) := by simp [Lib.joinTail]
      rw [e, List.length_cons, List.length_append, List.length_cons, Nat.mul_add]
      omega
  cases xs with
  | nil => simp [Lib.join_nil]
  | cons x r =>
    rw [Lib.join_cons, List.length_append, List.length_cons, Nat.mul_add]
    have h1 := h x (by simp)
    have h2 := key r fun y hy => h y (by simp [hy])
    omega
/-- words as they may come -/
structure ToksOk (ts : List Tok) : Prop where
  num : ∀ t ∈ ts, I64 t.num
  txt : ∀ t ∈ ts, t.text.length ≤ 4294967280
theorem join_call (xs : List (List UInt8)) (h : (Lib.join xs [32]).length ≤ 140737488355328) (hx : xs.length ≤ 1000) {w0 w : World} {F : List Nat} {m r : List HP} {n c : Nat} {p : Option Addr} (hh : Holds w0 F m w) (hp : Pick m (sl 9 1 p n c (xs.map fun l => Value.string ⟨l.toArray⟩)) r) :
    Calls Tryz.prog 41 #[.slice p n c, .string ⟨#[32]⟩] w fun e w' => e = .returned (.string ⟨(Lib.join xs [32]).toArray⟩) ∧ Below w.heap.size w w' := by
  obtain ⟨hn, ⟨rfl, h0⟩ | ⟨b, rfl, hb, hc, hcell⟩⟩ := hh.strs hp
  · subst h0
    exact (Tryz.strings_Join_none p c ⟨#[32]⟩ w).mono fun e w' ⟨he, hw⟩ => ⟨he, hw ▸ Below.refl _ _⟩
  · have e1 : (xs.map fun l => (⟨l.toArray⟩ : ByteArray)).map (·.data.toList) = xs := by simp [List.map_map, Function.comp_def]
    have := Tryz.strings_Join b 0 c (xs.map fun l => (⟨l.toArray⟩ : ByteArray)) ⟨#[32]⟩ w hcell hb (by simp; omega) (by simp; omega) (by rw [e1]; exact h)
    rw [e1, List.length_map, ← hn] at this
    exact this
theorem spell_eq {ts : List Tok} (h : ¬ 200 < ts.length) (he : errF ts = 0) : spellF ts = if 1000 < (Lib.join (textsF ts) [32]).length then ([], 7) else (Lib.join (textsF ts) [32], 0) := by
  unfold spellF; rw [if_neg h, if_neg (by rw [he]; simp)]
theorem texts_take {ts : List Tok} {k : Nat} {t : Tok} (h : ts[k]? = some t) : textsF (ts.take (k + 1)) = textsF (ts.take k) ++ [(speltF t).1] := by
  unfold textsF; rw [List.take_add_one, h]; simp
set_option maxHeartbeats 1000000 in
set_option maxRecDepth 100000 in
theorem lex_Spell (p : Option Addr) (c : Nat) (ts : List Tok) (w : World) (hR : Row tokE 5 w.cell? p c ts) (hk : ToksOk ts) (hG : GlobA w) :
    Calls Tryz.prog 16 #[.slice p ts.length c] w fun e w' => e = .returned (.tuple #[.string ⟨(spellF ts).1.toArray⟩, errV 24 (spellF ts).2]) ∧ Below w.heap.size w w' := by
  have hlen := hR.len
  by_cases h200 : 200 < ts.length
  · refine enterR (G := w.cell?) (args := [_]) (m := []) (Rd.sub_cell w) rfl Tryz.func16 rfl Tryz.ntmps16 (by simp) ?_
    (repeat' (first|refine zza ?_|refine zc9 ?_|refine zzb fun w hw => ?_|refine zzh fun _ => ?_|refine zzi fun _ _ => ?_|refine zzj (fun _ => ?_) fun _ => ?_))
    exact ⟨by unfold spellF; rw [if_pos h200]; rfl, hw.below⟩
  refine enterR (G := w.cell?) (args := [_]) (m := []) (Rd.sub_cell w) rfl Tryz.func16 rfl Tryz.ntmps16 (by simp) ?_
  (repeat' (first|refine zza ?_|refine zc9 ?_|refine zzb fun w hw => ?_|refine zzh fun _ => ?_|refine zzi fun _ _ => ?_|refine zzj (fun _ => ?_) fun _ => ?_))
  refine CW_ent (m' := [sl 9 1 none 0 0 [], ro w [] w.cell?]) (Ent.nilown zent) ?_
  refine CW_loopK [(0,_),(14,_),(15,_)] zcov (fun x : Nat × Option Addr × Nat => [(16, .int .i64 x.1), (4, .slice x.2.1 x.1 x.2.2)]) (fun x => [sl 9 1 x.2.1 x.1 x.2.2 ((textsF (ts.take x.1)).map fun l => Value.string ⟨l.toArray⟩), ro w [] w.cell?]) (fun x => x.1 ≤ ts.length ∧ errF ts = errF (ts.drop x.1)) (fun x => ts.length - x.1) (0, none, 0) ⟨Nat.zero_le _, rfl⟩ zcov Ent.refl ?_
  rintro ⟨k, q, cq⟩ ⟨hkl, hz⟩
  dsimp only at hkl hz ⊢
  by_cases hlt : k < ts.length
  · have hg := get_some hlt default
    have hm := List.mem_of_getElem? hg
    have htt := texts_take hg
    rw [drop_cons hg, errF] at hz
    have hS := fun W hb => lex_spelt (ts.getD k default) (hk.num _ hm) (hk.txt _ hm) W (hG.below hb)
    (repeat' (first|refine zza ?_|refine zc9 ?_|refine zzb fun w hw => ?_|refine zzh fun _ => ?_|refine zzi fun _ _ => ?_|refine zzj (fun _ => ?_) fun _ => ?_))
    by_cases he : (speltF (ts.getD k default)).2 = 0
    · rw [if_pos he] at hz
      rw [he, errV_zero] at hS
      (apply WL_callV; rfl; rfl; rfl; (intro W hW; exact hS W hW.below))
      (repeat' (first|refine zza ?_|refine zc9 ?_|refine zzb fun w hw => ?_|refine zzh fun _ => ?_|refine zzi fun _ _ => ?_|refine zzj (fun _ => ?_) fun _ => ?_))
      rename_i b1 b2 q2 c2
      refine EX_loop' (k + 1, q2, c2) ⟨zcov, ?_, by dsimp only; omega, by dsimp only; omega, hz⟩
      dsimp only
      rw [htt, List.map_append]
      exact zent
    · rw [if_neg he] at hz
      rw [errV_ne he] at hS
      (apply WL_callV; rfl; rfl; rfl; (intro W hW; exact hS W hW.below))
      (repeat' (first|refine zza ?_|refine zc9 ?_|refine zzb fun w hw => ?_|refine zzh fun _ => ?_|refine zzi fun _ _ => ?_|refine zzj (fun _ => ?_) fun _ => ?_))
      have hsp : spellF ts = ([], errF ts) := by unfold spellF; rw [if_neg h200, if_pos (by rw [hz]; exact he)]
      exact ⟨by rw [hsp, hz, errV_ne he]; rfl, hw.below⟩
  · have hkl : k = ts.length := by omega
    subst hkl
    rw [List.drop_length] at hz
    have hsp := spell_eq h200 hz
    have hjl := lens_join (textsF ts) (2 * 4294967280 + 22) (fun x hx => by
      obtain ⟨t, ht, rfl⟩ := List.mem_map.1 hx
      exact spelt_len (hk.num t ht) (hk.txt t ht))
    have htl : (textsF ts).length = ts.length := by simp [textsF]
    rw [htl] at hjl
    rw [List.take_length]
    (repeat' (first|refine zza ?_|refine zc9 ?_|refine zzb fun w hw => ?_|refine zzh fun _ => ?_|refine zzi fun _ _ => ?_|refine zzj (fun _ => ?_) fun _ => ?_))
    (apply WL_callV; rfl; rfl; rfl; (intro W hW; exact join_call (textsF ts) (by omega) (by omega) hW .here))
    by_cases h1 : 1000 < (Lib.join (textsF ts) [32]).length
    · rw [if_pos h1] at hsp
      (repeat' (first|refine zza ?_|refine zc9 ?_|refine zzb fun w hw => ?_|refine zzh fun _ => ?_|refine zzi fun _ _ => ?_|refine zzj (fun _ => ?_) fun _ => ?_))
      exact ⟨by rw [hsp]; rfl, hw.below⟩
    · rw [if_neg h1] at hsp
      (repeat' (first|refine zza ?_|refine zc9 ?_|refine zzb fun w hw => ?_|refine zzh fun _ => ?_|refine zzi fun _ _ => ?_|refine zzj (fun _ => ?_) fun _ => ?_))
      exact ⟨by rw [hsp, errV_zero], hw.below⟩
end Go.Proofs.YtngeooflfkpikaaGreatDoor
