/-
  ravelinref3: TreeFault: what is wrong with nodes.
-/
import Derived.Test.YtngeooflfkpikaaGreatDoorYGo
import Derived.Test.YtngeooflfkpikaaGreatDoorYRefBehind
namespace Go.Proofs.YtngeooflfkpikaaGreatDoor
open Go.RowKit
/-- where the expression of a line begins -/
def lineAt (l : List Nod) : Nat := match l with
  | [] => 0
  | n :: _ => if n.op = 9 ∧ rightN n = true then 1 else 0
theorem treeG_next (l : List Nod) : (treeG l).isSome = decide (nextI 0 l (some (lineAt l)) = some l.length) := by
  have key : ∀ (k : Nat) (x : Option Nod), k ≤ l.length → (match exF 0 (l.drop k) with
      | some (e, []) => some (x, e)
      | _ => none).isSome = decide (nextI 0 l (some k) = some l.length) := fun k x hk => by
    rw [nextI_eq]
    cases hx : exF 0 (l.drop k) with
    | none => simp
    | some y =>
      obtain ⟨e, r⟩ := y
      obtain ⟨_, hl⟩ := exF_iff.1 hx
      obtain ⟨_, h2, h3⟩ := suffix_at hl hk
      have := e.flat_pos
      simp only [Option.map_some, Option.some.injEq]
      cases r with
      | nil => simp
      | cons n r =>
        simp only [List.length_cons] at h2 h3 ⊢
        simp
        omega
  cases l with
  | nil =>
    have : nextI 0 [] (some 0) = none := nextI_end (by simp)
    simp [treeG, lineAt, this]
  | cons n r =>
    by_cases h : n.op = 9 ∧ rightN n = true
    · have e1 : treeG (n :: r) = (match exF 0 r with
        | some (e, []) => some (some n, e)
        | _ => none) := if_pos h
      have e2 : lineAt (n :: r) = 1 := if_pos h
      rw [e1, e2, ← key 1 (some n) (by simp)]
      rfl
    · have e1 : treeG (n :: r) = (match exF 0 (n :: r) with
        | some (e, []) => some (none, e)
        | _ => none) := if_neg h
      have e2 : lineAt (n :: r) = 0 := if_neg h
      rw [e1, e2, ← key 0 none (by simp)]
      rfl
set_option maxHeartbeats 8000000 in
set_option maxRecDepth 100000 in
theorem ref_TreeFault (p : Option Addr) (c : Nat) (L : List NodM) (W : World) (hR : Row nodE 7 W.cell? p c L) (hB : ∀ x ∈ L, NodG W.cell? x) :
    Calls Tryz.prog 21 #[.slice p L.length c] W fun e w' => e = .returned (.int .i64 (treeF (L.map NodM.nod))) ∧ Below W.heap.size W w' := by
  have hLl := hR.len
  refine enterR (G := W.cell?) (args := [_]) (m := []) (F := []) (Rd.sub_cell W) rfl Tryz.func21 rfl Tryz.ntmps21 (by simp) ?_
  by_cases h400 : 400 < L.length
  · have hF : treeF (L.map NodM.nod) = 7 := by unfold treeF; rw [List.length_map, if_pos h400]
    rw [hF]
    ((repeat' (first|refine zza ?_|refine zc9 ?_|refine zzb fun w hw => ?_|refine zzh fun _ => ?_|refine zzi fun _ _ => ?_|refine zzj (fun _ => ?_) fun _ => ?_)); (repeat' (refine CW_seq ?_; (repeat' (first|refine zza ?_|refine zc9 ?_|refine zzb fun w hw => ?_|refine zzh fun _ => ?_|refine zzi fun _ _ => ?_|refine zzj (fun _ => ?_) fun _ => ?_)))))
    exact ⟨rfl, hw.below⟩
  have hF : treeF (L.map NodM.nod) = if nextI 0 (L.map NodM.nod) (some (lineAt (L.map NodM.nod))) = some L.length then 0 else 1 := by
    unfold treeF
    rw [List.length_map, if_neg h400, treeG_next, List.length_map]
    simp only [decide_eq_true_eq]
  have hla : lineAt (L.map NodM.nod) ≤ L.length := by
    cases L with
    | nil => exact Nat.le_refl _
    | cons x r =>
      show (if _ then 1 else 0) ≤ _
      rw [List.length_cons]
      split <;> omega
  have hbe : ∀ W', Holds W [] [ro W [] W.cell?] W' → Calls Tryz.prog 73 #[.slice p L.length c, .int .i64 ((lineAt (L.map NodM.nod) : Nat) : Int), .int .i64 0] W' fun e w' => e = .returned (.int .i64 (atV (nextI 0 (L.map NodM.nod) (some (lineAt (L.map NodM.nod)))))) ∧ Below W'.heap.size W' w' := fun W' hW' => ref_Behind p c L (by omega) _ 0 hla (by omega) W' (hR.mono (hW'.le .here)) (fun x hx => (hB x hx).mono (hW'.le .here))
  have hfin : ∀ v : Int, v = atV (nextI 0 (L.map NodM.nod) (some (lineAt (L.map NodM.nod)))) → (v = (L.length : Int) → treeF (L.map NodM.nod) = 0) ∧ (v ≠ (L.length : Int) → treeF (L.map NodM.nod) = 1) := fun v hv => by
    rw [hF]
    cases hn : nextI 0 (L.map NodM.nod) (some (lineAt (L.map NodM.nod))) with
    | none =>
      rw [hn] at hv
      simp only [atV] at hv
      exact ⟨fun h => by omega, fun _ => by rw [if_neg (by simp)]⟩
    | some q =>
      rw [hn] at hv
      simp only [atV] at hv
      refine ⟨fun h => ?_, fun h => ?_⟩
      · rw [if_pos (by congr 1; omega)]
      · rw [if_neg (fun e => by injection e with e; omega)]
  clear hF
  generalize atV (nextI 0 (L.map NodM.nod) (some (lineAt (L.map NodM.nod)))) = v at hbe hfin
  replace hfin := hfin v rfl
  generalize treeF (L.map NodM.nod) = Z at hfin
  cases hL0 : L with
  | nil =>
    rw [hL0] at hbe hfin
    clear hB hR
    have hbe' : ∀ W', Holds W [] [ro W [] W.cell?] W' → Calls Tryz.prog 73 #[.slice p ([] : List NodM).length c, .int .i64 0, .int .i64 0] W' fun e w' => e = .returned (.int .i64 v) ∧ Below W'.heap.size W' w' := hbe
    clear hbe
    ((repeat' (first|refine zza ?_|refine zc9 ?_|refine zzb fun w hw => ?_|refine zzh fun _ => ?_|refine zzi fun _ _ => ?_|refine zzj (fun _ => ?_) fun _ => ?_)); (repeat' (refine CW_seq ?_; (repeat' (first|refine zza ?_|refine zc9 ?_|refine zzb fun w hw => ?_|refine zzh fun _ => ?_|refine zzi fun _ _ => ?_|refine zzj (fun _ => ?_) fun _ => ?_)))))
    (apply WL_callV; rfl; rfl; rfl; (intro W hW; exact hbe' W hW))
    by_cases hv : v = (([] : List NodM).length : Int)
    · obtain rfl := hfin.1 hv
      rw [List.length_nil] at hv
      subst hv
      ((repeat' (first|refine zza ?_|refine zc9 ?_|refine zzb fun w hw => ?_|refine zzh fun _ => ?_|refine zzi fun _ _ => ?_|refine zzj (fun _ => ?_) fun _ => ?_)); (repeat' (refine CW_seq ?_; (repeat' (first|refine zza ?_|refine zc9 ?_|refine zzb fun w hw => ?_|refine zzh fun _ => ?_|refine zzi fun _ _ => ?_|refine zzj (fun _ => ?_) fun _ => ?_)))))
      exact ⟨rfl, hw.below⟩
    · obtain rfl := hfin.2 hv
      rw [List.length_nil] at hv
      ((repeat' (first|refine zza ?_|refine zc9 ?_|refine zzb fun w hw => ?_|refine zzh fun _ => ?_|refine zzi fun _ _ => ?_|refine zzj (fun _ => ?_) fun _ => ?_)); (repeat' (refine CW_seq ?_; (repeat' (first|refine zza ?_|refine zc9 ?_|refine zzb fun w hw => ?_|refine zzh fun _ => ?_|refine zzi fun _ _ => ?_|refine zzj (fun _ => ?_) fun _ => ?_)))))
      exact ⟨rfl, hw.below⟩
  | cons x r =>
    rw [← hL0]
    have hx : L[0]? = some x := by rw [hL0]; rfl
    have hpos : 0 < L.length := by rw [hL0]; simp
    have hxB := hB x (by rw [hL0]; exact .head _)
    have hFld := fun (W : World) => ref_FieldsIn x W hxB.text hxB.numsL
    by_cases h9 : x.op = 9
    · rw [decide_eq_true (show 1 ≤ x.op ∧ x.op ≤ 9 by omega), Bool.true_and] at hFld
      cases hrr : rightN x.nod with
      | true =>
        have hl : lineAt (L.map NodM.nod) = 1 := by rw [hL0]; exact if_pos ⟨h9, hrr⟩
        rw [hrr] at hFld
        rw [hl] at hbe
        have hbe' : ∀ W', Holds W [] [ro W [] W.cell?] W' → Calls Tryz.prog 73 #[.slice p L.length c, .int .i64 1, .int .i64 0] W' fun e w' => e = .returned (.int .i64 v) ∧ Below W'.heap.size W' w' := hbe
        clear hbe hl hB hxB hrr hL0 hla
        ((repeat' (first|refine zza ?_|refine zc9 ?_|refine zzb fun w hw => ?_|refine zzh fun _ => ?_|refine zzi fun _ _ => ?_|refine zzj (fun _ => ?_) fun _ => ?_)); (repeat' (refine CW_seq ?_; (repeat' (first|refine zza ?_|refine zc9 ?_|refine zzb fun w hw => ?_|refine zzh fun _ => ?_|refine zzi fun _ _ => ?_|refine zzj (fun _ => ?_) fun _ => ?_)))))
        (apply WL_callV; rfl; rfl; rfl; (intro W hW; exact hFld W))
        ((repeat' (first|refine zza ?_|refine zc9 ?_|refine zzb fun w hw => ?_|refine zzh fun _ => ?_|refine zzi fun _ _ => ?_|refine zzj (fun _ => ?_) fun _ => ?_)); (repeat' (refine CW_seq ?_; (repeat' (first|refine zza ?_|refine zc9 ?_|refine zzb fun w hw => ?_|refine zzh fun _ => ?_|refine zzi fun _ _ => ?_|refine zzj (fun _ => ?_) fun _ => ?_)))))
        (apply WL_callV; rfl; rfl; rfl; (intro W hW; exact hbe' W hW))
        by_cases hv : v = (L.length : Int)
        · obtain rfl := hfin.1 hv
          ((repeat' (first|refine zza ?_|refine zc9 ?_|refine zzb fun w hw => ?_|refine zzh fun _ => ?_|refine zzi fun _ _ => ?_|refine zzj (fun _ => ?_) fun _ => ?_)); (repeat' (refine CW_seq ?_; (repeat' (first|refine zza ?_|refine zc9 ?_|refine zzb fun w hw => ?_|refine zzh fun _ => ?_|refine zzi fun _ _ => ?_|refine zzj (fun _ => ?_) fun _ => ?_)))))
          exact ⟨rfl, hw.below⟩
        · obtain rfl := hfin.2 hv
          ((repeat' (first|refine zza ?_|refine zc9 ?_|refine zzb fun w hw => ?_|refine zzh fun _ => ?_|refine zzi fun _ _ => ?_|refine zzj (fun _ => ?_) fun _ => ?_)); (repeat' (refine CW_seq ?_; (repeat' (first|refine zza ?_|refine zc9 ?_|refine zzb fun w hw => ?_|refine zzh fun _ => ?_|refine zzi fun _ _ => ?_|refine zzj (fun _ => ?_) fun _ => ?_)))))
          exact ⟨rfl, hw.below⟩
      | false =>
        have hl : lineAt (L.map NodM.nod) = 0 := by rw [hL0]; exact if_neg (fun h => by have := h.2; rw [hrr] at this; cases this)
        rw [hrr] at hFld
        rw [hl] at hbe
        have hbe' : ∀ W', Holds W [] [ro W [] W.cell?] W' → Calls Tryz.prog 73 #[.slice p L.length c, .int .i64 0, .int .i64 0] W' fun e w' => e = .returned (.int .i64 v) ∧ Below W'.heap.size W' w' := hbe
        clear hbe hl hB hxB hrr hL0 hla
        ((repeat' (first|refine zza ?_|refine zc9 ?_|refine zzb fun w hw => ?_|refine zzh fun _ => ?_|refine zzi fun _ _ => ?_|refine zzj (fun _ => ?_) fun _ => ?_)); (repeat' (refine CW_seq ?_; (repeat' (first|refine zza ?_|refine zc9 ?_|refine zzb fun w hw => ?_|refine zzh fun _ => ?_|refine zzi fun _ _ => ?_|refine zzj (fun _ => ?_) fun _ => ?_)))))
        (apply WL_callV; rfl; rfl; rfl; (intro W hW; exact hFld W))
        ((repeat' (first|refine zza ?_|refine zc9 ?_|refine zzb fun w hw => ?_|refine zzh fun _ => ?_|refine zzi fun _ _ => ?_|refine zzj (fun _ => ?_) fun _ => ?_)); (repeat' (refine CW_seq ?_; (repeat' (first|refine zza ?_|refine zc9 ?_|refine zzb fun w hw => ?_|refine zzh fun _ => ?_|refine zzi fun _ _ => ?_|refine zzj (fun _ => ?_) fun _ => ?_)))))
        (apply WL_callV; rfl; rfl; rfl; (intro W hW; exact hbe' W hW))
        by_cases hv : v = (L.length : Int)
        · obtain rfl := hfin.1 hv
          ((repeat' (first|refine zza ?_|refine zc9 ?_|refine zzb fun w hw => ?_|refine zzh fun _ => ?_|refine zzi fun _ _ => ?_|refine zzj (fun _ => ?_) fun _ => ?_)); (repeat' (refine CW_seq ?_; (repeat' (first|refine zza ?_|refine zc9 ?_|refine zzb fun w hw => ?_|refine zzh fun _ => ?_|refine zzi fun _ _ => ?_|refine zzj (fun _ => ?_) fun _ => ?_)))))
          exact ⟨rfl, hw.below⟩
        · obtain rfl := hfin.2 hv
          ((repeat' (first|refine zza ?_|refine zc9 ?_|refine zzb fun w hw => ?_|refine zzh fun _ => ?_|refine zzi fun _ _ => ?_|refine zzj (fun _ => ?_) fun _ => ?_)); (repeat' (refine CW_seq ?_; (repeat' (first|refine zza ?_|refine zc9 ?_|refine zzb fun w hw => ?_|refine zzh fun _ => ?_|refine zzi fun _ _ => ?_|refine zzj (fun _ => ?_) fun _ => ?_)))))
          exact ⟨rfl, hw.below⟩
    · have hl : lineAt (L.map NodM.nod) = 0 := by rw [hL0]; exact if_neg (fun h => h9 h.1)
      rw [hl] at hbe
      have hbe' : ∀ W', Holds W [] [ro W [] W.cell?] W' → Calls Tryz.prog 73 #[.slice p L.length c, .int .i64 0, .int .i64 0] W' fun e w' => e = .returned (.int .i64 v) ∧ Below W'.heap.size W' w' := hbe
      clear hbe hl hB hxB hL0 hla hFld
      ((repeat' (first|refine zza ?_|refine zc9 ?_|refine zzb fun w hw => ?_|refine zzh fun _ => ?_|refine zzi fun _ _ => ?_|refine zzj (fun _ => ?_) fun _ => ?_)); (repeat' (refine CW_seq ?_; (repeat' (first|refine zza ?_|refine zc9 ?_|refine zzb fun w hw => ?_|refine zzh fun _ => ?_|refine zzi fun _ _ => ?_|refine zzj (fun _ => ?_) fun _ => ?_)))))
      (apply WL_callV; rfl; rfl; rfl; (intro W hW; exact hbe' W hW))
      by_cases hv : v = (L.length : Int)
      · obtain rfl := hfin.1 hv
        ((repeat' (first|refine zza ?_|refine zc9 ?_|refine zzb fun w hw => ?_|refine zzh fun _ => ?_|refine zzi fun _ _ => ?_|refine zzj (fun _ => ?_) fun _ => ?_)); (repeat' (refine CW_seq ?_; (repeat' (first|refine zza ?_|refine zc9 ?_|refine zzb fun w hw => ?_|refine zzh fun _ => ?_|refine zzi fun _ _ => ?_|refine zzj (fun _ => ?_) fun _ => ?_)))))
        exact ⟨rfl, hw.below⟩
      · obtain rfl := hfin.2 hv
        ((repeat' (first|refine zza ?_|refine zc9 ?_|refine zzb fun w hw => ?_|refine zzh fun _ => ?_|refine zzi fun _ _ => ?_|refine zzj (fun _ => ?_) fun _ => ?_)); (repeat' (refine CW_seq ?_; (repeat' (first|refine zza ?_|refine zc9 ?_|refine zzb fun w hw => ?_|refine zzh fun _ => ?_|refine zzi fun _ _ => ?_|refine zzj (fun _ => ?_) fun _ => ?_)))))
        exact ⟨rfl, hw.below⟩
end Go.Proofs.YtngeooflfkpikaaGreatDoor
