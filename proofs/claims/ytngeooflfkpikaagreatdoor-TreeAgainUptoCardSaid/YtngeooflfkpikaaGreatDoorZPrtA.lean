/-
  tree: Print: what words it tells.
  What is printed parses to the nodes; a line that is known. Of no program but for what Print tells.
  What a law knows of what Print told.
-/
import Derived.Test.YtngeooflfkpikaaGreatDoorZGo
import Derived.Test.YtngeooflfkpikaaGreatDoorZPrint4
import Derived.Test.YtngeooflfkpikaaGreatDoorZTree4
import Derived.Test.YtngeooflfkpikaaGreatDoorZBrackets
import Derived.Test.YtngeooflfkpikaaGreatDoorZPrintPlain
namespace Go.Proofs.YtngeooflfkpikaaGreatDoor
open Go.RowKit
/-- what is printed of nodes: what is wrong, the words -/
noncomputable def printF (L : List Nod) : Int × List Tok := if treeF L = 0 then (match treeG L with
    | some t => if 200 < (toksL t).length then (7, []) else (0, toksL t)
    | none => (0, []))
  else (treeF L, [])
theorem toksL_len {L : List Nod} {t : Option Nod × Ex} (h : treeG L = some t) : (toksL t).length ≤ 8 * L.length + numsT L + 2 := by
  obtain ⟨o, e⟩ := t
  match L, h with
  | [], h => simp [treeG] at h
  | n :: r, h =>
    rw [treeG_cons] at h
    have key : ∀ (o' : Option Nod) (l : List Nod) (e' : Ex), exF 0 l = some (e', []) → some (o', e') = some (o, e) → e.toks.length + 1 ≤ 8 * l.length + numsT l := fun o' l e' h1 h2 => by
      obtain ⟨_, hl⟩ := exF_iff.1 h1
      rw [List.append_nil] at hl
      injection h2 with h2
      injection h2 with _ h2
      subst h2
      rw [hl]
      exact Ex.toks_len e'
    split at h
    · split at h
      · rename_i e' he
        have := key _ _ _ he h
        rw [List.length_cons, numsT]
        have h2 : (toksL (o, e)).length ≤ e.toks.length + 2 := by
          unfold toksL
          cases o <;> simp
        omega
      · cases h
    · split at h
      · rename_i e' he
        have := key _ _ _ he h
        have h2 : (toksL (o, e)).length ≤ e.toks.length + 2 := by
          unfold toksL
          cases o <;> simp
        omega
      · cases h
theorem print_line (t : Option Nod × Ex) (v : Value) (G : Rd) (hv : repL t G v) (b : Nat) (z : Option Addr × Nat) (ts : List Tok) (w : World) (fp : List Nat) (hx : ts.length + (toksL t).length ≤ 900000000) (hO : Own (prS b z ts) fp w) (hS : Rd.sub G fp w) :
    Calls Tryz.prog 39 #[.pointer (some ⟨b, 0, none⟩), v] w (PrGot b ts (toksL t) G w fp) := by
  obtain ⟨o, e⟩ := t
  cases o with
  | none => exact print_ex e G v hv b z ts w fp hx hO hS
  | some n =>
    obtain ⟨u, rfl, hu⟩ := hv
    exact print_set n.text e u G hu b z ts w fp (by simp only [toksL, List.length_cons] at hx; omega) hO hS
theorem repL_mono {G G' : Rd} (hl : Rd.le G G') {t : Option Nod × Ex} {v : Value} (h : repL t G v) : repL t G' v := by
  obtain ⟨o, e⟩ := t
  cases o with
  | none => exact Ex.rep_mono hl h
  | some n =>
    obtain ⟨u, h1, h2⟩ := h
    exact ⟨u, h1, Ex.rep_mono hl h2⟩
theorem repL_iface {G : Rd} {t : Option Nod × Ex} {v : Value} (h : repL t G v) : ∃ T u, v = .iface T u := by
  obtain ⟨o, e⟩ := t
  cases o with
  | none => exact Ex.rep_iface h
  | some n =>
    obtain ⟨u, h1, _⟩ := h
    exact ⟨_, _, h1⟩
/-- what Print tells -/
def PrintA (L : List Nod) (w : World) (e : Ending) (w' : World) : Prop := ∃ x : Option Addr × Nat, e = .returned (.tuple #[.slice x.1 (printF L).2.length x.2, errV 24 (printF L).1]) ∧ Below w.heap.size w w' ∧ (Row tokE 5 w'.cell? x.1 x.2 (printF L).2 ∧ Rd.le w.cell? w'.cell?)
set_option maxHeartbeats 4000000 in
set_option maxRecDepth 100000 in
theorem tree_Print (p : Option Addr) (c : Nat) (L : List NodM) (u0 : World) (hR : Row nodE 7 u0.cell? p c L) (hB : ∀ x ∈ L, NodG u0.cell? x) (hN : ∀ x ∈ L, x.nums.xs.length ≤ 1048576) (hG : GlobA u0) :
    Calls Tryz.prog 14 #[.slice p L.length c] u0 (PrintA (L.map NodM.nod) u0) := by
  refine enterR (G := u0.cell?) (args := [_]) (m := []) (F := []) (Rd.sub_cell u0) rfl Tryz.func14 rfl Tryz.ntmps14 (by simp) ?_
  have hread := fun (W : World) (hW : Below u0.heap.size u0 W) => tree_read p c L W (hR.mono (fun a v e => (hW.cell (cell_lt e)).trans e)) (fun x hx => (hB x hx).mono (fun a v e => (hW.cell (cell_lt e)).trans e)) (hG.below hW)
  by_cases hF : treeF (L.map NodM.nod) = 0
  case neg =>
    have hP : printF (L.map NodM.nod) = (treeF (L.map NodM.nod), []) := by unfold printF; rw [if_neg hF]
    unfold PrintA
    rw [hP]
    generalize hf : treeF (L.map NodM.nod) = f at *
    ((repeat' (first|refine zza ?_|refine zc9 ?_|refine zzb fun w hw => ?_|refine zzh fun _ => ?_|refine zzi fun _ _ => ?_|refine zzj (fun _ => ?_) fun _ => ?_)); (repeat' (refine CW_seq ?_; (repeat' (first|refine zza ?_|refine zc9 ?_|refine zzb fun w hw => ?_|refine zzh fun _ => ?_|refine zzi fun _ _ => ?_|refine zzj (fun _ => ?_) fun _ => ?_)))))
    refine WL_callA (X := Unit) (V := fun _ => .tuple #[.nilIface, errV 24 f]) (Φ := fun _ _ => True) rfl rfl rfl rfl (fun W hW => (hread W hW.below).mono fun e w' h => ?_) ?_
    · rcases h with ⟨z, ⟨h1, h2, _⟩, _⟩ | ⟨_, rfl, hb⟩
      · exfalso
        apply hF
        rw [← hf]
        unfold treeF
        rw [List.length_map, if_neg (by omega), h1]
        rfl
      · exact ⟨(), by rw [hf], hb, trivial⟩
    intro _ G1 _
    rw [errV_ne hF]
    ((repeat' (first|refine zza ?_|refine zc9 ?_|refine zzb fun w hw => ?_|refine zzh fun _ => ?_|refine zzi fun _ _ => ?_|refine zzj (fun _ => ?_) fun _ => ?_)); (repeat' (refine CW_seq ?_; (repeat' (first|refine zza ?_|refine zc9 ?_|refine zzb fun w hw => ?_|refine zzh fun _ => ?_|refine zzi fun _ _ => ?_|refine zzj (fun _ => ?_) fun _ => ?_)))))
    exact ⟨(none, 0), rfl, hw.below, Row.nil _ _ _, Rd.le_below hw.below⟩
  obtain ⟨t, ht⟩ : ∃ t, treeG (L.map NodM.nod) = some t := by
    unfold treeF at hF
    split at hF
    · omega
    · split at hF
      · rename_i h
        exact Option.isSome_iff_exists.1 h
      · omega
  have hL400 : L.length ≤ 400 := by
    unfold treeF at hF
    rw [List.length_map] at hF
    split at hF <;> omega
  have hlen := toksL_len ht
  have hnn : numsT (L.map NodM.nod) ≤ (L.map NodM.nod).length * 1048576 := numsT_le fun n hn => by
    obtain ⟨x, hx, rfl⟩ := List.mem_map.1 hn
    exact hN x hx
  rw [List.length_map] at hlen hnn
  have hlen' : (toksL t).length ≤ 800000000 := by omega
  clear hlen hnn
  ((repeat' (first|refine zza ?_|refine zc9 ?_|refine zzb fun w hw => ?_|refine zzh fun _ => ?_|refine zzi fun _ _ => ?_|refine zzj (fun _ => ?_) fun _ => ?_)); (repeat' (refine CW_seq ?_; (repeat' (first|refine zza ?_|refine zc9 ?_|refine zzb fun w hw => ?_|refine zzh fun _ => ?_|refine zzi fun _ _ => ?_|refine zzj (fun _ => ?_) fun _ => ?_)))))
  refine WL_callA (X := Value) (V := fun v => .tuple #[v, .nilIface]) (Φ := fun v G => repL t G v) rfl rfl rfl rfl (fun W hW => (hread W hW.below).mono fun e w' h => ?_) ?_
  · rcases h with ⟨z, ⟨h1, h2, h3⟩, rfl, hg, hh⟩ | ⟨h1, _⟩
    · rw [ht] at h1
      injection h1 with h1
      refine ⟨z.2.2, rfl, hh.below, ?_⟩
      have hle : Rd.le z.1 w'.cell? := hh.le .here
      obtain ⟨G1, t1, v1⟩ := z
      dsimp only at h1 h3 hle ⊢
      subst h1
      exact repL_mono hle h3
    · exact absurd hF h1
  intro v G1 hv
  obtain ⟨T, u, rfl⟩ := repL_iface hv
  clear hread hB hR hN
  ((repeat' (first|refine zza ?_|refine zc9 ?_|refine zzb fun w hw => ?_|refine zzh fun _ => ?_|refine zzi fun _ _ => ?_|refine zzj (fun _ => ?_) fun _ => ?_)); (repeat' (refine CW_seq ?_; (repeat' (first|refine zza ?_|refine zc9 ?_|refine zzb fun w hw => ?_|refine zzh fun _ => ?_|refine zzi fun _ _ => ?_|refine zzj (fun _ => ?_) fun _ => ?_)))))
  rename_i b6
  refine WL_pr (b := b6) (z := (none, 0)) (ts := []) (us := toksL t) (r := []) ?_ rfl rfl rfl (fun W fp' hO hS => print_line t (.iface T u) G1 hv b6 (none, 0) [] W fp' (by rw [List.length_nil]; omega) hO hS) fun z1 => ?_
  · exact Ent.cons (.there .here) (Ent.cons .here (Ent.nilown Ent.nil))
  obtain ⟨q1, c1⟩ := z1
  rw [List.nil_append]
  by_cases h200 : 200 < (toksL t).length
  · have hP : printF (L.map NodM.nod) = (7, []) := by unfold printF; rw [if_pos hF, ht]; dsimp only; rw [if_pos h200]
    unfold PrintA
    rw [hP]
    dsimp only [prS]
    ((repeat' (first|refine zza ?_|refine zc9 ?_|refine zzb fun w hw => ?_|refine zzh fun _ => ?_|refine zzi fun _ _ => ?_|refine zzj (fun _ => ?_) fun _ => ?_)); (repeat' (refine CW_seq ?_; (repeat' (first|refine zza ?_|refine zc9 ?_|refine zzb fun w hw => ?_|refine zzh fun _ => ?_|refine zzi fun _ _ => ?_|refine zzj (fun _ => ?_) fun _ => ?_)))))
    exact ⟨(none, 0), rfl, hw.below, Row.nil _ _ _, Rd.le_below hw.below⟩
  · have hP : printF (L.map NodM.nod) = (0, toksL t) := by unfold printF; rw [if_pos hF, ht]; dsimp only; rw [if_neg h200]
    unfold PrintA
    rw [hP]
    dsimp only [prS]
    ((repeat' (first|refine zza ?_|refine zc9 ?_|refine zzb fun w hw => ?_|refine zzh fun _ => ?_|refine zzi fun _ _ => ?_|refine zzj (fun _ => ?_) fun _ => ?_)); (repeat' (refine CW_seq ?_; (repeat' (first|refine zza ?_|refine zc9 ?_|refine zzb fun w hw => ?_|refine zzh fun _ => ?_|refine zzi fun _ _ => ?_|refine zzj (fun _ => ?_) fun _ => ?_)))))
    exact ⟨(q1, c1), rfl, hw.below, (row_sl (enc := tokE) (fun _ => rfl) (by decide) hw zpk).2, Rd.le_below hw.below⟩
end Go.Proofs.YtngeooflfkpikaaGreatDoor
namespace Go.Proofs.YtngeooflfkpikaaGreatDoor
theorem print_ok {L : List Nod} {ts : List Tok} (h : printF L = (0, ts)) : ∃ t, treeG L = some t ∧ ts = toksL t ∧ ts.length ≤ 200 := by
  unfold printF at h
  split at h
  · rename_i hF
    cases hG : treeG L with
    | none =>
      exfalso
      unfold treeF at hF
      rw [hG] at hF
      split at hF
      · omega
      · simp at hF
    | some t =>
      rw [hG] at h
      simp only at h
      split at h
      · injection h with h _; exact absurd h (by decide)
      · injection h with _ h
        exact ⟨t, rfl, h.symm, by rw [← h]; omega⟩
  · rename_i hF
    injection h with h _
    exact absurd h hF
theorem print_back {L : List Nod} {ts : List Tok} (h : printF L = (0, ts)) (hn : ∀ n ∈ L, NumsP n) : parseF ts = (0, 0, L) ∧ ∀ u ∈ ts, I64 u.num ∧ I64 u.fn ∧ u.text.length ≤ 4294967280 := by
  obtain ⟨t, h1, rfl, h3⟩ := print_ok h
  obtain ⟨x, h4, h5, h6⟩ := back_line h1 hn
  exact ⟨by rw [parse_of h3 (fun u hu => (h6 u hu).1) h4, h5], fun u hu => (h6 u hu).2⟩
def subN : Nod := ⟨6, 0, 2, 0, 0, [], []⟩
end Go.Proofs.YtngeooflfkpikaaGreatDoor
namespace Go.Proofs.YtngeooflfkpikaaGreatDoor
open Go.RowKit
noncomputable def prtV (L : List Nod) (z : Option Addr × Nat) : Value := .tuple #[.slice z.1 (printF L).2.length z.2, errV 24 (printF L).1]
theorem print_law (p : Option Addr) (c : Nat) (L : List NodM) (W : World) (hR : Row nodE 7 W.cell? p c L) (hB : ∀ x ∈ L, NodG W.cell? x) (hN : ∀ x ∈ L, x.nums.xs.length ≤ 1048576) (hG : GlobA W) :
    Calls Tryz.prog 14 #[.slice p L.length c] W fun e w' => ∃ z : Option Addr × Nat, e = .returned (prtV (L.map NodM.nod) z) ∧ Below W.heap.size W w' ∧ (Row tokE 5 w'.cell? z.1 z.2 (printF (L.map NodM.nod)).2 ∧ Rd.le W.cell? w'.cell?) :=
  tree_Print p c L W hR hB hN hG
theorem numsP_of {G : Rd} {L : List NodM} (h : ∀ x ∈ L, NodG G x) : ∀ n ∈ L.map NodM.nod, NumsP n := fun n hn => by
  obtain ⟨x, hx, rfl⟩ := List.mem_map.1 hn
  exact ⟨(h x hx).numsR, (h x hx).text⟩
end Go.Proofs.YtngeooflfkpikaaGreatDoor
