/-
  tree: put, glyph.
  tree: put, its kinds in a slice of the caller's own.
-/
import Derived.Test.YtngeooflfkpikaaGreatDoorZGo
import Derived.Test.YtngeooflfkpikaaGreatDoorZPrintPlain
import Derived.Test.YtngeooflfkpikaaGreatDoorZRetC
import Derived.Test.YtngeooflfkpikaaGreatDoorZSoundPlain
import Derived.Test.YtngeooflfkpikaaGreatDoorZPar
namespace Go.Proofs.YtngeooflfkpikaaGreatDoor
open Go.RowKit
/-- the printer: its words lie in a slice of the call's own -/
abbrev prt (b : Nat) (q : Option Addr) (n c : Nat) : HP := blk b 105 #[.slice q n c]
abbrev tsl (q : Option Addr) (n c : Nat) (ts : List Tok) : HP := sl 39 5 q n c (ts.flatMap tokE)
abbrev prS (b : Nat) (z : Option Addr × Nat) (ts : List Tok) : List HP := [prt b z.1 ts.length z.2, tsl z.1 ts.length z.2 ts]
theorem tsl_snoc (xs : List Tok) (x : Tok) : xs.flatMap tokE ++ tokE x = (xs ++ [x]).flatMap tokE := by simp
/-- words are put behind others -/
def PrGot (b : Nat) (ts us : List Tok) (G : Rd) (w : World) (fp : List Nat) (e : Ending) (w' : World) : Prop :=
  ∃ z : Option Addr × Nat, True ∧ e = .returned (.tuple #[]) ∧ Holds w fp (ro w fp G :: prS b z (ts ++ us)) w'
set_option maxHeartbeats 4000000 in
set_option maxRecDepth 100000 in
theorem tree_pglyph (f : Int) (b : Nat) (z : Option Addr × Nat) (ts : List Tok) (G : Rd) (w : World) (fp : List Nat) (hx : ts.length ≤ 1000000000) (hO : Own (prS b z ts) fp w) (hS : Rd.sub G fp w) :
    Calls Tryz.prog 189 #[.pointer (some ⟨b, 0, none⟩), .int .i64 f] w (PrGot b ts [tokG f] G w fp) := by
  obtain ⟨q, c⟩ := z
  dsimp only [prS] at hO
  refine enterR (args := [_, _]) hS hO Tryz.func189 rfl Tryz.ntmps189 (by simp) ?_
  ((repeat' (first|refine zza ?_|refine zc9 ?_|refine zzb fun w hw => ?_|refine zzh fun _ => ?_|refine zzi fun _ _ => ?_|refine zzj (fun _ => ?_) fun _ => ?_)); (repeat' (refine CW_seq ?_; (repeat' (first|refine zza ?_|refine zc9 ?_|refine zzb fun w hw => ?_|refine zzh fun _ => ?_|refine zzi fun _ _ => ?_|refine zzj (fun _ => ?_) fun _ => ?_)))))
  rename_i q' c2
  refine ⟨(q', c2), trivial, rfl, ?_⟩
  dsimp only [prS, tsl]
  rw [List.length_append, List.length_singleton, ← tsl_snoc]
  exact hw.ent zent
set_option maxHeartbeats 4000000 in
set_option maxRecDepth 100000 in
theorem tree_pput (p : Option Addr) (c : Nat) (ks : List Int) (b : Nat) (z : Option Addr × Nat) (ts : List Tok) (G : Rd) (w : World) (fp : List Nat) (hk : ks.length ≤ 1000) (hx : ts.length ≤ 1000000) (hR : Row encI 1 G p c ks) (hO : Own (prS b z ts) fp w) (hS : Rd.sub G fp w) :
    Calls Tryz.prog 91 #[.pointer (some ⟨b, 0, none⟩), .slice p ks.length c] w (PrGot b ts (ks.map tokK) G w fp) := by
  dsimp only [prS] at hO
  refine enterR (args := [_, _]) hS hO Tryz.func91 rfl Tryz.ntmps91 (by simp) ?_
  ((repeat' (first|refine zza ?_|refine zc9 ?_|refine zzb fun w hw => ?_|refine zzh fun _ => ?_|refine zzi fun _ _ => ?_|refine zzj (fun _ => ?_) fun _ => ?_)); (repeat' (refine CW_seq ?_; (repeat' (first|refine zza ?_|refine zc9 ?_|refine zzb fun w hw => ?_|refine zzh fun _ => ?_|refine zzi fun _ _ => ?_|refine zzj (fun _ => ?_) fun _ => ?_)))))
  refine CW_loopK [(0,_),(6,_),(7,_)] zcov (fun x : Nat × Option Addr × Nat => [(8, .int .i64 (x.1 : Int))]) (fun x => ro w fp G :: prS b (x.2.1, x.2.2) (ts ++ (ks.take x.1).map tokK)) (fun x => x.1 ≤ ks.length) (fun x => ks.length - x.1) (0, z.1, z.2) (Nat.zero_le _) zcov (by simp only [List.take_zero, List.map_nil, List.append_nil]; exact zent) ?_
  rintro ⟨i, q, c1⟩ hi
  dsimp only at hi ⊢
  by_cases hlt : i < ks.length
  · obtain ⟨k, hk⟩ : ∃ k, ks[i]? = some k := ⟨ks[i], by simp [hlt]⟩
    have hlen : (ts ++ (ks.take i).map tokK).length ≤ 1000000000 := by simp; omega
    generalize hT : ts ++ (ks.take i).map tokK = T at hlen ⊢
    dsimp only [prS]
    ((repeat' (first|refine zza ?_|refine zc9 ?_|refine zzb fun w hw => ?_|refine zzh fun _ => ?_|refine zzi fun _ _ => ?_|refine zzj (fun _ => ?_) fun _ => ?_)); (repeat' (refine CW_seq ?_; (repeat' (first|refine zza ?_|refine zc9 ?_|refine zzb fun w hw => ?_|refine zzh fun _ => ?_|refine zzi fun _ _ => ?_|refine zzj (fun _ => ?_) fun _ => ?_)))))
    refine WL_op rfl rfl (y_load rfl (rd_row (enc := encI) hR .here hk)) ?_
    ((repeat' (first|refine zza ?_|refine zc9 ?_|refine zzb fun w hw => ?_|refine zzh fun _ => ?_|refine zzi fun _ _ => ?_|refine zzj (fun _ => ?_) fun _ => ?_)); (repeat' (refine CW_seq ?_; (repeat' (first|refine zza ?_|refine zc9 ?_|refine zzb fun w hw => ?_|refine zzh fun _ => ?_|refine zzi fun _ _ => ?_|refine zzj (fun _ => ?_) fun _ => ?_)))))
    rename_i b3 q' c2
    have e1 : ts ++ (ks.take (i + 1)).map tokK = T ++ [tokK k] := by
      rw [List.take_add_one, hk, ← hT]
      simp
    refine EX_loop' (i + 1, q', c2) ⟨zcov, ?_, by dsimp only; omega, by dsimp only; omega⟩
    dsimp only
    rw [e1]
    dsimp only [prS, tsl]
    rw [List.length_append, List.length_singleton, ← tsl_snoc]
    exact zent
  have hik : i = ks.length := by omega
  subst hik
  rw [List.take_length]
  ((repeat' (first|refine zza ?_|refine zc9 ?_|refine zzb fun w hw => ?_|refine zzh fun _ => ?_|refine zzi fun _ _ => ?_|refine zzj (fun _ => ?_) fun _ => ?_)); (repeat' (refine CW_seq ?_; (repeat' (first|refine zza ?_|refine zc9 ?_|refine zzb fun w hw => ?_|refine zzh fun _ => ?_|refine zzi fun _ _ => ?_|refine zzj (fun _ => ?_) fun _ => ?_)))))
  exact ⟨(q, c1), trivial, rfl, hw⟩
set_option maxRecDepth 100000 in
theorem tree_compound (e : Ex) (v : Value) (G : Rd) (hv : e.rep G v) (w : World) :
    Calls Tryz.prog 95 #[v] w fun en w' => en = .returned (.bool e.comp) ∧ Below w.heap.size w w' := by
  cases e with
  | leaf n =>
    unfold Ex.rep at hv
    rcases hv with ⟨_, q, c, rfl, _⟩ | ⟨_, rfl⟩ | ⟨_, rfl⟩ | ⟨_, rfl⟩
    all_goals
      refine enter (args := [_]) (m := []) (F := []) Tryz.func95 rfl Tryz.ntmps95 (by simp) rfl ?_
      (repeat' (first|refine zza ?_|refine zc9 ?_|refine zzb fun w hw => ?_|refine zzh fun _ => ?_|refine zzi fun _ _ => ?_|refine zzj (fun _ => ?_) fun _ => ?_))
      exact ⟨rfl, hw.below⟩
  | one n b r =>
    unfold Ex.rep at hv
    obtain ⟨q, c, vs, u, rfl, _⟩ := hv
    refine enter (args := [_]) (m := []) (F := []) Tryz.func95 rfl Tryz.ntmps95 (by simp) rfl ?_
    (repeat' (first|refine zza ?_|refine zc9 ?_|refine zzb fun w hw => ?_|refine zzh fun _ => ?_|refine zzi fun _ _ => ?_|refine zzj (fun _ => ?_) fun _ => ?_))
    exact ⟨rfl, hw.below⟩
  | two n l b r =>
    unfold Ex.rep at hv
    obtain ⟨q, c, vs, t, u, rfl, _⟩ := hv
    refine enter (args := [_]) (m := []) (F := []) Tryz.func95 rfl Tryz.ntmps95 (by simp) rfl ?_
    (repeat' (first|refine zza ?_|refine zc9 ?_|refine zzb fun w hw => ?_|refine zzh fun _ => ?_|refine zzi fun _ _ => ?_|refine zzj (fun _ => ?_) fun _ => ?_))
    exact ⟨rfl, hw.below⟩
  | pick n o b =>
    unfold Ex.rep at hv
    obtain ⟨q, c, vs, t, rfl, _⟩ := hv
    refine enter (args := [_]) (m := []) (F := []) Tryz.func95 rfl Tryz.ntmps95 (by simp) rfl ?_
    (repeat' (first|refine zza ?_|refine zc9 ?_|refine zzb fun w hw => ?_|refine zzh fun _ => ?_|refine zzi fun _ _ => ?_|refine zzj (fun _ => ?_) fun _ => ?_))
    exact ⟨rfl, hw.below⟩
set_option maxHeartbeats 2000000 in
set_option maxRecDepth 100000 in
theorem tree_catches (n : Nod) (p : Option Addr) (len c : Nat) (e : Ex) (v : Value) (G : Rd) (hv : e.rep G v) (w : World) :
    Calls Tryz.prog 94 #[.agg #[.int .i64 n.aop, .int .i64 n.af, .int .i64 n.ag, .int .i64 n.n, .slice p len c], v] w fun en w' => en = .returned (.bool (catchE n e)) ∧ Below w.heap.size w w' := by
  cases e with
  | one m b r =>
    unfold Ex.rep at hv
    obtain ⟨q, c', vs, u, rfl, _, _, hu⟩ := hv
    obtain ⟨T, uu, rfl⟩ := Ex.rep_iface hu
    have hC : catchE n (.one m b r) = decide (n.aop = 0 ∧ m.aop ≠ 3 ∧ (m.af = 33 ∨ m.af = 34)) := rfl
    refine enter (args := [_, _]) (m := []) (F := []) Tryz.func94 rfl Tryz.ntmps94 (by simp) rfl ?_
    by_cases h0 : n.aop = 0
    case neg =>
      (repeat' (first|refine zza ?_|refine zc9 ?_|refine zzb fun w hw => ?_|refine zzh fun _ => ?_|refine zzi fun _ _ => ?_|refine zzj (fun _ => ?_) fun _ => ?_))
      exact ⟨by rw [hC, decide_eq_false (by omega)], hw.below⟩
    by_cases h3 : m.aop = 3
    · (repeat' (first|refine zza ?_|refine zc9 ?_|refine zzb fun w hw => ?_|refine zzh fun _ => ?_|refine zzi fun _ _ => ?_|refine zzj (fun _ => ?_) fun _ => ?_))
      exact ⟨by rw [hC, decide_eq_false (by omega)], hw.below⟩
    by_cases h33 : m.af = 33
    · (repeat' (first|refine zza ?_|refine zc9 ?_|refine zzb fun w hw => ?_|refine zzh fun _ => ?_|refine zzi fun _ _ => ?_|refine zzj (fun _ => ?_) fun _ => ?_))
      exact ⟨by rw [hC, decide_eq_true (by omega)], hw.below⟩
    by_cases h34 : m.af = 34
    · (repeat' (first|refine zza ?_|refine zc9 ?_|refine zzb fun w hw => ?_|refine zzh fun _ => ?_|refine zzi fun _ _ => ?_|refine zzj (fun _ => ?_) fun _ => ?_))
      exact ⟨by rw [hC]; simp [h0, h3, h34], hw.below⟩
    · (repeat' (first|refine zza ?_|refine zc9 ?_|refine zzb fun w hw => ?_|refine zzh fun _ => ?_|refine zzi fun _ _ => ?_|refine zzj (fun _ => ?_) fun _ => ?_))
      exact ⟨by rw [hC]; simp [h33, h34], hw.below⟩
  | leaf m =>
    unfold Ex.rep at hv
    rcases hv with ⟨_, q, c, rfl, _⟩ | ⟨_, rfl⟩ | ⟨_, rfl⟩ | ⟨_, rfl⟩
    all_goals
      refine enter (args := [_, _]) (m := []) (F := []) Tryz.func94 rfl Tryz.ntmps94 (by simp) rfl ?_
      by_cases h0 : n.aop = 0
      · (repeat' (first|refine zza ?_|refine zc9 ?_|refine zzb fun w hw => ?_|refine zzh fun _ => ?_|refine zzi fun _ _ => ?_|refine zzj (fun _ => ?_) fun _ => ?_))
        exact ⟨rfl, hw.below⟩
      · (repeat' (first|refine zza ?_|refine zc9 ?_|refine zzb fun w hw => ?_|refine zzh fun _ => ?_|refine zzi fun _ _ => ?_|refine zzj (fun _ => ?_) fun _ => ?_))
        exact ⟨rfl, hw.below⟩
  | two m l b r =>
    unfold Ex.rep at hv
    obtain ⟨q, c, vs, t, u, rfl, _⟩ := hv
    refine enter (args := [_, _]) (m := []) (F := []) Tryz.func94 rfl Tryz.ntmps94 (by simp) rfl ?_
    by_cases h0 : n.aop = 0
    · (repeat' (first|refine zza ?_|refine zc9 ?_|refine zzb fun w hw => ?_|refine zzh fun _ => ?_|refine zzi fun _ _ => ?_|refine zzj (fun _ => ?_) fun _ => ?_))
      exact ⟨rfl, hw.below⟩
    · (repeat' (first|refine zza ?_|refine zc9 ?_|refine zzb fun w hw => ?_|refine zzh fun _ => ?_|refine zzi fun _ _ => ?_|refine zzj (fun _ => ?_) fun _ => ?_))
      exact ⟨rfl, hw.below⟩
  | pick m o b =>
    unfold Ex.rep at hv
    obtain ⟨q, c, vs, t, rfl, _⟩ := hv
    refine enter (args := [_, _]) (m := []) (F := []) Tryz.func94 rfl Tryz.ntmps94 (by simp) rfl ?_
    by_cases h0 : n.aop = 0
    · (repeat' (first|refine zza ?_|refine zc9 ?_|refine zzb fun w hw => ?_|refine zzh fun _ => ?_|refine zzi fun _ _ => ?_|refine zzj (fun _ => ?_) fun _ => ?_))
      exact ⟨rfl, hw.below⟩
    · (repeat' (first|refine zza ?_|refine zc9 ?_|refine zzb fun w hw => ?_|refine zzh fun _ => ?_|refine zzi fun _ _ => ?_|refine zzj (fun _ => ?_) fun _ => ?_))
      exact ⟨rfl, hw.below⟩
end Go.Proofs.YtngeooflfkpikaaGreatDoor
namespace Go.Proofs.YtngeooflfkpikaaGreatDoor
open Go.RowKit
theorem PrGot.g {b : Nat} {ts us : List Tok} {G : Rd} {w : World} {fp : List Nat} {e : Ending} {w' : World} (h : PrGot b ts us G w fp e w') : ∃ z : Option Addr × Nat, True ∧ e = .returned (.tuple #[]) ∧ Rd.grow w G G ∧ Holds w fp (ro w fp G :: prS b z (ts ++ us)) w' :=
  let ⟨z, h1, h2, h3⟩ := h
  ⟨z, h1, h2, Rd.grow_refl _ _, h3⟩
set_option maxHeartbeats 4000000 in
set_option maxRecDepth 100000 in
theorem tree_pputO (p : Option Addr) (c : Nat) (ks : List Int) (b : Nat) (z : Option Addr × Nat) (ts : List Tok) (G : Rd) (w : World) (fp : List Nat) (hn : ks.length ≤ 1000) (hx : ts.length ≤ 999000000) (hO : Own (prS b z ts ++ [sl 3 1 p ks.length c (ks.map (Value.int .i64))]) fp w) (hS : Rd.sub G fp w) :
    Calls Tryz.prog 91 #[.pointer (some ⟨b, 0, none⟩), .slice p ks.length c] w (PrGot b ts (ks.map tokK) G w fp) := by
  dsimp only [prS, List.cons_append, List.nil_append] at hO
  refine enterR (args := [_, _]) hS hO Tryz.func91 rfl Tryz.ntmps91 (by simp) ?_
  ((repeat' (first|refine zza ?_|refine zc9 ?_|refine zzb fun w hw => ?_|refine zzh fun _ => ?_|refine zzi fun _ _ => ?_|refine zzj (fun _ => ?_) fun _ => ?_)); (repeat' (refine CW_seq ?_; (repeat' (first|refine zza ?_|refine zc9 ?_|refine zzb fun w hw => ?_|refine zzh fun _ => ?_|refine zzi fun _ _ => ?_|refine zzj (fun _ => ?_) fun _ => ?_)))))
  refine CW_loopK [(0,_),(6,_),(7,_)] zcov (fun x : Nat × Option Addr × Nat => [(8, .int .i64 (x.1 : Int))]) (fun x => ro w fp G :: sl 3 1 p ks.length c (ks.map (Value.int .i64)) :: prS b (x.2.1, x.2.2) (ts ++ (ks.take x.1).map tokK)) (fun x => x.1 ≤ ks.length) (fun x => ks.length - x.1) (0, z.1, z.2) (Nat.zero_le _) zcov (by simp only [List.take_zero, List.map_nil, List.append_nil]; exact zent) ?_
  rintro ⟨i, q, c1⟩ hi
  dsimp only at hi ⊢
  by_cases hlt : i < ks.length
  · obtain ⟨k, hk⟩ : ∃ k, ks[i]? = some k := ⟨ks[i], by simp [hlt]⟩
    have hk' : (ks.map (Value.int .i64))[i]? = some (.int .i64 k) := by rw [List.getElem?_map, hk]; rfl
    have hlen : (ts ++ (ks.take i).map tokK).length ≤ 1000000000 := by simp; omega
    generalize hT : ts ++ (ks.take i).map tokK = T at hlen ⊢
    dsimp only [prS]
    ((repeat' (first|refine zza ?_|refine zc9 ?_|refine zzb fun w hw => ?_|refine zzh fun _ => ?_|refine zzi fun _ _ => ?_|refine zzj (fun _ => ?_) fun _ => ?_)); (repeat' (refine CW_seq ?_; (repeat' (first|refine zza ?_|refine zc9 ?_|refine zzb fun w hw => ?_|refine zzh fun _ => ?_|refine zzi fun _ _ => ?_|refine zzj (fun _ => ?_) fun _ => ?_)))))
    first
    | refine WL_op rfl rfl (y_load rfl (rd_own1 (.there .here) hk')) ?_
    | trace_state
    ((repeat' (first|refine zza ?_|refine zc9 ?_|refine zzb fun w hw => ?_|refine zzh fun _ => ?_|refine zzi fun _ _ => ?_|refine zzj (fun _ => ?_) fun _ => ?_)); (repeat' (refine CW_seq ?_; (repeat' (first|refine zza ?_|refine zc9 ?_|refine zzb fun w hw => ?_|refine zzh fun _ => ?_|refine zzi fun _ _ => ?_|refine zzj (fun _ => ?_) fun _ => ?_)))))
    rename_i b3 q' c2
    have e1 : ts ++ (ks.take (i + 1)).map tokK = T ++ [tokK k] := by
      rw [List.take_add_one, hk, ← hT]
      simp
    refine EX_loop' (i + 1, q', c2) ⟨zcov, ?_, by dsimp only; omega, by dsimp only; omega⟩
    dsimp only
    rw [e1]
    dsimp only [prS, tsl]
    rw [List.length_append, List.length_singleton, ← tsl_snoc]
    exact zent
  have hik : i = ks.length := by omega
  subst hik
  rw [List.take_length]
  ((repeat' (first|refine zza ?_|refine zc9 ?_|refine zzb fun w hw => ?_|refine zzh fun _ => ?_|refine zzi fun _ _ => ?_|refine zzj (fun _ => ?_) fun _ => ?_)); (repeat' (refine CW_seq ?_; (repeat' (first|refine zza ?_|refine zc9 ?_|refine zzb fun w hw => ?_|refine zzh fun _ => ?_|refine zzi fun _ _ => ?_|refine zzj (fun _ => ?_) fun _ => ?_)))))
  exact ⟨(q, c1), trivial, rfl, hw.ent zent⟩
end Go.Proofs.YtngeooflfkpikaaGreatDoor
