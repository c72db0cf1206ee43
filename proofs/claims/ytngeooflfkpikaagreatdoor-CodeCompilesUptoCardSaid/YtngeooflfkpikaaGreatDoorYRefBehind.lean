/-
  ravelinref3: Behind: the place behind an expression.
-/
import Derived.Test.YtngeooflfkpikaaGreatDoorYGo
import Derived.Test.YtngeooflfkpikaaGreatDoorYBehind
import Derived.Test.YtngeooflfkpikaaGreatDoorYRefFields
import Derived.Test.YtngeooflfkpikaaGreatDoorYOpenIns
namespace Go.Proofs.YtngeooflfkpikaaGreatDoor
open Go.RowKit
theorem y_minB {P : Program} {K : Cx} {ρ : Env} {m : List HP} {dst : Option Nat} {ty t t' : TypeId} {pos : String} {aft : Array Edge} {g : Option (Nat × Bool)} {x y : Operand} {k : IntKind} {i j : Int} (hx : opv ρ x = some (.int k i)) (hy : opv ρ y = some (.int k j)) : Yi P K ρ m ⟨dst, .call ⟨.builtin .min, #[x, y], #[t, t']⟩, ty, pos, aft, g⟩ (.int k (if j < i then j else i)) := by
  refine ⟨fun _ w hf _ => ?_⟩
  simp only [BigFrame.execOp_builtin, List.map_toArray, List.map_cons, List.map_nil, hf.eval hx, hf.eval hy]
  simp only [go_sem]
  simp [Builtin.min_, Builtin.min2]
set_option maxRecDepth 100000 in
theorem behind_out (p : Option Addr) (c : Nat) (L : List NodM) (a : Int) (d : Nat) (h : a < 0 ∨ (L.length : Int) ≤ a) (W : World) :
    Calls Tryz.prog 73 #[.slice p L.length c, .int .i64 a, .int .i64 (d : Nat)] W fun e w' => e = .returned (.int .i64 (-1)) ∧ Below W.heap.size W w' := by
  refine enter (args := [_, _, _]) (m := []) (F := []) Tryz.func73 rfl Tryz.ntmps73 (by simp) rfl ?_
  rcases h with h | h
  · ((repeat' (first|refine zza ?_|refine zc9 ?_|refine zzb fun w hw => ?_|refine zzh fun _ => ?_|refine zzi fun _ _ => ?_|refine zzj (fun _ => ?_) fun _ => ?_)); (repeat' (refine CW_seq ?_; (repeat' (first|refine zza ?_|refine zc9 ?_|refine zzb fun w hw => ?_|refine zzh fun _ => ?_|refine zzi fun _ _ => ?_|refine zzj (fun _ => ?_) fun _ => ?_)))))
    exact ⟨rfl, hw.below⟩
  · by_cases h0 : a < 0
    · ((repeat' (first|refine zza ?_|refine zc9 ?_|refine zzb fun w hw => ?_|refine zzh fun _ => ?_|refine zzi fun _ _ => ?_|refine zzj (fun _ => ?_) fun _ => ?_)); (repeat' (refine CW_seq ?_; (repeat' (first|refine zza ?_|refine zc9 ?_|refine zzb fun w hw => ?_|refine zzh fun _ => ?_|refine zzi fun _ _ => ?_|refine zzj (fun _ => ?_) fun _ => ?_)))))
      exact ⟨rfl, hw.below⟩
    · ((repeat' (first|refine zza ?_|refine zc9 ?_|refine zzb fun w hw => ?_|refine zzh fun _ => ?_|refine zzi fun _ _ => ?_|refine zzj (fun _ => ?_) fun _ => ?_)); (repeat' (refine CW_seq ?_; (repeat' (first|refine zza ?_|refine zc9 ?_|refine zzb fun w hw => ?_|refine zzh fun _ => ?_|refine zzi fun _ _ => ?_|refine zzj (fun _ => ?_) fun _ => ?_)))))
      exact ⟨rfl, hw.below⟩
/-- the contract where at most so many nodes are left -/
def BehC (m : Nat) (p : Option Addr) (c : Nat) (L : List NodM) : Prop := ∀ (o : Option Nat) (d : Nat) (W : World), (∀ k, o = some k → L.length - k ≤ m ∧ k ≤ L.length) → d + m ≤ 1000 → Row nodE 7 W.cell? p c L → (∀ x ∈ L, NodG W.cell? x) →
  Calls Tryz.prog 73 #[.slice p L.length c, .int .i64 (atV o), .int .i64 (d : Nat)] W fun e w' => e = .returned (.int .i64 (atV (nextI d (L.map NodM.nod) o))) ∧ Below W.heap.size W w'
theorem right_nn {op aop af ag n : Int} {nums : List Int} {text : List UInt8} (h : rightN ⟨op, aop, af, ag, n, nums, text⟩ = true) : 0 ≤ n ∧ (op ≠ 6 → op ≠ 7 → aop ≠ 6) := by
  unfold rightN at h
  rw [Bool.and_eq_true] at h
  have h2 := h.2
  dsimp only at h2
  split at h2
  · have := of_decide_eq_true h2; omega
  split at h2
  · rw [Bool.and_eq_true] at h2
    have := of_decide_eq_true h2.2
    omega
  · have := of_decide_eq_true h2; omega
/-- what stands for the answer of Behind -/
def BehR (O : Option Nat) (W : World) (e : Ending) (w' : World) : Prop := e = .returned (.int .i64 (atV O)) ∧ Below W.heap.size W w'
set_option maxHeartbeats 8000000 in
set_option maxRecDepth 100000 in
theorem behind_end (m : Nat) (p : Option Addr) (c : Nat) (L : List NodM) (ih : BehC m p c L) (d b : Nat) (W : World) (hd : d + m + 1 ≤ 1000) (hR : Row nodE 7 W.cell? p c L) (hB : ∀ x ∈ L, NodG W.cell? x)
    (op aop af ag n : Int) (nums : SlV Int) (text : List UInt8) (o O : Option Nat) (ho : ∀ k, o = some k → L.length - k ≤ m ∧ k ≤ L.length) (hO : O = if op = 6 ∨ op = 7 then nextI d (L.map NodM.nod) o else o) :
    CW Tryz.prog ⟨109, [], W, []⟩ (QBody Tryz.prog Tryz.f73 (BehR O W)) (cP [1, 1, 1, 1, 1, 1, 1, 1] ((Tryz.f73.body).getD .skip)) [(0, .slice p L.length c), (1, .int .i64 (atV o)), (2, .int .i64 (d : Nat)), (7, .pointer (some ⟨b, 0, none⟩))]
      [blk b 44 #[.int .i64 op, .int .i64 aop, .int .i64 af, .int .i64 ag, .int .i64 n, .slice nums.p nums.xs.length nums.c, .string ⟨text.toArray⟩], ro W [] W.cell?] := by
  conv =>
    pattern cP _ _
    whnf
  have hcall : ∀ W', Holds W [] [blk b 44 #[.int .i64 op, .int .i64 aop, .int .i64 af, .int .i64 ag, .int .i64 n, .slice nums.p nums.xs.length nums.c, .string ⟨text.toArray⟩], ro W [] W.cell?] W' → Calls Tryz.prog 73 #[.slice p L.length c, .int .i64 (atV o), .int .i64 (d : Nat)] W' fun e w' => e = .returned (.int .i64 (atV (nextI d (L.map NodM.nod) o))) ∧ Below W'.heap.size W' w' := fun W' hW' => ih o d W' ho (by omega) (hR.mono (hW'.le zpk)) (fun x hx => (hB x hx).mono (hW'.le zpk))
  clear hR hB ih ho
  obtain ⟨v, hv⟩ : ∃ v, v = atV o := ⟨_, rfl⟩
  rw [← hv] at hcall ⊢
  by_cases h6 : op = 6
  · rw [if_pos (.inl h6)] at hO
    rw [← hO] at hcall
    ((repeat' (first|refine zza ?_|refine zc9 ?_|refine zzb fun w hw => ?_|refine zzh fun _ => ?_|refine zzi fun _ _ => ?_|refine zzj (fun _ => ?_) fun _ => ?_)); (repeat' (refine CW_seq ?_; (repeat' (first|refine zza ?_|refine zc9 ?_|refine zzb fun w hw => ?_|refine zzh fun _ => ?_|refine zzi fun _ _ => ?_|refine zzj (fun _ => ?_) fun _ => ?_)))))
    (apply WL_callV; rfl; rfl; rfl; (intro W hW; exact hcall W hW))
    ((repeat' (first|refine zza ?_|refine zc9 ?_|refine zzb fun w hw => ?_|refine zzh fun _ => ?_|refine zzi fun _ _ => ?_|refine zzj (fun _ => ?_) fun _ => ?_)); (repeat' (refine CW_seq ?_; (repeat' (first|refine zza ?_|refine zc9 ?_|refine zzb fun w hw => ?_|refine zzh fun _ => ?_|refine zzi fun _ _ => ?_|refine zzj (fun _ => ?_) fun _ => ?_)))))
    exact ⟨rfl, hw.below⟩
  by_cases h7 : op = 7
  · rw [if_pos (.inr h7)] at hO
    rw [← hO] at hcall
    ((repeat' (first|refine zza ?_|refine zc9 ?_|refine zzb fun w hw => ?_|refine zzh fun _ => ?_|refine zzi fun _ _ => ?_|refine zzj (fun _ => ?_) fun _ => ?_)); (repeat' (refine CW_seq ?_; (repeat' (first|refine zza ?_|refine zc9 ?_|refine zzb fun w hw => ?_|refine zzh fun _ => ?_|refine zzi fun _ _ => ?_|refine zzj (fun _ => ?_) fun _ => ?_)))))
    (apply WL_callV; rfl; rfl; rfl; (intro W hW; exact hcall W hW))
    ((repeat' (first|refine zza ?_|refine zc9 ?_|refine zzb fun w hw => ?_|refine zzh fun _ => ?_|refine zzi fun _ _ => ?_|refine zzj (fun _ => ?_) fun _ => ?_)); (repeat' (refine CW_seq ?_; (repeat' (first|refine zza ?_|refine zc9 ?_|refine zzb fun w hw => ?_|refine zzh fun _ => ?_|refine zzi fun _ _ => ?_|refine zzj (fun _ => ?_) fun _ => ?_)))))
    exact ⟨rfl, hw.below⟩
  rw [if_neg (by omega)] at hO
  clear hcall
  ((repeat' (first|refine zza ?_|refine zc9 ?_|refine zzb fun w hw => ?_|refine zzh fun _ => ?_|refine zzi fun _ _ => ?_|refine zzj (fun _ => ?_) fun _ => ?_)); (repeat' (refine CW_seq ?_; (repeat' (first|refine zza ?_|refine zc9 ?_|refine zzb fun w hw => ?_|refine zzh fun _ => ?_|refine zzi fun _ _ => ?_|refine zzj (fun _ => ?_) fun _ => ?_)))))
  exact ⟨by rw [hO, hv], hw.below⟩
set_option maxHeartbeats 8000000 in
set_option maxRecDepth 100000 in
theorem behind_tail (m : Nat) (p : Option Addr) (c : Nat) (L : List NodM) (hL : L.length ≤ 400) (ih : BehC m p c L) (d b : Nat) (W : World) (hd : d + m + 1 ≤ 1000) (hR : Row nodE 7 W.cell? p c L) (hB : ∀ x ∈ L, NodG W.cell? x)
    (op aop af ag : Int) (N : Nat) (nums : SlV Int) (text : List UInt8) (o o2 O : Option Nat) (ho : ∀ q, o = some q → L.length - q ≤ m ∧ q ≤ L.length) (ho2 : o2 = if aop = 6 then iterI (d + 1) (L.map NodM.nod) (2 * N + 1) o else o) (hO : O = if op = 6 ∨ op = 7 then nextI d (L.map NodM.nod) o2 else o2) :
    CW Tryz.prog ⟨109, [], W, []⟩ (QBody Tryz.prog Tryz.f73 (BehR O W)) (cP [1, 1, 1, 1, 1, 1, 1] ((Tryz.f73.body).getD .skip)) [(0, .slice p L.length c), (1, .int .i64 (atV o)), (2, .int .i64 (d : Nat)), (7, .pointer (some ⟨b, 0, none⟩))]
      [blk b 44 #[.int .i64 op, .int .i64 aop, .int .i64 af, .int .i64 ag, .int .i64 (N : Int), .slice nums.p nums.xs.length nums.c, .string ⟨text.toArray⟩], ro W [] W.cell?] := by
  conv =>
    pattern cP _ _
    whnf
  have hmap : (L.map NodM.nod).length = L.length := List.length_map _
  have hend := fun (q : Option Nat) (hq : ∀ k, q = some k → L.length - k ≤ m ∧ k ≤ L.length) (hOq : O = if op = 6 ∨ op = 7 then nextI d (L.map NodM.nod) q else q) => behind_end m p c L ih d b W hd hR hB op aop af ag (N : Int) nums text q O hq hOq
  by_cases h6 : aop = 6
  case neg =>
    rw [if_neg h6] at ho2
    subst ho2
    replace hend := hend o2 ho hO
    clear ho hO ih hR hB
    refine CW_seq ?_
    repeat' (first | exact CW_cov zcov hend | refine zza ?_)
  rw [if_pos h6] at ho2
  obtain ⟨M, hM, hMc⟩ : ∃ M : Nat, (if (L.length : Int) < (N : Int) then (L.length : Int) else (N : Int)) = (M : Int) ∧ ((M = N ∧ N ≤ L.length) ∨ (M = L.length ∧ L.length < N)) := by
    by_cases h : L.length < N
    · exact ⟨L.length, if_pos (by omega), .inr ⟨rfl, h⟩⟩
    · exact ⟨N, if_neg (by omega), .inl ⟨rfl, by omega⟩⟩
  have hM4 : M ≤ 400 := by omega
  have hMN : M ≤ N := by omega
  have hIM : I64 (2 * (M : Int)) := by unfold I64; omega
  ((repeat' (first|refine zza ?_|refine zc9 ?_|refine zzb fun w hw => ?_|refine zzh fun _ => ?_|refine zzi fun _ _ => ?_|refine zzj (fun _ => ?_) fun _ => ?_)); (repeat' (refine CW_seq ?_; (repeat' (first|refine zza ?_|refine zc9 ?_|refine zzb fun w hw => ?_|refine zzh fun _ => ?_|refine zzi fun _ _ => ?_|refine zzj (fun _ => ?_) fun _ => ?_)))))
  refine CW_loopK [(0,_),(2,_),(7,_)] zcov (fun x : Nat × Option Nat => [(9, .int .i64 (x.1 : Int)), (1, .int .i64 (atV x.2))]) (fun _ => [blk b 44 #[.int .i64 op, .int .i64 aop, .int .i64 af, .int .i64 ag, .int .i64 (N : Int), .slice nums.p nums.xs.length nums.c, .string ⟨text.toArray⟩], ro W [] W.cell?]) (fun x => (x.2 = none → x.1 = 0) ∧ (∀ q, x.2 = some q → x.1 ≤ q ∧ q ≤ L.length ∧ L.length - q ≤ m) ∧ x.1 ≤ 2 * N + 1 ∧ o2 = iterI (d + 1) (L.map NodM.nod) (2 * N + 1 - x.1) x.2) (fun x => L.length - x.1) (0, o) ⟨fun _ => rfl, fun q hq => ⟨Nat.zero_le _, (ho q hq).2, (ho q hq).1⟩, Nat.zero_le _, by rw [ho2]; rfl⟩ zcov zent ?_
  clear ho2 ho
  rintro ⟨i, oi⟩ ⟨h0, hq, hi2, hoi⟩
  dsimp only at h0 hq hi2 hoi ⊢
  have hi4 : i ≤ L.length := by
    cases oi with
    | none => have := h0 rfl; omega
    | some q => have := hq q rfl; omega
  have hcall : ∀ W', Holds W [] [blk b 44 #[.int .i64 op, .int .i64 aop, .int .i64 af, .int .i64 ag, .int .i64 (N : Int), .slice nums.p nums.xs.length nums.c, .string ⟨text.toArray⟩], ro W [] W.cell?] W' → Calls Tryz.prog 73 #[.slice p L.length c, .int .i64 (atV oi), .int .i64 ((d : Int) + 1)] W' fun e w' => e = .returned (.int .i64 (atV (nextI (d + 1) (L.map NodM.nod) oi))) ∧ Below W'.heap.size W' w' := fun W' hW' => ih oi (d + 1) W' (fun k hk => ⟨(hq k hk).2.2, (hq k hk).2.1⟩) (by omega) (hR.mono (hW'.le zpk)) (fun x hx => (hB x hx).mono (hW'.le zpk))
  by_cases hiM : i ≤ 2 * M
  · clear hend hR hB ih h0
    cases hnx : nextI (d + 1) (L.map NodM.nod) oi with
    | none =>
      rw [hnx] at hcall
      have hOn : O = none := by
        rw [show 2 * N + 1 - i = (2 * N - i) + 1 by omega, iterI, hnx, iterI_none] at hoi
        rw [hO, hoi]
        split <;> rfl
      subst hOn
      clear hO hoi hnx hq
      generalize atV oi = v at hcall ⊢
      ((repeat' (first|refine zza ?_|refine zc9 ?_|refine zzb fun w hw => ?_|refine zzh fun _ => ?_|refine zzi fun _ _ => ?_|refine zzj (fun _ => ?_) fun _ => ?_)); (repeat' (refine CW_seq ?_; (repeat' (first|refine zza ?_|refine zc9 ?_|refine zzb fun w hw => ?_|refine zzh fun _ => ?_|refine zzi fun _ _ => ?_|refine zzj (fun _ => ?_) fun _ => ?_)))))
      refine WL_op rfl rfl (y_minB rfl rfl) ?_
      rw [hM]
      ((repeat' (first|refine zza ?_|refine zc9 ?_|refine zzb fun w hw => ?_|refine zzh fun _ => ?_|refine zzi fun _ _ => ?_|refine zzj (fun _ => ?_) fun _ => ?_)); (repeat' (refine CW_seq ?_; (repeat' (first|refine zza ?_|refine zc9 ?_|refine zzb fun w hw => ?_|refine zzh fun _ => ?_|refine zzi fun _ _ => ?_|refine zzj (fun _ => ?_) fun _ => ?_)))))
      (apply WL_callV; rfl; rfl; rfl; (intro W hW; exact hcall W hW))
      clear hcall
      dsimp only [atV]
      ((repeat' (first|refine zza ?_|refine zc9 ?_|refine zzb fun w hw => ?_|refine zzh fun _ => ?_|refine zzi fun _ _ => ?_|refine zzj (fun _ => ?_) fun _ => ?_)); (repeat' (refine CW_seq ?_; (repeat' (first|refine zza ?_|refine zc9 ?_|refine zzb fun w hw => ?_|refine zzh fun _ => ?_|refine zzi fun _ _ => ?_|refine zzj (fun _ => ?_) fun _ => ?_)))))
      exact ⟨rfl, hw.below⟩
    | some q2 =>
      rw [hnx] at hcall
      obtain ⟨q, rfl⟩ : ∃ q, oi = some q := by
        cases oi with
        | none => cases hnx
        | some q => exact ⟨q, rfl⟩
      obtain ⟨a1, a2, _⟩ := nextI_some hnx (by rw [hmap]; exact (hq q rfl).2.1)
      rw [hmap] at a2
      have hqq := hq q rfl
      rw [show 2 * N + 1 - i = (2 * N + 1 - (i + 1)) + 1 by omega, iterI, hnx] at hoi
      clear hnx hq
      dsimp only [atV] at hcall ⊢
      ((repeat' (first|refine zza ?_|refine zc9 ?_|refine zzb fun w hw => ?_|refine zzh fun _ => ?_|refine zzi fun _ _ => ?_|refine zzj (fun _ => ?_) fun _ => ?_)); (repeat' (refine CW_seq ?_; (repeat' (first|refine zza ?_|refine zc9 ?_|refine zzb fun w hw => ?_|refine zzh fun _ => ?_|refine zzi fun _ _ => ?_|refine zzj (fun _ => ?_) fun _ => ?_)))))
      refine WL_op rfl rfl (y_minB rfl rfl) ?_
      rw [hM]
      ((repeat' (first|refine zza ?_|refine zc9 ?_|refine zzb fun w hw => ?_|refine zzh fun _ => ?_|refine zzi fun _ _ => ?_|refine zzj (fun _ => ?_) fun _ => ?_)); (repeat' (refine CW_seq ?_; (repeat' (first|refine zza ?_|refine zc9 ?_|refine zzb fun w hw => ?_|refine zzh fun _ => ?_|refine zzi fun _ _ => ?_|refine zzj (fun _ => ?_) fun _ => ?_)))))
      (apply WL_callV; rfl; rfl; rfl; (intro W hW; exact hcall W hW))
      clear hcall
      ((repeat' (first|refine zza ?_|refine zc9 ?_|refine zzb fun w hw => ?_|refine zzh fun _ => ?_|refine zzi fun _ _ => ?_|refine zzj (fun _ => ?_) fun _ => ?_)); (repeat' (refine CW_seq ?_; (repeat' (first|refine zza ?_|refine zc9 ?_|refine zzb fun w hw => ?_|refine zzh fun _ => ?_|refine zzi fun _ _ => ?_|refine zzj (fun _ => ?_) fun _ => ?_)))))
      exact EX_loop' (i + 1, some q2) ⟨zcov, zent, by dsimp only; omega, fun h => (by cases h), fun q' h' => (by injection h' with h'; subst h'; dsimp only; omega), by dsimp only; omega, hoi⟩
  · obtain ⟨q, rfl⟩ : ∃ q, oi = some q := by
      cases oi with
      | none => have := h0 rfl; omega
      | some q => exact ⟨q, rfl⟩
    have hqq := hq q rfl
    have hiN : i = 2 * N + 1 := by omega
    rw [hiN, Nat.sub_self, iterI] at hoi
    subst hoi
    replace hend := hend (some q) (fun k hk => by injection hk with hk; subst hk; exact ⟨hqq.2.2, hqq.2.1⟩) hO
    clear hcall hO ih hR hB hq h0
    dsimp only [atV] at hend ⊢
    ((repeat' (first|refine zza ?_|refine zc9 ?_|refine zzb fun w hw => ?_|refine zzh fun _ => ?_|refine zzi fun _ _ => ?_|refine zzj (fun _ => ?_) fun _ => ?_)); (repeat' (refine CW_seq ?_; (repeat' (first|refine zza ?_|refine zc9 ?_|refine zzb fun w hw => ?_|refine zzh fun _ => ?_|refine zzi fun _ _ => ?_|refine zzj (fun _ => ?_) fun _ => ?_)))))
    refine WL_op rfl rfl (y_minB rfl rfl) ?_
    rw [hM]
    repeat' (first | exact CW_cov zcov hend | refine zza ?_)
set_option maxHeartbeats 8000000 in
set_option maxRecDepth 100000 in
theorem behind_go (m : Nat) (p : Option Addr) (c : Nat) (L : List NodM) (hL : L.length ≤ 400) (ih : BehC m p c L) (k d b : Nat) (W : World) (hk : k < L.length) (hkm : L.length - (k + 1) ≤ m) (hd : d + m + 1 ≤ 1000) (hR : Row nodE 7 W.cell? p c L) (hB : ∀ x ∈ L, NodG W.cell? x)
    (op aop af ag : Int) (N : Nat) (nums : SlV Int) (text : List UInt8) (O : Option Nat) (h06 : op ≠ 6 → op ≠ 7 → aop ≠ 6)
    (hO : O = if op = 8 then iterI d (L.map NodM.nod) (N + 1) (some (k + 1))
      else if op = 6 then nextI d (L.map NodM.nod) (if aop = 6 then iterI (d + 1) (L.map NodM.nod) (2 * N + 1) (some (k + 1)) else some (k + 1))
      else if op = 7 then nextI d (L.map NodM.nod) (if aop = 6 then iterI (d + 1) (L.map NodM.nod) (2 * N + 1) (nextI d (L.map NodM.nod) (some (k + 1))) else nextI d (L.map NodM.nod) (some (k + 1)))
      else some (k + 1)) :
    CW Tryz.prog ⟨109, [], W, []⟩ (QBody Tryz.prog Tryz.f73 (BehR O W)) (cP [1, 1, 1, 1] ((Tryz.f73.body).getD .skip)) [(0, .slice p L.length c), (1, .int .i64 (k : Nat)), (2, .int .i64 (d : Nat)), (7, .pointer (some ⟨b, 0, none⟩))]
      [blk b 44 #[.int .i64 op, .int .i64 aop, .int .i64 af, .int .i64 ag, .int .i64 (N : Int), .slice nums.p nums.xs.length nums.c, .string ⟨text.toArray⟩], ro W [] W.cell?] := by
  conv =>
    pattern cP _ _
    whnf
  have hmap : (L.map NodM.nod).length = L.length := List.length_map _
  have htail := fun (o : Option Nat) (ho : ∀ q, o = some q → L.length - q ≤ m ∧ q ≤ L.length) (hOq : O = if op = 6 ∨ op = 7 then nextI d (L.map NodM.nod) (if aop = 6 then iterI (d + 1) (L.map NodM.nod) (2 * N + 1) o else o) else (if aop = 6 then iterI (d + 1) (L.map NodM.nod) (2 * N + 1) o else o)) => behind_tail m p c L hL ih d b W hd hR hB op aop af ag N nums text o _ O ho rfl hOq
  have hsome : ∀ q, some (k + 1) = some q → L.length - q ≤ m ∧ q ≤ L.length := fun q hq => by injection hq with hq; omega
  by_cases h8 : op = 8
  · rw [if_pos h8] at hO
    clear htail hsome h06
    ((repeat' (first|refine zza ?_|refine zc9 ?_|refine zzb fun w hw => ?_|refine zzh fun _ => ?_|refine zzi fun _ _ => ?_|refine zzj (fun _ => ?_) fun _ => ?_)); (repeat' (refine CW_seq ?_; (repeat' (first|refine zza ?_|refine zc9 ?_|refine zzb fun w hw => ?_|refine zzh fun _ => ?_|refine zzi fun _ _ => ?_|refine zzj (fun _ => ?_) fun _ => ?_)))))
    refine CW_loopK [(0,_),(2,_),(7,_)] zcov (fun x : Nat × Nat => [(8, .int .i64 (x.1 : Int)), (1, .int .i64 (x.2 : Int))]) (fun _ => [blk b 44 #[.int .i64 op, .int .i64 aop, .int .i64 af, .int .i64 ag, .int .i64 (N : Int), .slice nums.p nums.xs.length nums.c, .string ⟨text.toArray⟩], ro W [] W.cell?]) (fun x => x.1 ≤ N + 1 ∧ x.1 ≤ x.2 ∧ x.2 ≤ L.length ∧ L.length - x.2 ≤ m ∧ O = iterI d (L.map NodM.nod) (N + 1 - x.1) (some x.2)) (fun x => L.length - x.2) (0, k + 1) ⟨Nat.zero_le _, Nat.zero_le _, by dsimp only; omega, hkm, hO⟩ zcov zent ?_
    clear hO
    rintro ⟨i, q⟩ ⟨hi, hiq, hq, hqm, hO⟩
    dsimp only at hi hiq hq hqm hO ⊢
    have hcall : ∀ W', Holds W [] [blk b 44 #[.int .i64 op, .int .i64 aop, .int .i64 af, .int .i64 ag, .int .i64 (N : Int), .slice nums.p nums.xs.length nums.c, .string ⟨text.toArray⟩], ro W [] W.cell?] W' → Calls Tryz.prog 73 #[.slice p L.length c, .int .i64 (q : Nat), .int .i64 (d : Nat)] W' fun e w' => e = .returned (.int .i64 (atV (nextI d (L.map NodM.nod) (some q)))) ∧ Below W'.heap.size W' w' := fun W' hW' => ih (some q) d W' (fun k hk => by injection hk with hk; omega) (by omega) (hR.mono (hW'.le zpk)) (fun x hx => (hB x hx).mono (hW'.le zpk))
    clear ih hR hB
    by_cases hiN : i ≤ N
    · cases hnx : nextI d (L.map NodM.nod) (some q) with
      | none =>
        rw [hnx] at hcall
        rw [show N + 1 - i = (N - i) + 1 by omega, iterI, hnx, iterI_none] at hO
        subst hO
        clear hnx
        dsimp only [atV] at hcall
        ((repeat' (first|refine zza ?_|refine zc9 ?_|refine zzb fun w hw => ?_|refine zzh fun _ => ?_|refine zzi fun _ _ => ?_|refine zzj (fun _ => ?_) fun _ => ?_)); (repeat' (refine CW_seq ?_; (repeat' (first|refine zza ?_|refine zc9 ?_|refine zzb fun w hw => ?_|refine zzh fun _ => ?_|refine zzi fun _ _ => ?_|refine zzj (fun _ => ?_) fun _ => ?_)))))
        (apply WL_callV; rfl; rfl; rfl; (intro W hW; exact hcall W hW))
        clear hcall
        ((repeat' (first|refine zza ?_|refine zc9 ?_|refine zzb fun w hw => ?_|refine zzh fun _ => ?_|refine zzi fun _ _ => ?_|refine zzj (fun _ => ?_) fun _ => ?_)); (repeat' (refine CW_seq ?_; (repeat' (first|refine zza ?_|refine zc9 ?_|refine zzb fun w hw => ?_|refine zzh fun _ => ?_|refine zzi fun _ _ => ?_|refine zzj (fun _ => ?_) fun _ => ?_)))))
        exact ⟨rfl, hw.below⟩
      | some q2 =>
        rw [hnx] at hcall
        obtain ⟨a1, a2, _⟩ := nextI_some hnx (by rw [hmap]; exact hq)
        rw [hmap] at a2
        rw [show N + 1 - i = (N + 1 - (i + 1)) + 1 by omega, iterI, hnx] at hO
        clear hnx
        dsimp only [atV] at hcall
        ((repeat' (first|refine zza ?_|refine zc9 ?_|refine zzb fun w hw => ?_|refine zzh fun _ => ?_|refine zzi fun _ _ => ?_|refine zzj (fun _ => ?_) fun _ => ?_)); (repeat' (refine CW_seq ?_; (repeat' (first|refine zza ?_|refine zc9 ?_|refine zzb fun w hw => ?_|refine zzh fun _ => ?_|refine zzi fun _ _ => ?_|refine zzj (fun _ => ?_) fun _ => ?_)))))
        (apply WL_callV; rfl; rfl; rfl; (intro W hW; exact hcall W hW))
        clear hcall
        ((repeat' (first|refine zza ?_|refine zc9 ?_|refine zzb fun w hw => ?_|refine zzh fun _ => ?_|refine zzi fun _ _ => ?_|refine zzj (fun _ => ?_) fun _ => ?_)); (repeat' (refine CW_seq ?_; (repeat' (first|refine zza ?_|refine zc9 ?_|refine zzb fun w hw => ?_|refine zzh fun _ => ?_|refine zzi fun _ _ => ?_|refine zzj (fun _ => ?_) fun _ => ?_)))))
        exact EX_loop' (i + 1, q2) ⟨zcov, zent, by dsimp only; omega, by dsimp only; omega, by dsimp only; omega, by dsimp only; omega, by dsimp only; omega, hO⟩
    · have hiN1 : i = N + 1 := by omega
      rw [hiN1, Nat.sub_self, iterI] at hO
      subst hO
      clear hcall
      ((repeat' (first|refine zza ?_|refine zc9 ?_|refine zzb fun w hw => ?_|refine zzh fun _ => ?_|refine zzi fun _ _ => ?_|refine zzj (fun _ => ?_) fun _ => ?_)); (repeat' (refine CW_seq ?_; (repeat' (first|refine zza ?_|refine zc9 ?_|refine zzb fun w hw => ?_|refine zzh fun _ => ?_|refine zzi fun _ _ => ?_|refine zzj (fun _ => ?_) fun _ => ?_)))))
      exact ⟨rfl, hw.below⟩
  rw [if_neg h8] at hO
  by_cases h7 : op = 7
  · rw [if_neg (by omega), if_pos h7] at hO
    have hcall : ∀ W', Holds W [] [blk b 44 #[.int .i64 op, .int .i64 aop, .int .i64 af, .int .i64 ag, .int .i64 (N : Int), .slice nums.p nums.xs.length nums.c, .string ⟨text.toArray⟩], ro W [] W.cell?] W' → Calls Tryz.prog 73 #[.slice p L.length c, .int .i64 ((k : Int) + 1), .int .i64 (d : Nat)] W' fun e w' => e = .returned (.int .i64 (atV (nextI d (L.map NodM.nod) (some (k + 1))))) ∧ Below W'.heap.size W' w' := fun W' hW' => ih (some (k + 1)) d W' hsome (by omega) (hR.mono (hW'.le zpk)) (fun x hx => (hB x hx).mono (hW'.le zpk))
    have ht := htail (nextI d (L.map NodM.nod) (some (k + 1))) (fun q hq => by
      have := nextI_some hq (by rw [hmap]; omega)
      rw [hmap] at this
      omega) (by rw [if_pos (.inr h7)]; exact hO)
    clear htail hO hsome ih hR hB
    generalize atV (nextI d (L.map NodM.nod) (some (k + 1))) = v at hcall ht
    ((repeat' (first|refine zza ?_|refine zc9 ?_|refine zzb fun w hw => ?_|refine zzh fun _ => ?_|refine zzi fun _ _ => ?_|refine zzj (fun _ => ?_) fun _ => ?_)); (repeat' (refine CW_seq ?_; (repeat' (first|refine zza ?_|refine zc9 ?_|refine zzb fun w hw => ?_|refine zzh fun _ => ?_|refine zzi fun _ _ => ?_|refine zzj (fun _ => ?_) fun _ => ?_)))))
    (apply WL_callV; rfl; rfl; rfl; (intro W hW; exact hcall W hW))
    repeat' (first | exact CW_cov zcov ht | refine zza ?_)
  have ht := htail (some (k + 1)) hsome (by
    by_cases h6 : op = 6
    · rw [if_pos (.inl h6)]
      rw [if_pos h6] at hO
      exact hO
    · rw [if_neg (by omega), if_neg (h06 h6 h7)]
      rw [if_neg h6, if_neg h7] at hO
      exact hO)
  clear htail hO hsome ih hR hB
  dsimp only [atV] at ht
  refine CW_seq ?_
  repeat' (first | exact CW_cov zcov ht | refine zza ?_)
  repeat' (refine CW_seq ?_; repeat' (first | exact CW_cov zcov ht | refine zza ?_))
set_option maxHeartbeats 8000000 in
set_option maxRecDepth 100000 in
theorem behind_rest (m : Nat) (p : Option Addr) (c : Nat) (L : List NodM) (hL : L.length ≤ 400) (ih : BehC m p c L) (k d b : Nat) (W : World) (hk : k < L.length) (hkm : L.length - (k + 1) ≤ m) (hd : d + m + 1 ≤ 1000) (hR : Row nodE 7 W.cell? p c L) (hB : ∀ x ∈ L, NodG W.cell? x)
    (op aop af ag n : Int) (nums : SlV Int) (text : List UInt8) (ht : text.length ≤ 4294967280) (hx : nums.xs.length ≤ 4294967280) (hni : ∀ r, rightN ⟨op, aop, af, ag, n, nums.xs, text⟩ = r → r = true → 0 ≤ n ∧ (op ≠ 6 → op ≠ 7 → aop ≠ 6)) (O : Option Nat) (hO : O = nextQ d (L.map NodM.nod) k op aop n (rightN ⟨op, aop, af, ag, n, nums.xs, text⟩)) :
    CW Tryz.prog ⟨109, [], W, []⟩ (QBody Tryz.prog Tryz.f73 (BehR O W)) (cP [1, 1, 1] ((Tryz.f73.body).getD .skip)) [(0, .slice p L.length c), (1, .int .i64 (k : Nat)), (2, .int .i64 (d : Nat)), (7, .pointer (some ⟨b, 0, none⟩))]
      [blk b 44 #[.int .i64 op, .int .i64 aop, .int .i64 af, .int .i64 ag, .int .i64 n, .slice nums.p nums.xs.length nums.c, .string ⟨text.toArray⟩], ro W [] W.cell?] := by
  conv =>
    pattern cP _ _
    whnf
  have hFld := fun (W : World) => ref_FieldsIn ⟨op, aop, af, ag, n, nums, text⟩ W ht hx
  dsimp only [nodE] at hFld
  have hr : ∀ {b : Bool}, b = rightN ⟨op, aop, af, ag, n, nums.xs, text⟩ → rightN (NodM.nod ⟨op, aop, af, ag, n, nums, text⟩) = b := fun h => h.symm
  obtain ⟨r, hrr⟩ : ∃ r, r = rightN ⟨op, aop, af, ag, n, nums.xs, text⟩ := ⟨_, rfl⟩
  rw [hr hrr] at hFld
  rw [← hrr] at hO
  replace hni := hni r hrr.symm
  clear hr hrr
  cases hF : (decide (1 ≤ op ∧ op ≤ 9) && r) with
  | false =>
    rw [hF] at hFld
    have hbad : ¬ (1 ≤ op ∧ op ≤ 9) ∨ r = false := by
      rcases Bool.and_eq_false_iff.1 hF with h | h
      · exact .inl (of_decide_eq_false h)
      · exact .inr h
    rw [nextQ_bad (.inl hbad)] at hO
    subst hO
    clear hbad hF ih hB hni
    ((repeat' (first|refine zza ?_|refine zc9 ?_|refine zzb fun w hw => ?_|refine zzh fun _ => ?_|refine zzi fun _ _ => ?_|refine zzj (fun _ => ?_) fun _ => ?_)); (repeat' (refine CW_seq ?_; (repeat' (first|refine zza ?_|refine zc9 ?_|refine zzb fun w hw => ?_|refine zzh fun _ => ?_|refine zzi fun _ _ => ?_|refine zzj (fun _ => ?_) fun _ => ?_)))))
    (apply WL_callV; rfl; rfl; rfl; (intro W hW; exact hFld W))
    ((repeat' (first|refine zza ?_|refine zc9 ?_|refine zzb fun w hw => ?_|refine zzh fun _ => ?_|refine zzi fun _ _ => ?_|refine zzj (fun _ => ?_) fun _ => ?_)); (repeat' (refine CW_seq ?_; (repeat' (first|refine zza ?_|refine zc9 ?_|refine zzb fun w hw => ?_|refine zzh fun _ => ?_|refine zzi fun _ _ => ?_|refine zzj (fun _ => ?_) fun _ => ?_)))))
    exact ⟨rfl, hw.below⟩
  | true =>
    rw [hF] at hFld
    obtain ⟨hin, rfl⟩ : (1 ≤ op ∧ op ≤ 9) ∧ r = true := by
      rw [Bool.and_eq_true] at hF
      exact ⟨of_decide_eq_true hF.1, hF.2⟩
    replace hni := hni rfl
    clear hF
    have hok : ∀ {P : Prop}, ¬ P → ¬ ((¬ (1 ≤ op ∧ op ≤ 9) ∨ true = false) ∨ P) := fun hP => by
      rintro ((h | h) | h)
      · exact h hin
      · cases h
      · exact hP h
    by_cases h9 : op = 9
    · rw [nextQ_bad (.inr (.inl h9))] at hO
      subst hO
      clear ih hB hok
      ((repeat' (first|refine zza ?_|refine zc9 ?_|refine zzb fun w hw => ?_|refine zzh fun _ => ?_|refine zzi fun _ _ => ?_|refine zzj (fun _ => ?_) fun _ => ?_)); (repeat' (refine CW_seq ?_; (repeat' (first|refine zza ?_|refine zc9 ?_|refine zzb fun w hw => ?_|refine zzh fun _ => ?_|refine zzi fun _ _ => ?_|refine zzj (fun _ => ?_) fun _ => ?_)))))
      (apply WL_callV; rfl; rfl; rfl; (intro W hW; exact hFld W))
      ((repeat' (first|refine zza ?_|refine zc9 ?_|refine zzb fun w hw => ?_|refine zzh fun _ => ?_|refine zzi fun _ _ => ?_|refine zzj (fun _ => ?_) fun _ => ?_)); (repeat' (refine CW_seq ?_; (repeat' (first|refine zza ?_|refine zc9 ?_|refine zzb fun w hw => ?_|refine zzh fun _ => ?_|refine zzi fun _ _ => ?_|refine zzj (fun _ => ?_) fun _ => ?_)))))
      exact ⟨rfl, hw.below⟩
    by_cases hdb : d = 0 ∧ (op = 4 ∨ op = 5 ∨ aop = 7)
    · rw [nextQ_bad (.inr (.inr hdb))] at hO
      subst hO
      clear ih hB hok
      obtain ⟨rfl, h⟩ := hdb
      ((repeat' (first|refine zza ?_|refine zc9 ?_|refine zzb fun w hw => ?_|refine zzh fun _ => ?_|refine zzi fun _ _ => ?_|refine zzj (fun _ => ?_) fun _ => ?_)); (repeat' (refine CW_seq ?_; (repeat' (first|refine zza ?_|refine zc9 ?_|refine zzb fun w hw => ?_|refine zzh fun _ => ?_|refine zzi fun _ _ => ?_|refine zzj (fun _ => ?_) fun _ => ?_)))))
      (apply WL_callV; rfl; rfl; rfl; (intro W hW; exact hFld W))
      rcases h with h | h | h
      · ((repeat' (first|refine zza ?_|refine zc9 ?_|refine zzb fun w hw => ?_|refine zzh fun _ => ?_|refine zzi fun _ _ => ?_|refine zzj (fun _ => ?_) fun _ => ?_)); (repeat' (refine CW_seq ?_; (repeat' (first|refine zza ?_|refine zc9 ?_|refine zzb fun w hw => ?_|refine zzh fun _ => ?_|refine zzi fun _ _ => ?_|refine zzj (fun _ => ?_) fun _ => ?_)))))
        exact ⟨rfl, hw.below⟩
      · ((repeat' (first|refine zza ?_|refine zc9 ?_|refine zzb fun w hw => ?_|refine zzh fun _ => ?_|refine zzi fun _ _ => ?_|refine zzj (fun _ => ?_) fun _ => ?_)); (repeat' (refine CW_seq ?_; (repeat' (first|refine zza ?_|refine zc9 ?_|refine zzb fun w hw => ?_|refine zzh fun _ => ?_|refine zzi fun _ _ => ?_|refine zzj (fun _ => ?_) fun _ => ?_)))))
        exact ⟨rfl, hw.below⟩
      · by_cases h4 : op = 4
        · ((repeat' (first|refine zza ?_|refine zc9 ?_|refine zzb fun w hw => ?_|refine zzh fun _ => ?_|refine zzi fun _ _ => ?_|refine zzj (fun _ => ?_) fun _ => ?_)); (repeat' (refine CW_seq ?_; (repeat' (first|refine zza ?_|refine zc9 ?_|refine zzb fun w hw => ?_|refine zzh fun _ => ?_|refine zzi fun _ _ => ?_|refine zzj (fun _ => ?_) fun _ => ?_)))))
          exact ⟨rfl, hw.below⟩
        by_cases h5 : op = 5
        · ((repeat' (first|refine zza ?_|refine zc9 ?_|refine zzb fun w hw => ?_|refine zzh fun _ => ?_|refine zzi fun _ _ => ?_|refine zzj (fun _ => ?_) fun _ => ?_)); (repeat' (refine CW_seq ?_; (repeat' (first|refine zza ?_|refine zc9 ?_|refine zzb fun w hw => ?_|refine zzh fun _ => ?_|refine zzi fun _ _ => ?_|refine zzj (fun _ => ?_) fun _ => ?_)))))
          exact ⟨rfl, hw.below⟩
        ((repeat' (first|refine zza ?_|refine zc9 ?_|refine zzb fun w hw => ?_|refine zzh fun _ => ?_|refine zzi fun _ _ => ?_|refine zzj (fun _ => ?_) fun _ => ?_)); (repeat' (refine CW_seq ?_; (repeat' (first|refine zza ?_|refine zc9 ?_|refine zzb fun w hw => ?_|refine zzh fun _ => ?_|refine zzi fun _ _ => ?_|refine zzj (fun _ => ?_) fun _ => ?_)))))
        exact ⟨rfl, hw.below⟩
    have hO' := hO.trans (if_neg (by
      rintro ((h | h) | h | h)
      · exact h hin
      · cases h
      · exact h9 h
      · exact hdb h))
    clear hO hok
    obtain ⟨N, rfl⟩ := Int.eq_ofNat_of_zero_le hni.1
    have hgo := behind_go m p c L hL ih k d b W hk hkm hd hR hB op aop af ag N nums text O hni.2 hO'
    clear hO' hni ih hR hB
    by_cases hd0 : d = 0
    · have h4 : op ≠ 4 := fun h => hdb ⟨hd0, .inl h⟩
      have h5 : op ≠ 5 := fun h => hdb ⟨hd0, .inr (.inl h)⟩
      have h7 : aop ≠ 7 := fun h => hdb ⟨hd0, .inr (.inr h)⟩
      clear hdb
      refine CW_seq ?_
      refine zza ?_
      refine zza ?_
      refine zza ?_
      (apply WL_callV; rfl; rfl; rfl; (intro W hW; exact hFld W))
      clear hFld
      repeat' (first | exact CW_cov zcov hgo | refine zza ?_)
    · clear hdb
      refine CW_seq ?_
      refine zza ?_
      refine zza ?_
      refine zza ?_
      (apply WL_callV; rfl; rfl; rfl; (intro W hW; exact hFld W))
      clear hFld
      repeat' (first | exact CW_cov zcov hgo | refine zza ?_)
set_option maxHeartbeats 8000000 in
set_option maxRecDepth 100000 in
theorem behind_step (m : Nat) (p : Option Addr) (c : Nat) (L : List NodM) (hL : L.length ≤ 400) (ih : BehC m p c L) : BehC (m + 1) p c L := by
  intro o d W ho hd hR hB
  cases o with
  | none => exact behind_out p c L (-1) d (.inl (by decide)) W
  | some k =>
    by_cases hk : L.length ≤ k
    · rw [nextI_end (by simpa using hk)]
      exact behind_out p c L _ d (.inr (by simp only [atV]; omega)) W
    obtain ⟨hkm, hkL⟩ := ho k rfl
    have hk' : k < L.length := by omega
    obtain ⟨⟨op, aop, af, ag, n, nums, text⟩, hx⟩ : ∃ x, L[k]? = some x := ⟨L[k], by simp [hk']⟩
    have hxn : (L.map NodM.nod)[k]? = some ⟨op, aop, af, ag, n, nums.xs, text⟩ := by rw [List.getElem?_map, hx]; rfl
    obtain ⟨O, hO⟩ : ∃ O, O = nextI d (L.map NodM.nod) (some k) := ⟨_, rfl⟩
    rw [← hO]
    rw [nextI_at hxn] at hO
    have hxB := hB _ (List.mem_of_getElem? hx)
    have hrest := fun b => behind_rest m p c L hL ih k d b W hk' (by omega) (by omega) hR hB op aop af ag n nums text hxB.text hxB.numsL (fun r h1 h2 => right_nn (h1.trans h2)) O hO
    clear hxB hxn ho hO ih hB
    simp only [atV]
    refine enterR (G := W.cell?) (args := [_, _, _]) (m := []) (F := []) (Rd.sub_cell W) rfl Tryz.func73 rfl Tryz.ntmps73 (by simp) ?_
    repeat' (first | exact CW_cov zcov (CW_ent (Ent.consK (k := Ent.cons .here Ent.nil) .here) (hrest _)) | refine zza ?_ | refine zzh fun _ => ?_)
theorem behind_all (p : Option Addr) (c : Nat) (L : List NodM) (hL : L.length ≤ 400) : ∀ m, BehC m p c L
  | 0 => fun o d W ho _ _ _ => by
    cases o with
    | none => exact behind_out p c L (-1) d (.inl (by decide)) W
    | some k =>
      obtain ⟨h1, h2⟩ := ho k rfl
      rw [nextI_end (by rw [List.length_map]; omega)]
      exact behind_out p c L _ d (.inr (by simp only [atV]; omega)) W
  | m + 1 => behind_step m p c L hL (behind_all p c L hL m)
theorem ref_Behind (p : Option Addr) (c : Nat) (L : List NodM) (hL : L.length ≤ 400) (k d : Nat) (hk : k ≤ L.length) (hd : d ≤ 500) (W : World) (hR : Row nodE 7 W.cell? p c L) (hB : ∀ x ∈ L, NodG W.cell? x) :
    Calls Tryz.prog 73 #[.slice p L.length c, .int .i64 (k : Nat), .int .i64 (d : Nat)] W fun e w' => e = .returned (.int .i64 (atV (nextI d (L.map NodM.nod) (some k)))) ∧ Below W.heap.size W w' :=
  behind_all p c L hL 400 (some k) d W (fun q hq => by injection hq with hq; omega) (by omega) hR hB
end Go.Proofs.YtngeooflfkpikaaGreatDoor
