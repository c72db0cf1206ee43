/-
  The package seek: its check of two arrays.
  Plain: what the functions of the package seek tell.
  The logic of walks: parts of a drawn region: a slice with room; three that are ready. Of no program.
-/
import Derived.Test.YtadlpfbjnpbnoaaGreatDoorZGo
import Derived.Test.YtadlpfbjnpbnoaaGreatDoorZTwoEx
import Derived.Test.YtadlpfbjnpbnoaaGreatDoorZSubL
import Derived.Test.YtadlpfbjnpbnoaaGreatDoorZStpL
namespace Go.Proofs.YtadlpfbjnpbnoaaGreatDoor
open Go.RowKit
def badTwo (a b : Arr) : Int := if a.bad ≠ 0 then a.bad else b.bad
set_option maxHeartbeats 4000000 in
set_option maxRecDepth 100000 in
theorem seek_check (a b : ArrM) (G : Rd) (w : World) (hS : Rd.le G w.cell?) (ha : ArrG G a) (hb : ArrG G b) :
    Calls Tryz.prog 156 #[arrV a, arrV b] w fun e w' => e = .returned (errV 28 (badTwo a.arr b.arr)) ∧ Below w.heap.size w w' := by
  refine enterR (args := [_, _]) (m := []) (F := []) hS.sub rfl Tryz.func156 rfl Tryz.ntmps156 (by simp) ?_
  clear hS
  have hA := fun W (h : Rd.le G W.cell?) => chk a G W ha h
  ((repeat' (first|refine zza ?_|refine zc9 ?_|refine zzb fun w hw => ?_|refine zzh fun _ => ?_|refine zzi fun _ _ => ?_|refine zu1 ?_|refine zu2 ?_|refine zu3 ?_|refine zu4 fun _ => ?_|refine zzj (fun _ => ?_) fun _ => ?_)); (repeat' (refine CW_seq ?_; (repeat' (first|refine zza ?_|refine zc9 ?_|refine zzb fun w hw => ?_|refine zzh fun _ => ?_|refine zzi fun _ _ => ?_|refine zu1 ?_|refine zu2 ?_|refine zu3 ?_|refine zu4 fun _ => ?_|refine zzj (fun _ => ?_) fun _ => ?_)))))
  by_cases h1 : a.arr.bad = 0
  · rw [show badTwo a.arr b.arr = b.arr.bad by unfold badTwo; rw [if_neg (by simp [h1])]]
    rw [h1, errV_zero] at hA
    refine WL_callV rfl rfl rfl (fun W hW => hA W (hW.le zpk)) ?_
    clear hA
    ((repeat' (first|refine zza ?_|refine zc9 ?_|refine zzb fun w hw => ?_|refine zzh fun _ => ?_|refine zzi fun _ _ => ?_|refine zu1 ?_|refine zu2 ?_|refine zu3 ?_|refine zu4 fun _ => ?_|refine zzj (fun _ => ?_) fun _ => ?_)); (repeat' (refine CW_seq ?_; (repeat' (first|refine zza ?_|refine zc9 ?_|refine zzb fun w hw => ?_|refine zzh fun _ => ?_|refine zzi fun _ _ => ?_|refine zu1 ?_|refine zu2 ?_|refine zu3 ?_|refine zu4 fun _ => ?_|refine zzj (fun _ => ?_) fun _ => ?_)))))
    refine WL_callV rfl rfl rfl (fun W hW => chk b G W hb (hW.le zpk)) ?_
    ((repeat' (first|refine zza ?_|refine zc9 ?_|refine zzb fun w hw => ?_|refine zzh fun _ => ?_|refine zzi fun _ _ => ?_|refine zu1 ?_|refine zu2 ?_|refine zu3 ?_|refine zu4 fun _ => ?_|refine zzj (fun _ => ?_) fun _ => ?_)); (repeat' (refine CW_seq ?_; (repeat' (first|refine zza ?_|refine zc9 ?_|refine zzb fun w hw => ?_|refine zzh fun _ => ?_|refine zzi fun _ _ => ?_|refine zu1 ?_|refine zu2 ?_|refine zu3 ?_|refine zu4 fun _ => ?_|refine zzj (fun _ => ?_) fun _ => ?_)))))
    exact ⟨rfl, hw.below⟩
  · rw [show badTwo a.arr b.arr = a.arr.bad by unfold badTwo; rw [if_pos h1]]
    rw [errV_ne h1] at hA ⊢
    refine WL_callV rfl rfl rfl (fun W hW => hA W (hW.le zpk)) ?_
    clear hA
    ((repeat' (first|refine zza ?_|refine zc9 ?_|refine zzb fun w hw => ?_|refine zzh fun _ => ?_|refine zzi fun _ _ => ?_|refine zu1 ?_|refine zu2 ?_|refine zu3 ?_|refine zu4 fun _ => ?_|refine zzj (fun _ => ?_) fun _ => ?_)); (repeat' (refine CW_seq ?_; (repeat' (first|refine zza ?_|refine zc9 ?_|refine zzb fun w hw => ?_|refine zzh fun _ => ?_|refine zzi fun _ _ => ?_|refine zu1 ?_|refine zu2 ?_|refine zu3 ?_|refine zu4 fun _ => ?_|refine zzj (fun _ => ?_) fun _ => ?_)))))
    exact ⟨rfl, hw.below⟩
set_option maxHeartbeats 4000000 in
set_option maxRecDepth 100000 in
theorem cut_fill (c : Bool) (a : ArrM) (w : World) (h : a.char = c) : Calls Tryz.prog 154 #[arrV a] w fun e w' => e = .returned (.int .i64 (if c then 32 else 0)) ∧ Below w.heap.size w w' := by
  refine enter (args := [_]) (m := []) (F := []) Tryz.func154 rfl Tryz.ntmps154 (by simp) rfl ?_
  cases c with
  | true =>
    ((repeat' (first|refine zza ?_|refine zc9 ?_|refine zzb fun w hw => ?_|refine zzh fun _ => ?_|refine zzi fun _ _ => ?_|refine zu1 ?_|refine zu2 ?_|refine zu3 ?_|refine zu4 fun _ => ?_|refine zzj (fun _ => ?_) fun _ => ?_)); (repeat' (refine CW_seq ?_; (repeat' (first|refine zza ?_|refine zc9 ?_|refine zzb fun w hw => ?_|refine zzh fun _ => ?_|refine zzi fun _ _ => ?_|refine zu1 ?_|refine zu2 ?_|refine zu3 ?_|refine zu4 fun _ => ?_|refine zzj (fun _ => ?_) fun _ => ?_)))))
    exact ⟨rfl, hw.below⟩
  | false =>
    ((repeat' (first|refine zza ?_|refine zc9 ?_|refine zzb fun w hw => ?_|refine zzh fun _ => ?_|refine zzi fun _ _ => ?_|refine zu1 ?_|refine zu2 ?_|refine zu3 ?_|refine zu4 fun _ => ?_|refine zzj (fun _ => ?_) fun _ => ?_)); (repeat' (refine CW_seq ?_; (repeat' (first|refine zza ?_|refine zc9 ?_|refine zzb fun w hw => ?_|refine zzh fun _ => ?_|refine zzi fun _ _ => ?_|refine zu1 ?_|refine zu2 ?_|refine zu3 ?_|refine zu4 fun _ => ?_|refine zzj (fun _ => ?_) fun _ => ?_)))))
    exact ⟨rfl, hw.below⟩
end Go.Proofs.YtadlpfbjnpbnoaaGreatDoor
namespace Go.Proofs.YtadlpfbjnpbnoaaGreatDoor
open Go.RowKit
/-- where each cell is first -/
def firstsL (xs : List Int) : Nat → List (Int × Int)
  | 0 => []
  | i + 1 => if hasI (firstsL xs i) (xs.getD i 0) = true then firstsL xs i else firstsL xs i ++ [(xs.getD i 0, (i : Int))]
def fsts (xs : List Int) : List (Int × Int) := firstsL xs xs.length
theorem findI_mem {l : Int} : ∀ {ks : List (Int × Int)} {i : Nat} {q : Nat × Int}, findI l ks i = some q → (l, q.2) ∈ ks
  | [], _, _, h => by cases h
  | k :: r, i, q, h => by
    rw [findI] at h
    split at h
    · rename_i e
      obtain rfl := Option.some.inj h
      subst e
      exact List.mem_cons_self ..
    · exact List.mem_cons_of_mem _ (findI_mem h)
theorem firstsL_in (xs : List Int) : ∀ i, ∀ p ∈ firstsL xs i, 0 ≤ p.2 ∧ p.2 < (i : Int)
  | 0, p, h => by cases h
  | i + 1, p, h => by
    rw [firstsL] at h
    split at h
    · have := firstsL_in xs i p h
      omega
    · rcases List.mem_append.1 h with h | h
      · have := firstsL_in xs i p h
        omega
      · rw [List.mem_singleton.1 h]
        dsimp only
        omega
theorem getI_in (xs : List Int) (l : Int) : 0 ≤ getI (fsts xs) l ∧ getI (fsts xs) l ≤ (xs.length : Int) := by
  unfold getI
  cases h : findI l (fsts xs) 0 with
  | none =>
    rw [show ((Option.map Prod.snd (none : Option (Nat × Int))).getD 0) = 0 from rfl]
    omega
  | some q =>
    have := firstsL_in xs _ _ (findI_mem h)
    dsimp only at this
    simp
    omega
/-- the cells that are asked for -/
def chosenL (p : Nat → Int → Bool) (xs : List Int) : Nat → List Int
  | 0 => []
  | i + 1 => if p i (xs.getD i 0) = true then chosenL p xs i ++ [xs.getD i 0] else chosenL p xs i
theorem chosenL_len (p : Nat → Int → Bool) (xs : List Int) : ∀ i, (chosenL p xs i).length ≤ i
  | 0 => Nat.le_refl _
  | i + 1 => by
    have := chosenL_len p xs i
    rw [chosenL]
    split
    · rw [List.length_append, List.length_singleton]
      omega
    · omega
theorem chosenL_mem (p : Nat → Int → Bool) (xs : List Int) : ∀ i, i ≤ xs.length → ∀ x ∈ chosenL p xs i, x ∈ xs
  | 0, _, x, h => by cases h
  | i + 1, hi, x, h => by
    rw [chosenL] at h
    split at h
    · rcases List.mem_append.1 h with h | h
      · exact chosenL_mem p xs i (by omega) x h
      · rw [List.mem_singleton.1 h]
        simp [List.getD, List.getElem?_eq_getElem (by omega : i < xs.length)]
    · exact chosenL_mem p xs i (by omega) x h
def chosenA (p : Nat → Int → Bool) (a : Arr) : Arr := ⟨a.char, [((chosenL p a.data a.data.length).length : Int)], chosenL p a.data a.data.length⟩
/-- does it have that cell? -/
def hasA (b : Arr) (ch : Bool) (c : Int) : Bool := hasI (fsts b.data) c && decide (ch = b.char)
def indexC (a b : Arr) (c : Int) : Int := if hasA a b.char c = true then getI (fsts a.data) c else (a.data.length : Int)
def indexF (a b : Arr) : Int × Arr := if a.shape.length ≠ 1 then (3, zeroA) else (0, ⟨false, b.shape, b.data.map (indexC a b)⟩)
def inF (a b : Arr) : Arr := ⟨false, a.shape, a.data.map fun c => if hasA b a.char c = true then 1 else 0⟩
/-- two lists: what is wrong -/
def pairE (a b : Arr) : Int := if a.shape.length ≠ 1 ∨ b.shape.length ≠ 1 then 3 else 0
def withoutF (a b : Arr) : Int × Arr := if pairE a b ≠ 0 then (pairE a b, zeroA) else (0, chosenA (fun _ c => !hasA b a.char c) a)
def meetF (a b : Arr) : Int × Arr := if pairE a b ≠ 0 then (pairE a b, zeroA) else (0, chosenA (fun _ c => hasA b a.char c) a)
def unionF (a b : Arr) : Int × Arr :=
  if pairE a b ≠ 0 then (pairE a b, zeroA) else if a.char ≠ b.char then (6, zeroA)
  else if 4096 < (a.data ++ (withoutF b a).2.data).length then (7, zeroA) else (0, ⟨a.char, [((a.data ++ (withoutF b a).2.data).length : Int)], a.data ++ (withoutF b a).2.data⟩)
end Go.Proofs.YtadlpfbjnpbnoaaGreatDoor
namespace Go.Proofs.YtadlpfbjnpbnoaaGreatDoor
open Go.RowKit
section
variable {P : Program} {K : Cx} {ρ : Env} {m m0 r : List HP} {t t' ty e : TypeId} {pos : String} {aft : Array Edge} {x y : Operand} {ops : Array Oper} {d i n bytes : Nat} {G : Rd} {next : Env → List HP → Prop} {zs : List Value}
theorem Pr_three {post : Env → List HP → Prop} {S D : List Nat} (i j l : Nat) {f : Nat} (hr : (S.filter (rdyB ops D)) = [i, j, l]) (h : Stp P K ops m0 i ρ m fun ρ' m' => Pr P K ops m0 post f S (i :: D) ρ' m') (h2 : Stp P K ops m0 j ρ m fun ρ' m' => Pr P K ops m0 post f S (j :: D) ρ' m') (h3 : Stp P K ops m0 l ρ m fun ρ' m' => Pr P K ops m0 post f S (l :: D) ρ' m') : Pr P K ops m0 post (f + 1) S D ρ m := by
  have hi : i ∈ S.filter (rdyB ops D) := by rw [hr]; simp
  refine ⟨⟨i, (List.mem_filter.1 hi).1, (List.mem_filter.1 hi).2⟩, fun k hk hrk => ?_⟩
  have : k ∈ S.filter (rdyB ops D) := List.mem_filter.2 ⟨hk, hrk⟩
  rw [hr] at this
  rcases (by simpa using this : k = i ∨ k = j ∨ k = l) with rfl | rfl | rfl
  · exact h
  · exact h2
  · exact h3
theorem Stp_make0 {z : Value} [S : ElT P t e 1 [z] bytes] {kl kc : IntKind} (n : Nat) {c : Int} (ho : ops[i]? = some ⟨some d, .makeSlice t x y, ty, pos, aft, none⟩) (hx : opv ρ x = some (.int kl 0)) (hy : opv ρ y = some (.int kc c)) (hc : c = (n : Int)) (hb : bytes * n ≤ 281474976710656) (hmax : n ≤ 281474976710656) (hd : Nat.blt d K.N = true)
    (k : ∀ b : Nat, next ((d, .slice (some ⟨b, 0, none⟩) 0 n) :: ρ) (sl e 1 (some ⟨b, 0, none⟩) 0 n [] :: m)) : Stp P K ops m0 i ρ m next := by
  subst hc
  refine ⟨d, _, ty, pos, aft, ho, blt_lt hd, Nat, fun b => .slice (some ⟨b, 0, none⟩) 0 n, fun b => sl e 1 (some ⟨b, 0, none⟩) 0 n [] :: m, fun r a w _ hf hm => ?_, k⟩
  obtain ⟨i, z', hi, hz, hsz, hby, hzs⟩ := S.info
  obtain ⟨w', hrun, r1, r2⟩ := run_make_own (P := P) w w.heap.size t e i z' 1 S.und hi hz hsz kl kc n (by rw [hby]; exact hb) (by unfold maxLen; omega) (Nat.le_refl _)
  have hrun' : (execOp a.eval ⟨some d, .makeSlice t x y, ty, pos, aft, none⟩).run P w = .ok (.value (.slice (some ⟨w.heap.size, 0, none⟩) 0 n)) w' := by
    simp only [execOp, hf.eval hx, hf.eval hy]
    simp [hrun]
  rw [hrun']
  refine ⟨w.heap.size, rfl, ?_⟩
  refine Holds.add (m1 := [sl e 1 (some ⟨w.heap.size, 0, none⟩) 0 n []]) hm ⟨keep_grown r2 (by simp), [w.heap.size], ⟨[w.heap.size], [], rfl, ⟨rfl, r1.1, ?_⟩, rfl, by simp⟩, fun i hi hl => ?_⟩
  · rcases r1.2 with h | ⟨g, cap, cur, hv, _, r⟩
    · exact .inl h
    · exact .inr ⟨g, cap, cur, hv, Nat.zero_le _, r⟩
  · have : i = w.heap.size := by simpa using hi
    omega
end
end Go.Proofs.YtadlpfbjnpbnoaaGreatDoor
