/-
  The logic of walks: so many of a row behind a slice of the call's own, as a part of a drawn region. Of no program.
  The package prim: a copy of an array. The package radix: digits.
-/
import Derived.Test.YtadlpfbjnpbnoaaGreatDoorZGo
import Derived.Test.YtadlpfbjnpbnoaaGreatDoorZSubL
import Derived.Test.YtadlpfbjnpbnoaaGreatDoorZStpM
import Derived.Test.YtadlpfbjnpbnoaaGreatDoorZSeekX
namespace Go.Proofs.YtadlpfbjnpbnoaaGreatDoor
open Go.RowKit
section
variable {P : Program} {K : Cx} {ρ : Env} {m m0 r : List HP} {t t' ty e : TypeId} {pos : String} {aft : Array Edge} {x y : Operand} {ops : Array Oper} {d i n c sz bytes : Nat} {G : Rd} {next : Env → List HP → Prop} {zs xs : List Value} {p : Option Addr}
theorem Stp_appendN {α : Type} {enc : α → List Value} {ys : List α} {cp j : Nat} {qp : Option Addr} [S : ElT P t e sz zs bytes] (hs : ∀ x, (enc x).length = sz) (h0 : 0 < sz) (h1 : ∀ x ∈ ys, ∀ u ∈ enc x, u.oneCell' = true) (hR : Row enc sz G qp cp ys) (hl : ys.length = j) {r2 : List HP} (hro : Pick m0 (ro K.w0 K.F G) r2) (ho : ops[i]? = some ⟨some d, .call ⟨.builtin .append, #[x, y], #[t, t]⟩, ty, pos, aft, none⟩) (hx : opv ρ x = some (.slice p n c)) (hy : opv ρ y = some (.slice qp j cp)) (hp : Pick m (sl e sz p n c xs) r)
    (hmax : (n + j) * bytes ≤ 140737488355328) (hmax2 : n + j ≤ 140737488355328) (hd : Nat.blt d K.N = true)
    (k : ∀ q2 c2, next ((d, .slice q2 (n + j) c2) :: ρ) (sl e sz q2 (n + j) c2 (xs ++ ys.flatMap enc) :: r)) : Stp P K ops m0 i ρ m next := by
  subst hl
  refine ⟨d, _, ty, pos, aft, ho, blt_lt hd, Option Addr × Nat, fun z => .slice z.1 (n + ys.length) z.2, fun z => sl e sz z.1 (n + ys.length) z.2 (xs ++ ys.flatMap enc) :: r, fun r1 a w hr1 hf hm => ?_, fun z => k z.1 z.2⟩
  cases qp with
  | none =>
    have hys : ys = [] := by
      cases ys with
      | nil => rfl
      | cons y ys => have := hR.some_lt (i := 0) (by simp); simp at this
    subst hys
    obtain ⟨i, z, hi, hz, hsz, hby, hzs⟩ := S.info
    rw [run_bi hf hx hy (run_append_none0 0 i sz S.und hi (.slice p n c) cp (hm.slR hp.app))]
    refine ⟨(p, c), rfl, ?_⟩
    simp only [List.length_nil, Nat.add_zero, List.flatMap_nil, List.append_nil]
    exact hm.ent (Ent.cons hp.app Ent.refl)
  | some q =>
    have hlen : ∀ ys : List α, (ys.flatMap enc).length = ys.length * sz := by
      intro ys
      induction ys with
      | nil => simp
      | cons y ys ih => rw [List.flatMap_cons, List.length_append, hs, ih, List.length_cons, Nat.succ_mul]; omega
    obtain ⟨pm, hpm⟩ := hr1
    have hle : Rd.le G w.cell? := by
      have h2 : Holds K.w0 K.F m0 w := ((Holds.drop hm).ent hpm).drop
      exact h2.le hro
    obtain ⟨q2, c2, w', hr, hh, _⟩ := append_core (P := P) (t := t) (ty := ty) (c' := cp) hm hp.app (row_cells hs h0 hR hle) (hlen ys) (fun u hu => by obtain ⟨z, hzm, hz⟩ := List.mem_flatMap.1 hu; exact h1 z hzm u hz) hmax hmax2
    rw [run_bi hf hx hy hr]
    exact ⟨(q2, c2), rfl, hh⟩
end
theorem Ent.trans {m m1 m2 : List HP} (h : Ent m m1) (k : Ent m1 m2) : Ent m m2 := fun fp w ho => by
  obtain ⟨f1, h1, s1⟩ := h fp w ho
  obtain ⟨f2, h2, s2⟩ := k f1 w h1
  exact ⟨f2, h2, fun i hi => s1 i (s2 i hi)⟩
end Go.Proofs.YtadlpfbjnpbnoaaGreatDoor
namespace Go.Proofs.YtadlpfbjnpbnoaaGreatDoor
open Go.RowKit
abbrev slN : HP := sl 3 1 none 0 0 []
set_option maxHeartbeats 16000000 in
set_option maxRecDepth 100000 in
theorem prim_copied (a : ArrM) (G : Rd) (w : World) (hS : Rd.le G w.cell?) (ha : ArrG G a) (ga : a.arr.Good) : Calls Tryz.prog 38 #[arrV a] w (OwnA a.arr w) := by
  refine enterR (args := [_]) (m := []) (F := []) hS.sub rfl Tryz.func38 rfl Tryz.ntmps38 (by simp) ?_
  clear hS
  have h6 : a.shape.xs.length ≤ 6 := ga.rank
  have h7 : a.data.xs.length ≤ 4096 := ga.cells
  (repeat' ((fail_if_success refine zc8 ?_); (first|refine zza ?_|refine zzb fun w hw => ?_|refine zzh fun _ => ?_|refine zzi fun _ _ => ?_|refine zzj (fun _ => ?_) fun _ => ?_)))
  rename_i b1 b2
  refine CW_ent (m' := [slN, slN, zB b2, boxB b1 a, ro w [] G]) (Ent.nilown (Ent.nilown (Ent.cons zpk (Ent.cons zpk (Ent.cons zpk Ent.nil))))) ?_
  refine CW_perm 9 [0, 1, 2, 3, 5, 6, 4, 7, 8] [boxB b1 a, ro w [] G] [(2, ptrV b2)] zcov (pm := [slN, slN, zB b2]) Ent.refl (by kernel_rfl) (by decide +kernel) (by kernel_rfl) ?_
  (refine WP_op rfl rfl rfl zyi ?_)
  (refine WP_op rfl rfl rfl zyi ?_)
  (refine WP_op rfl rfl rfl zyi ?_)
  (refine WP_op rfl rfl rfl zyi ?_)
  (refine WP_op rfl rfl rfl zyi ?_)
  (refine WP_op rfl rfl rfl zyi ?_)
  refine WP_appendN (pm := [slN, zB b2]) (enc := encI) (ys := a.shape.xs) (fun _ => rfl) (by decide) one_I ha.shape rfl rfl (by kernel_rfl) rfl rfl .here zpk Ent.refl (by omega) (by omega) rfl rfl fun q1 k1 => ?_
  refine WP_appendN (pm := [own1 (q1, k1) a.shape.xs, zB b2]) (enc := encI) (ys := a.data.xs) (fun _ => rfl) (by decide) one_I ha.data rfl rfl (by kernel_rfl) rfl rfl (.there .here) zpk (by rw [flatA, Nat.zero_add, List.nil_append]; exact zent) (by omega) (by omega) rfl rfl fun q2 k2 => ?_
  rw [flatA, flatA, Nat.zero_add, Nat.zero_add, List.nil_append, List.nil_append]
  (refine WP_op rfl rfl rfl zyi ?_)
  refine WP_end ?_
  ((repeat' (first|refine zza ?_|refine zc9 ?_|refine zzb fun w hw => ?_|refine zzh fun _ => ?_|refine zzi fun _ _ => ?_|refine zu1 ?_|refine zu2 ?_|refine zu3 ?_|refine zu4 fun _ => ?_|refine zzj (fun _ => ?_) fun _ => ?_)); (repeat' (refine CW_seq ?_; (repeat' (first|refine zza ?_|refine zc9 ?_|refine zzb fun w hw => ?_|refine zzh fun _ => ?_|refine zzi fun _ _ => ?_|refine zu1 ?_|refine zu2 ?_|refine zu3 ?_|refine zu4 fun _ => ?_|refine zzj (fun _ => ?_) fun _ => ?_)))))
  exact ⟨((q1, k1), q2, k2), trivial, by kernel_rfl, hw.ent (Ent.cons zpk (Ent.cons zpk Ent.nil))⟩
def digN (bs : List Int) (n : Int) : Nat → Int
  | 0 => n
  | i + 1 => if bs.getD (bs.length - 1 - i) 0 = 0 then 0 else (twoF 4 (digN bs n i) (bs.getD (bs.length - 1 - i) 0)).1
/-- the digit at a place -/
def digA (bs : List Int) (n : Int) (k : Nat) : Int := if bs.getD k 0 = 0 then digN bs n (bs.length - 1 - k) else (twoF 5 (bs.getD k 0) (digN bs n (bs.length - 1 - k))).1
def digitsF (bs : List Int) (n : Int) : List Int := (List.range bs.length).map (digA bs n)
/-- the digits from the k-th on are told -/
def fromK (n : Nat) (f : Nat → Int) (k : Nat) : List Int := (List.range n).map fun i => if k ≤ i then f i else 0
theorem fromK_len (n : Nat) (f : Nat → Int) (k : Nat) : (fromK n f k).length = n := by unfold fromK; rw [List.length_map, List.length_range]
theorem fromK_get (n : Nat) (f : Nat → Int) (k i : Nat) (h : i < (fromK n f k).length) : (fromK n f k)[i] = if k ≤ i then f i else 0 := by simp [fromK]
theorem fromK_set (n : Nat) (f : Nat → Int) (k : Nat) (_h : k < n) : (fromK n f (k + 1)).set k (f k) = fromK n f k := by
  refine List.ext_getElem (by rw [List.length_set, fromK_len, fromK_len]) fun i h1 h2 => ?_
  rw [List.getElem_set, fromK_get, fromK_get]
  by_cases e : k = i
  · subst e
    rw [if_pos rfl, if_pos (by omega)]
  · rw [if_neg e]
    by_cases e2 : k ≤ i
    · rw [if_pos e2, if_pos (by omega)]
    · rw [if_neg e2, if_neg (by omega)]
theorem fromK_end (n : Nat) (f : Nat → Int) : fromK n f n = List.replicate n 0 := by
  refine List.ext_getElem (by rw [fromK_len, List.length_replicate]) fun i h1 h2 => ?_
  rw [fromK_get, List.getElem_replicate, if_neg]
  rw [fromK_len] at h1
  omega
theorem fromK_all (n : Nat) (f : Nat → Int) : fromK n f 0 = (List.range n).map f := by
  unfold fromK
  simp
end Go.Proofs.YtadlpfbjnpbnoaaGreatDoor
